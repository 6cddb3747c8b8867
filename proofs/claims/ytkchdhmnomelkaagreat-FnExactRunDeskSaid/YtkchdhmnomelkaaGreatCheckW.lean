/- One check of a desk that is worked on: the first card's header, and what is owned when it has moved. -/
import Derived.Test.YtkchdhmnomelkaaGreatDeskW
import Derived.Test.YtkchdhmnomelkaaGreatCheckP
namespace Go.Proofs.YtkchdhmnomelkaaGreat
open Go.RowKit

section
variable {α : Type} {sh : Sh α} {w : World} {S : Nat → Prop} {t ti : TypeId} {A : Option Addr} {k : Nat} {xs : List α}
/-- The first element: its header, its slice, and the rest, which owns nothing of that slice's block. -/
theorem MineO.head (h : MineO sh w S t ti A (k + 1) xs) : ∃ (r : Hd α) (ys : List α) (g off : Nat), xs = r.x :: ys ∧ A = some ⟨g, off, none⟩ ∧ S g ∧
    (∀ (j : Nat) (u : Value), (sh.enc r)[j]? = some u → w.cell? ⟨g, off + j, none⟩ = some u) ∧ Mine w S ti sh.is r.A r.n r.c (sh.inner r.x) ∧ ¬ OwnB r.A g ∧
    MineO sh w (fun b => S b ∧ ¬ OwnB r.A b) t ti (some ⟨g, off + sh.s, none⟩) k ys := by
  have ht := fun g off (e : A = some ⟨g, off, none⟩) => MineO.tail (g := g) (off := off) (e ▸ h)
  obtain ⟨rs, rfl, hin, hl, h4⟩ := h
  rcases h4 with h4 | ⟨g, off, cs, rfl, hS, hB, hle, htk, hag⟩
  · omega
  · cases rs with
    | nil => simp at hl
    | cons r rs =>
      obtain ⟨rs', hrs', hin', hl', h4'⟩ := ht g off rfl
      refine ⟨r, rs.map Hd.x, g, off, rfl, rfl, hS, fun j u hu => ?_, hin.each r (by simp), hag r (by simp), ?_⟩
      · rw [hB.cellp j _ rfl]
        have hj : j < sh.s := by
          have := (List.getElem?_eq_some_iff.1 hu).1
          rwa [sh.len] at this
        have h5 := congrArg (fun l => l[j]?) htk
        rw [List.flatMap_cons, List.getElem?_append_left (by rw [sh.len]; exact hj), hu, List.getElem?_take, if_pos (by rw [Nat.succ_mul]; omega)] at h5
        exact h5
      · have hp := List.pairwise_cons.1 hin.pair
        simp only [List.length_cons, Nat.add_right_cancel_iff] at hl
        have hs : sh.s ≤ cs.length := by rw [Nat.succ_mul] at hle; omega
        refine ⟨rs, rfl, ⟨fun r' hr' => ?_, hp.2⟩, hl, .inr ⟨g, off + sh.s, cs.drop sh.s, rfl, ⟨hS, hag r (by simp)⟩, hB.drop sh.s hs, ?_, ?_, fun r' hr' => hag r' (by simp [hr'])⟩⟩
        · have hm := hin.each r' (List.mem_cons_of_mem _ hr')
          exact ⟨hm.own, fun b hb => ⟨hm.top b hb, fun hb2 => hp.1 r' hr' b hb2 hb⟩⟩
        · rw [List.length_drop]
          rw [Nat.succ_mul] at hle
          omega
        · have h5 := congrArg (List.drop sh.s) htk
          simp only [List.flatMap_cons] at h5
          rw [List.drop_left' (sh.len r), List.drop_take, show (k + 1) * sh.s - sh.s = k * sh.s by rw [Nat.succ_mul]; omega] at h5
          exact h5
end
/-- The first card of a desk's queue, and the desk without it: its punches are owned apart. -/
theorem MineCW.first {w : World} {S : Nat → Prop} {col : Nat → Nat} {h : DeskH} {d : DeskV} {k : Nat} (m : MineCW w S col h d) (hn : h.n2 = k + 1) :
    ∃ (r : Hd Card) (q : List Card) (g off : Nat), d.queue = r.x :: q ∧ h.A2 = some ⟨g, off, none⟩ ∧
      (w.cell? ⟨g, off, none⟩ = some (.int .i64 r.x.number) ∧ w.cell? ⟨g, off + 1, none⟩ = some (.int .i64 r.x.start) ∧ w.cell? ⟨g, off + 2, none⟩ = some (.int .i64 r.x.finish) ∧ w.cell? ⟨g, off + 3, none⟩ = some (.slice r.A r.n r.c)) ∧
      Mine w (Hue S col 2) 106 2 r.A r.n r.c (r.x.punches.flatMap Punch.enc) ∧
      MineO cardSh w (fun b => Hue S col 2 b ∧ ¬ OwnB r.A b) 43 106 (some ⟨g, off + 4, none⟩) k q := by
  obtain ⟨r, q, g, off, h1, h2, -, h4, h5, -, h7⟩ := MineO.head (hn ▸ m.f2)
  exact ⟨r, q, g, off, h1, h2, ⟨h4 0 _ rfl, h4 1 _ rfl, h4 2 _ rfl, h4 3 _ rfl⟩, h5, h7⟩
/-- The first card is no longer in the queue (its punches belong to nobody): what a row is put for. -/
theorem MineCW.done {w w' : World} {S : Nat → Prop} {col : Nat → Nat} {h : DeskH} {d : DeskV} {q : List Card} {rA A3 : Option Addr} {A2 : Option Addr} {n3 c3 n2 c2 : Nat} {ds : List DeskRow} (m : MineCW w S col h d) (hS : ∀ b, S b → b < w.heap.size)
    (m2 : MineO cardSh w (fun b => Hue S col 2 b ∧ ¬ OwnB rA b) 43 106 A2 n2 q)
    (ho : Only (Hue S col 3) w w') (m3 : Mine w' (fun b => Hue S col 3 b ∨ (w.heap.size ≤ b ∧ b < w'.heap.size)) 84 3 A3 n3 c3 (ds.flatMap DeskRow.enc)) :
    MineW w' (fun b => S b ∨ (w.heap.size ≤ b ∧ b < w'.heap.size)) ⟨h.A0, h.n0, h.c0, h.A1, h.n1, h.c1, A2, n2, c2, A3, n3, c3, h.A4, h.n4, h.c4⟩ { d with queue := q, done := ds } := by
  have h0 := m.f0.only ho (Hue.apart (by decide))
  have h1 := m.f1.only ho (Hue.apart (by decide))
  have h2 := (m2.wide (U := Hue S col 2) fun b hb => hb.1).only ho (Hue.apart (by decide))
  have h4 := m.f4.only ho (Hue.apart (by decide))
  have hlt : ∀ i b, Hue S col i b → b < w.heap.size := fun i b hb => hS b hb.1
  exact MineW.of5 h0 h1 h2 m3 h4 (fun b hb => .inl hb.1) (fun b hb => .inl hb.1) (fun b hb => .inl hb.1) (fun b hb => hb.imp (·.1) id) (fun b hb => .inl hb.1)
    (Hue.apart (by decide)) (Hue.apart (by decide)) (fun b h5 h6 => h6.elim (Hue.apart (by decide) b h5) fun h7 => by have := hlt _ b h5; omega) (Hue.apart (by decide)) (Hue.apart (by decide)) (fun b h5 h6 => h6.elim (Hue.apart (by decide) b h5) fun h7 => by have := hlt _ b h5; omega) (Hue.apart (by decide))
    (fun b h5 h6 => h6.elim (Hue.apart (by decide) b h5) fun h7 => by have := hlt _ b h5; omega) (Hue.apart (by decide)) (fun b h5 h6 => h5.elim (fun h7 => Hue.apart (by decide) b h7 h6) fun h7 => by have := hlt _ b h6; omega)
/-- The first card has moved to trouble, with its punches. -/
theorem MineCW.trouble {w w' : World} {S : Nat → Prop} {col : Nat → Nat} {h : DeskH} {d : DeskV} {q : List Card} {r : Hd Card} {A2 A4 : Option Addr} {n4 c4 n2 c2 : Nat} {rs : List (Hd Card)} (m : MineCW w S col h d) (hS : ∀ b, S b → b < w.heap.size)
    (hrs : rs.map Hd.x = d.trouble) (hi : Inners cardSh w (Hue S col 4) 106 rs) (hap : ∀ y ∈ rs, ∀ b, OwnB y.A b → ¬ OwnB h.A4 b)
    (mr : Mine w (Hue S col 2) 106 2 r.A r.n r.c (r.x.punches.flatMap Punch.enc))
    (m2 : MineO cardSh w (fun b => Hue S col 2 b ∧ ¬ OwnB r.A b) 43 106 A2 n2 q)
    (hA4 : ∀ b, OwnB h.A4 b → Hue S col 4 b) (ho : Only (OwnB h.A4) w w') (hat : ∀ b, OwnB A4 b → OwnB h.A4 b ∨ (w.heap.size ≤ b ∧ b < w'.heap.size))
    (m4 : w'.ownsRow 0 43 4 (.slice A4 n4 c4) n4 ((rs ++ [r]).flatMap cardSh.enc)) :
    MineW w' (fun b => S b ∨ (w.heap.size ≤ b ∧ b < w'.heap.size)) ⟨h.A0, h.n0, h.c0, h.A1, h.n1, h.c1, A2, n2, c2, h.A3, h.n3, h.c3, A4, n4, c4⟩ { d with queue := q, trouble := d.trouble ++ [r.x] } := by
  have hOh : ∀ {i : Nat}, i ≠ 4 → ∀ b, Hue S col i b → OwnB h.A4 b → False := fun hi b h5 h6 => Hue.apart hi b h5 (hA4 b h6)
  have h0 := m.f0.only ho (hOh (by decide))
  have h1 := m.f1.only ho (hOh (by decide))
  have h2 := m2.only ho (fun b h5 h6 => hOh (by decide) b h5.1 h6)
  have h3 := m.f3.only ho (hOh (by decide))
  have hr := (mr.only ho (hOh (by decide))).exact_
  have hlt : ∀ i b, Hue S col i b → b < w.heap.size := fun i b hb => hS b hb.1
  have hin := hi.onlyA ho (fun y hy b h5 h6 => hap y hy b h5 h6)
  have hin2 := hin.snoc (x := r.x) (A := r.A) (n := r.n) (c := r.c) hr (fun b h5 h6 => Hue.apart (by decide) b h5 (mr.top b h6))
  have hT4 : MineN cardSh w' (fun b => (Hue S col 4 b ∨ OwnB r.A b) ∨ (w.heap.size ≤ b ∧ b < w'.heap.size)) 43 106 A4 n4 c4 (d.trouble ++ [r.x]) := by
    refine ⟨rs ++ [r], by rw [List.map_append, hrs]; rfl, ⟨⟨m4, fun b hb => (hat b hb).imp (fun h5 => .inl (hA4 b h5)) id⟩, hin2.wide fun b hb => .inl hb, fun y hy b h5 h6 => ?_⟩⟩
    rcases List.mem_append.1 hy with hy | hy
    · rcases hat b h6 with h7 | h7
      · exact hap y hy b h5 h7
      · have := hlt _ b ((hi.each y hy).top b h5); omega
    · obtain rfl := List.mem_singleton.1 hy
      rcases hat b h6 with h7 | h7
      · exact Hue.apart (by decide) b (mr.top b h5) (hA4 b h7)
      · have := hlt _ b (mr.top b h5); omega
  have h4x : ∀ {i : Nat}, i ≠ 4 → i ≠ 2 → ∀ b, Hue S col i b → ((Hue S col 4 b ∨ OwnB r.A b) ∨ (w.heap.size ≤ b ∧ b < w'.heap.size)) → False := fun hi4 hi2 b h5 h6 => by
    rcases h6 with (h6 | h6) | h6
    · exact Hue.apart hi4 b h5 h6
    · exact Hue.apart hi2 b h5 (mr.top b h6)
    · have := hlt _ b h5; omega
  exact MineW.of5 h0 h1 h2 h3 hT4 (fun b hb => .inl hb.1) (fun b hb => .inl hb.1) (fun b hb => .inl hb.1.1) (fun b hb => .inl hb.1) (fun b hb => hb.imp (fun h5 => h5.elim (·.1) fun h6 => (mr.top b h6).1) id)
    (Hue.apart (by decide)) (fun b h5 h6 => Hue.apart (by decide) b h5 h6.1) (Hue.apart (by decide)) (h4x (by decide) (by decide)) (fun b h5 h6 => Hue.apart (by decide) b h5 h6.1) (Hue.apart (by decide)) (h4x (by decide) (by decide))
    (fun b h5 h6 => Hue.apart (by decide) b h5.1 h6) (fun b h5 h6 => by
      rcases h6 with (h6 | h6) | h6
      · exact Hue.apart (by decide) b h5.1 h6
      · exact h5.2 h6
      · have := hlt _ b h5.1; omega) (h4x (by decide) (by decide))

end Go.Proofs.YtkchdhmnomelkaaGreat
