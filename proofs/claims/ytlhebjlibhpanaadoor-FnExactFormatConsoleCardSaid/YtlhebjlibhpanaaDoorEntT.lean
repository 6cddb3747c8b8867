/- The law's own helpers over entrants: printed by nest.py and g_ent.py. -/
import Derived.Test.YtlhebjlibhpanaaDoorCardT
namespace Go.Proofs.YtlhebjlibhpanaaDoor
open Go.RowKit

theorem Sees.elem5 {α : Type} {w : World} {lo n k : Nat} {A : Option Addr} {ds : List α} {enc : α → List Value} {f0 f1 f2 f3 f4 : α → Value} (h : Sees w lo 5 A n (ds.flatMap enc)) (he : ∀ x, enc x = [f0 x, f1 x, f2 x, f3 x, f4 x]) (hk : k < n) :
    ∃ b off, A = some ⟨b, off, none⟩ ∧ ∃ hx : k < ds.length, w.cell? ⟨b, off + k * 5, none⟩ = some (f0 ds[k]) ∧ w.cell? ⟨b, off + k * 5 + 1, none⟩ = some (f1 ds[k]) ∧ w.cell? ⟨b, off + k * 5 + 2, none⟩ = some (f2 ds[k]) ∧ w.cell? ⟨b, off + k * 5 + 3, none⟩ = some (f3 ds[k]) ∧ w.cell? ⟨b, off + k * 5 + 4, none⟩ = some (f4 ds[k]) := by
  obtain ⟨b, off, e, hx, hc⟩ := h.elem (by decide) (fun x => by rw [he]; rfl) hk
  exact ⟨b, off, e, hx, hc 0 _ (by rw [he]; rfl), hc 1 _ (by rw [he]; rfl), hc 2 _ (by rw [he]; rfl), hc 3 _ (by rw [he]; rfl), hc 4 _ (by rw [he]; rfl)⟩
structure Entrant where
  state : Int
  number : Int
  start : Int
  finish : Int
  punches : List Punch
deriving DecidableEq
def entrantSh : Sh Entrant := ⟨fun r => [(.int .i64 r.x.state), (.int .i64 r.x.number), (.int .i64 r.x.start), (.int .i64 r.x.finish), (.slice r.A r.n r.c)], 5, 2, fun x => (x.punches.flatMap Punch.enc), by decide, fun _ => rfl⟩
def Entrant.cnt (x : Entrant) : Nat := x.punches.length
/-- how many marks it takes -/
def Entrant.wt (x : Entrant) : Nat := x.punches.length * 2 + 4
def Entrant.mark (k : Int) (x : Entrant) : Entrant := ⟨k, k + 1, k + 1 + 1, k + 1 + 1 + 1, (marksOf Punch.mark 2 (k + 1 + 1 + 1 + 1) x.punches.length)⟩
theorem info_impl_Entrant : (Tryd.prog.info? 56).map (fun i => (i.zero, i.size, i.bytes)) = some (some (.agg #[.int .i64 0, .int .i64 0, .int .i64 0, .int .i64 0, .slice none 0 0]), 5, 56) := by kernel_rfl
theorem SeesEntrant.elem {w : World} {lo n k : Nat} {A : Option Addr} {xs : List Entrant} (h : SeesN entrantSh w lo A n xs) (hk : k < n) :
    ∃ (b off : Nat) (B : Option Addr) (m d : Nat), A = some ⟨b, off, none⟩ ∧ ∃ hkx : k < xs.length, w.cell? ⟨b, off + k * 5, none⟩ = some (.int .i64 xs[k].state) ∧ w.cell? ⟨b, off + k * 5 + 1, none⟩ = some (.int .i64 xs[k].number) ∧ w.cell? ⟨b, off + k * 5 + 2, none⟩ = some (.int .i64 xs[k].start) ∧ w.cell? ⟨b, off + k * 5 + 3, none⟩ = some (.int .i64 xs[k].finish) ∧ w.cell? ⟨b, off + k * 5 + 4, none⟩ = some (.slice B m d) ∧ Sees w lo 2 B m (xs[k].punches.flatMap Punch.enc) := by
  obtain ⟨rs, rfl, h2, h3⟩ := h
  obtain ⟨b, off, rfl, hkx, c0, c1, c2, c3, c4⟩ := Sees.elem5 (enc := entrantSh.enc) h2 (fun _ => rfl) hk
  have hx : (rs.map Hd.x)[k]'(by simpa using hkx) = rs[k].x := by simp
  refine ⟨b, off, rs[k].A, rs[k].n, rs[k].c, rfl, by simpa using hkx, ?_, ?_, ?_, ?_, ?_, ?_⟩
  · rw [c0, hx]
  · rw [c1, hx]
  · rw [c2, hx]
  · rw [c3, hx]
  · rw [c4]
  · rw [hx]; exact h3 rs[k] (List.getElem_mem hkx)

theorem Entrant.wt_total (xs : List Entrant) : wtN Entrant.wt xs = wtN Entrant.cnt xs * 2 + xs.length * 4 := by
  induction xs with
  | nil => rfl
  | cons x l ih => simp only [wtN, ih, List.length_cons, Entrant.wt, Entrant.cnt]; omega

/-- the card of an entrant -/
def Entrant.card (x : Entrant) : Card := ⟨x.number, x.start, x.finish, x.punches⟩
theorem eqEntrant_any (A B : Option Addr) (n n' c c' lo lo' : Nat) (x y : Entrant) (w : World) (hx : Sees w lo 2 A n (x.punches.flatMap Punch.enc)) (hy : Sees w lo' 2 B n' (y.punches.flatMap Punch.enc)) (he : x = y) (hn : n ≤ 1048576) :
    Calls Tryd.prog 44 #[.agg #[.int .i64 x.state, .int .i64 x.number, .int .i64 x.start, .int .i64 x.finish, .slice A n c], .agg #[.int .i64 y.state, .int .i64 y.number, .int .i64 y.start, .int .i64 y.finish, .slice B n' c']] w fun e w' => e = .returned (.bool true) ∧ Below w.heap.size w w' := by
  subst he
  go_enter Tryd.func44, Tryd.ntmps44
  go_wp2_with fail
  have K0 : Below w.heap.size w _ := ((Below.refl w.heap.size w).alloc (Nat.le_refl _) (.cells #[.int .i64 x.state, .int .i64 x.number, .int .i64 x.start, .int .i64 x.finish, .slice A n c] 56)).alloc (by simp) (.cells #[.int .i64 x.state, .int .i64 x.number, .int .i64 x.start, .int .i64 x.finish, .slice B n' c'] 56)
  refine (eqCard_any _ _ _ _ c c' _ _ x.card x.card _ (hx.next K0) (hy.next K0) rfl hn).mono ?_
  rintro e w1 ⟨rfl, b1⟩
  have K1 := bel_then K0 b1
  go_wp2_with fail
  go_ret
  exact ⟨rfl, K1⟩
set_option maxRecDepth 100000 in
theorem eqEntrantS_any (A A' : Option Addr) (n n' c c' lo lo' : Nat) (xs ys : List Entrant) (w : World) (hx : SeesN entrantSh w lo A n xs) (hy : SeesN entrantSh w lo' A' n' ys) (he : xs = ys) (hn : n ≤ 140737488355328) (hi : ∀ x ∈ xs, x.cnt ≤ 1048576) :
    Calls Tryd.prog 31 #[.slice A n c, .slice A' n' c'] w fun e w' => e = .returned (.bool true) ∧ Below w.heap.size w w' := by
  subst he
  have hl := hx.count
  have hl' := hy.count
  obtain rfl : n = n' := by omega
  go_enter Tryd.func31, Tryd.ntmps31
  go_wp2_with fail
  go_loopw [5] (fun v wr => ∃ k : Nat, k ≤ n ∧ v = .int .i64 k ∧ Below w.heap.size w wr) (fun v _ => n - (intOf v).toNat)
  case atStart => exact ⟨0, Nat.zero_le _, rfl, Below.refl _ _⟩
  case round =>
    obtain ⟨k, hk, rfl, hb⟩ := hrel
    by_cases hlt : k < n
    · obtain ⟨b, off, B0, m, cc0, rfl, hkx, c0, c1, c2, c3, c4, hxi⟩ := SeesEntrant.elem (hx.next hb) hlt
      obtain ⟨b', off', B0', m', cc1, rfl, hky, d0, d1, d2, d3, d4, hyi⟩ := SeesEntrant.elem (hy.next hb) hlt
      have hm : m ≤ 1048576 := by
        have h1 := hi xs[k] (List.getElem_mem hkx)
        have h2 := hxi.count (by decide) (fun _ => rfl)
        unfold Entrant.cnt at h1
        omega
      have hb' := bel_quiet hb (Quiet.one wr)
      replace hxi := hxi.quiet (Quiet.one wr)
      replace hyi := hyi.quiet (Quiet.one wr)
      go_wp2_with fail
      refine wp_region_still_tail 8 (by kernel_rfl) (by kernel_rfl) ?_
      simp only [List.take_succ_cons, List.take_zero, List.drop_succ_cons, List.drop_zero]
      change wpStill _ _ wr.drew _ _ _
      repeat still_step
      refine wpStill_nil ?_
      change wpList _ _ _ _ _ wr.drew
      generalize wr.drew = w2 at *
      go_wp2_with fail
      refine (eqEntrant_any _ _ _ _ cc0 cc1 _ _ xs[k] xs[k] _ hxi hyi rfl hm).mono ?_
      rintro e w1 ⟨rfl, hb1⟩
      go_wp2_with fail
      go_roundw
      case rel => exact ⟨k + 1, by omega, by go_num, bel_then hb' hb1⟩
      case measure => simp [intOf]; omega
    · go_wp2_with fail
      go_ret
      exact ⟨rfl, hb⟩

end Go.Proofs.YtlhebjlibhpanaaDoor
