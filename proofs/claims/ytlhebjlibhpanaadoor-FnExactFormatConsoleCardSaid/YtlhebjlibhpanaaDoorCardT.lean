/- The law's own helpers over cards: printed by nest.py. -/
import Derived.Test.YtlhebjlibhpanaaDoorNest
import Derived.Test.YtlhebjlibhpanaaDoorPunchT
namespace Go.Proofs.YtlhebjlibhpanaaDoor
open Go.RowKit

theorem wtN_mem {α : Type} (f : α → Nat) {x : α} : ∀ {l : List α} (_ : x ∈ l), f x ≤ wtN f l
  | y :: l, h => by
    rcases List.mem_cons.1 h with rfl | h
    · simp only [wtN]; omega
    · have := wtN_mem f h; simp only [wtN]; omega
structure Card where
  number : Int
  start : Int
  finish : Int
  punches : List Punch
deriving DecidableEq
def cardSh : Sh Card := ⟨fun r => [(.int .i64 r.x.number), (.int .i64 r.x.start), (.int .i64 r.x.finish), (.slice r.A r.n r.c)], 4, 2, fun x => (x.punches.flatMap Punch.enc), by decide, fun _ => rfl⟩
def Card.cnt (x : Card) : Nat := x.punches.length
/-- how many marks it takes -/
def Card.wt (x : Card) : Nat := x.punches.length * 2 + 3
def Card.mark (k : Int) (x : Card) : Card := ⟨k, k + 1, k + 1 + 1, (marksOf Punch.mark 2 (k + 1 + 1 + 1) x.punches.length)⟩
theorem info_impl_Card : (Tryd.prog.info? 54).map (fun i => (i.zero, i.size, i.bytes)) = some (some (.agg #[.int .i64 0, .int .i64 0, .int .i64 0, .slice none 0 0]), 4, 48) := by kernel_rfl
theorem SeesCard.elem {w : World} {lo n k : Nat} {A : Option Addr} {xs : List Card} (h : SeesN cardSh w lo A n xs) (hk : k < n) :
    ∃ (b off : Nat) (B : Option Addr) (m d : Nat), A = some ⟨b, off, none⟩ ∧ ∃ hkx : k < xs.length, w.cell? ⟨b, off + k * 4, none⟩ = some (.int .i64 xs[k].number) ∧ w.cell? ⟨b, off + k * 4 + 1, none⟩ = some (.int .i64 xs[k].start) ∧ w.cell? ⟨b, off + k * 4 + 2, none⟩ = some (.int .i64 xs[k].finish) ∧ w.cell? ⟨b, off + k * 4 + 3, none⟩ = some (.slice B m d) ∧ Sees w lo 2 B m (xs[k].punches.flatMap Punch.enc) := by
  obtain ⟨rs, rfl, h2, h3⟩ := h
  obtain ⟨b, off, rfl, hkx, c0, c1, c2, c3⟩ := Sees.elem4 (enc := cardSh.enc) h2 (fun _ => rfl) hk
  have hx : (rs.map Hd.x)[k]'(by simpa using hkx) = rs[k].x := by simp
  refine ⟨b, off, rs[k].A, rs[k].n, rs[k].c, rfl, by simpa using hkx, ?_, ?_, ?_, ?_, ?_⟩
  · rw [c0, hx]
  · rw [c1, hx]
  · rw [c2, hx]
  · rw [c3]
  · rw [hx]; exact h3 rs[k] (List.getElem_mem hkx)

theorem Card.wt_total (xs : List Card) : wtN Card.wt xs = wtN Card.cnt xs * 2 + xs.length * 3 := by
  induction xs with
  | nil => rfl
  | cons x l ih => simp only [wtN, ih, List.length_cons, Card.wt, Card.cnt]; omega

set_option maxRecDepth 100000 in
theorem toCard_any (A : Option Addr) (n c lo : Nat) (x : Card) (w : World) (hx : Sees w lo 2 A n (x.punches.flatMap Punch.enc)) (hn : n ≤ 1048576) :
    Calls Tryd.prog 52 #[.agg #[(.int .i64 x.number), (.int .i64 x.start), (.int .i64 x.finish), (.slice A n c)]] w fun e w' => ∃ B1, e = .returned (.agg #[(.int .i64 x.number), (.int .i64 x.start), (.int .i64 x.finish), (.slice B1 n n)]) ∧ Mine w' (In (w.heap.size + 1) w'.heap.size) 80 2 B1 n n (x.punches.flatMap Punch.enc) ∧ Below w.heap.size w w' := by
  go_enter Tryd.func52, Tryd.ntmps52
  go_wp2_with fail
  have K0 : Below w.heap.size w _ := (((Below.refl w.heap.size w).alloc (Nat.le_refl _) (.cells #[(.int .i64 x.number), (.int .i64 x.start), (.int .i64 x.finish), (.slice A n c)] 71)).alloc (by simp) (.cells #[.int .i64 0, .int .i64 0, .int .i64 0, .slice none 0 0] 54)).alloc (by simp; omega) (.cells #[(.int .i64 x.number), (.int .i64 x.start), (.int .i64 x.finish), .slice none 0 0] 54)
  refine (toPunchS_any _ _ _ _ _ ((hx.less (Nat.zero_le _)).next K0) hn).mono ?_
  rintro e w1 ⟨B1, rfl, o1, b1⟩
  have K1 := bel_then K0 b1
  have z1 : w.heap.size + 1 + 1 + 1 ≤ w1.heap.size := by have := b1.size; simpa using this
  have R1 : Blk w1 (w.heap.size + 1) 54 [.int .i64 0, .int .i64 0, .int .i64 0, .slice none 0 0] := ((Blk.at_ (by simp)).alloc _).next b1
  have L1 : Blk w1 (w.heap.size + 1 + 1) 54 [(.int .i64 x.number), (.int .i64 x.start), (.int .i64 x.finish), .slice none 0 0] := (Blk.at_ (by simp)).next b1
  have P1 : Blk w1 w.heap.size 71 [(.int .i64 x.number), (.int .i64 x.start), (.int .i64 x.finish), (.slice A n c)] := (((Blk.at_ rfl).alloc _).alloc _).next b1
  have p1 := P1.cell
  have l1 := L1.cell
  have lf1 := L1.frozen
  have r1 := R1.cell
  have rf1 := R1.frozen
  go_wp2_with fail
  have RF := (((((R1.far (p := ⟨w.heap.size + 1 + 1, 3, none⟩) (by simp) (.slice B1 n n)).set_ 0 (.int .i64 x.number)).set_ 1 (.int .i64 x.start)).set_ 2 (.int .i64 x.finish)).set_ 3 (.slice B1 n n))
  have O3 := ((((((Only.refl (fun b => b = w.heap.size + 1 ∨ b = w.heap.size + 1 + 1) w1).setCell (p := ⟨w.heap.size + 1 + 1, 3, none⟩) (.inr rfl) (.slice B1 n n)).setCell (p := ⟨w.heap.size + 1, 0, none⟩) (.inl rfl) (.int .i64 x.number)).setCell (p := ⟨w.heap.size + 1, 1, none⟩) (.inl rfl) (.int .i64 x.start)).setCell (p := ⟨w.heap.size + 1, 2, none⟩) (.inl rfl) (.int .i64 x.finish)).setCell (p := ⟨w.heap.size + 1, 3, none⟩) (.inl rfl) (.slice B1 n n))
  have M1 := (Mine.of o1).only O3 (fun b h1 h2 => by have := h1.1; simp at this; rcases h2 with h2 | h2 <;> omega)
  have zF := O3.size
  refine bodyPost_ret (results_cell_row rfl _ _ (w.heap.size + 1) _ _ (0, 0) _ rfl RF Tryd.underlying54 rfl (by kernel_rfl)) rfl ⟨B1, rfl, M1.wide ?_, ?_⟩
  · intro b hb
    have h1 := hb.1
    have h2 := hb.2
    simp at h1
    exact ⟨by omega, by omega⟩
  · exact K1.trans (O3.below (fun k hk => by rcases hk with hk | hk <;> omega) (by omega))

theorem szPunchSx_any (A : Option Addr) (n c : Nat) (left : Int) (w : World) (hn : n ≤ 9223372036854775807) (hl : 0 ≤ left) (hl' : left ≤ 1048576) :
    Calls Tryd.prog 63 #[.slice A n c, .int .i64 left] w fun e w' => ∃ l : Int, e = .returned (.int .i64 l) ∧ w = w' ∧ (l = -1 ∨ 0 ≤ l ∧ l = left - n) := by
  by_cases hlt : left - n < 0
  · go_enter Tryd.func63, Tryd.ntmps63
    go_wp2
    go_ret
    exact ⟨_, rfl, rfl, .inl rfl⟩
  · go_enter Tryd.func63, Tryd.ntmps63
    go_wp2
    go_ret
    exact ⟨_, rfl, rfl, .inr ⟨by omega, rfl⟩⟩

theorem szCard_any (A : Option Addr) (n c : Nat) (x : Card) (left : Int) (w : World) (hn : n ≤ 9223372036854775807) (hl : 0 ≤ left) (hl' : left ≤ 1048576) :
    Calls Tryd.prog 46 #[.agg #[(.int .i64 x.number), (.int .i64 x.start), (.int .i64 x.finish), (.slice A n c)], .int .i64 left] w fun e w' => ∃ l : Int, e = .returned (.int .i64 l) ∧ Below w.heap.size w w' ∧ (l = -1 ∨ 0 ≤ l ∧ l = left - n) := by
  go_enter Tryd.func46, Tryd.ntmps46
  go_wp2_with fail
  refine (szPunchSx_any _ _ _ _ _ hn hl hl').mono ?_
  rintro e w' ⟨l1, rfl, rfl, rfl | h1⟩
  · go_wp2_with fail
    go_ret
    exact ⟨_, rfl, (Below.refl _ _).alloc (Nat.le_refl _) _, .inl rfl⟩
  · go_wp2_with fail
    go_ret
    exact ⟨_, rfl, (Below.refl _ _).alloc (Nat.le_refl _) _, .inr (by omega)⟩

theorem eqCard_any (A B : Option Addr) (n n' c c' lo lo' : Nat) (x y : Card) (w : World) (hx : Sees w lo 2 A n (x.punches.flatMap Punch.enc)) (hy : Sees w lo' 2 B n' (y.punches.flatMap Punch.enc)) (he : x = y) (hn : n ≤ 1048576) :
    Calls Tryd.prog 58 #[.agg #[(.int .i64 x.number), (.int .i64 x.start), (.int .i64 x.finish), (.slice A n c)], .agg #[(.int .i64 y.number), (.int .i64 y.start), (.int .i64 y.finish), (.slice B n' c')]] w fun e w' => e = .returned (.bool true) ∧ Below w.heap.size w w' := by
  subst he
  go_enter Tryd.func58, Tryd.ntmps58
  go_wp2_with fail
  have K0 : Below w.heap.size w _ := ((Below.refl w.heap.size w).alloc (Nat.le_refl _) (.cells #[(.int .i64 x.number), (.int .i64 x.start), (.int .i64 x.finish), (.slice A n c)] 54)).alloc (by simp) (.cells #[(.int .i64 x.number), (.int .i64 x.start), (.int .i64 x.finish), (.slice B n' c')] 54)
  refine (eqPunchS_any _ _ _ _ _ _ _ _ _ _ _ (hx.next K0) (hy.next K0) rfl (by omega)).mono ?_
  rintro e w1 ⟨rfl, b1⟩
  have K1 := bel_then K0 b1
  have P1 : Blk w1 w.heap.size 54 [(.int .i64 x.number), (.int .i64 x.start), (.int .i64 x.finish), (.slice A n c)] := ((Blk.at_ rfl).alloc _).next b1
  have P2 : Blk w1 (w.heap.size + 1) 54 [(.int .i64 x.number), (.int .i64 x.start), (.int .i64 x.finish), (.slice B n' c')] := (Blk.at_ (by simp)).next b1
  have p1 := P1.cell
  have p2 := P2.cell
  go_wp2_with fail
  go_ret
  exact ⟨rfl, K1⟩

end Go.Proofs.YtlhebjlibhpanaaDoor
