/- The draw of a way. -/
import Derived.Test.YtljiflbaknakaaaCurAs
import Derived.Test.YtljiflbaknakaaaGap
namespace Go.Proofs.Ytljiflbaknakaaa
open Go.RowKit

theorem prod10 {a b : Int} (ha : 1 ≤ a ∧ a ≤ 10) (hb : 1 ≤ b ∧ b ≤ 10) : 1 ≤ a * b ∧ a * b ≤ 100 := by
  have h1 : 1 * 1 ≤ a * b := Int.mul_le_mul ha.1 hb.1 (by decide) (by omega)
  have h2 : a * b ≤ 10 * 10 := Int.mul_le_mul ha.2 hb.2 (by omega) (by decide)
  omega
set_option maxRecDepth 100000 in
set_option maxHeartbeats 2000000 in
theorem besideW_any (A1 A2 : Option Addr) (n1 n2 c1 c2 : Nat) (m : MapV) (a : Int) (w : World) (hs : (1 ≤ m.width ∧ m.width ≤ 10) ∧ (1 ≤ m.height ∧ m.height ≤ 10)) (ha : 0 ≤ a ∧ a ≤ 1000000) :
    Calls Try.prog 89 #[.agg #[.int .i64 m.width, .int .i64 m.height, .slice A1 n1 c1, .slice A2 n2 c2], .int .i64 a] w (GivesL w (besideL m.width m.height a)) := by
  have r1 : IntKind.i64.wrap (a.tmod m.width) = a % m.width := by rw [Int.tmod_eq_emod_of_nonneg ha.1]; exact IntWalk.i64_in _ (by have := Int.emod_nonneg a (show m.width ≠ 0 by omega); have := Int.emod_lt_of_pos a (show 0 < m.width by omega); omega)
  have hp := prod10 hs.1 hs.2
  have r2 : IntKind.i64.wrap (m.width * m.height) = m.width * m.height := IntWalk.i64_in _ (by omega)
  have r3 : IntKind.i64.wrap (a + m.width) = a + m.width := IntWalk.i64_in _ (by omega)
  have r4 : IntKind.i64.wrap (m.width - 1) = m.width - 1 := IntWalk.i64_in _ (by omega)
  have hz0 : (m.width == 0) = false := by simp; omega
  go_enter Try.func89, Try.ntmps89
  go_upto_if 10 with (fail)
  have hown : ((w.alloc (.cells #[.int .i64 m.width, .int .i64 m.height, .slice A1 n1 c1, .slice A2 n2 c2] 29)).alloc (.cells #[] 3)).ownsRow (w.heap.size + 1) 3 1 (.slice (some ⟨w.heap.size + 1, 0, none⟩) 0 0) 0 (ints []) := own_empty_at 3 1 (by simp)
  have Bm : Blk ((w.alloc (.cells #[.int .i64 m.width, .int .i64 m.height, .slice A1 n1 c1, .slice A2 n2 c2] 29)).alloc (.cells #[] 3)) w.heap.size 29 [.int .i64 m.width, .int .i64 m.height, .slice A1 n1 c1, .slice A2 n2 c2] := (Blk.at_ rfl).alloc _
  have hb : Below w.heap.size w ((w.alloc (.cells #[.int .i64 m.width, .int .i64 m.height, .slice A1 n1 c1, .slice A2 n2 c2] 29)).alloc (.cells #[] 3)) := ((Below.refl _ _).alloc (Nat.le_refl _) _).alloc (by simp) _
  have hz := Bm.lt
  have cm := Bm.cell
  go_upto_if 10 with (fail)
  go_cut [5] (fun v wr => ∃ (A : Option Addr) (c : Nat), v = .slice A (beside1 m.width m.height a).length c ∧ wr.ownsRow (w.heap.size + 1) 3 1 (.slice A (beside1 m.width m.height a).length c) (beside1 m.width m.height a).length (ints (beside1 m.width m.height a)) ∧ (beside1 m.width m.height a).length ≤ 1 ∧ Blk wr w.heap.size 29 [.int .i64 m.width, .int .i64 m.height, .slice A1 n1 c1, .slice A2 n2 c2] ∧ Below w.heap.size w wr)
  case first =>
    by_cases hc : m.width ≤ a
    · have HL := Lib.hid (show beside1 m.width m.height a = ([] : List Int) ++ [a - m.width] by unfold beside1; rw [if_pos hc])
      have hd := decide_eq_true hc
      go_wp2_with (at_builtin; go_loud (refine wpList_pushNew rfl _ _ _ rfl Try.underlying22 info_int rfl (by decide) rfl hown rfl (by simp) (by rfl) (by rfl) (by omega) (by decide) (by first | omega | (simp; omega)) ?_); intro A2 c2 w2 o2 h2 b2 q2)
      go_meet
      exact ⟨A2, c2, by rw [HL.out]; simp, by rw [HL.out]; simpa [ints] using o2, by rw [HL.out]; simp only [List.length_append, List.length_cons, List.length_nil]; omega, Bm.only h2 (own_not hown (by omega)), hb.trans (b2.mono (by omega))⟩
    · have HL := Lib.hid (show beside1 m.width m.height a = ([] : List Int) by unfold beside1; rw [if_neg hc, List.append_nil])
      have hd := decide_eq_false hc
      go_wp2_with fail
      go_meet
      exact ⟨_, _, by first | (rw [HL.out]; done) | (rw [HL.out]; rfl), by rw [HL.out]; exact hown, by rw [HL.out]; exact Nat.zero_le _, Bm, hb⟩
  case rest =>
    obtain ⟨A, c, rfl, hown, hlen, Bm, hb⟩ := hcut
    have cm := Bm.cell
    have hz := Bm.lt
    go_upto_if 22 with (fail)
    go_cut [5] (fun v wr => ∃ (A : Option Addr) (c : Nat), v = .slice A (beside2 m.width m.height a).length c ∧ wr.ownsRow (w.heap.size + 1) 3 1 (.slice A (beside2 m.width m.height a).length c) (beside2 m.width m.height a).length (ints (beside2 m.width m.height a)) ∧ (beside2 m.width m.height a).length ≤ 2 ∧ Blk wr w.heap.size 29 [.int .i64 m.width, .int .i64 m.height, .slice A1 n1 c1, .slice A2 n2 c2] ∧ Below w.heap.size w wr)
    case first =>
      by_cases hc : 0 < a % m.width
      · have HL := Lib.hid (show beside2 m.width m.height a = beside1 m.width m.height a ++ [a - 1] by unfold beside2; rw [if_pos hc])
        have hd := decide_eq_true hc
        go_wp2_with (at_builtin; go_loud (refine wpList_pushNew rfl _ _ _ rfl Try.underlying22 info_int rfl (by decide) rfl hown rfl (by simp) (by rfl) (by rfl) (by omega) (by decide) (by first | omega | (simp; omega)) ?_); intro A2 c2 w2 o2 h2 b2 q2)
        go_meet
        exact ⟨A2, c2, by rw [HL.out]; simp, by rw [HL.out]; simpa [ints] using o2, by rw [HL.out]; simp only [List.length_append, List.length_cons, List.length_nil]; omega, Bm.only h2 (own_not hown (by omega)), hb.trans (b2.mono (by omega))⟩
      · have HL := Lib.hid (show beside2 m.width m.height a = beside1 m.width m.height a by unfold beside2; rw [if_neg hc, List.append_nil])
        have hd := decide_eq_false hc
        go_wp2_with fail
        go_meet
        exact ⟨_, _, by first | (rw [HL.out]; done) | (rw [HL.out]; rfl), by rw [HL.out]; exact hown, by rw [HL.out]; exact Nat.le_succ_of_le hlen, Bm, hb⟩
    case rest =>
      obtain ⟨A, c, rfl, hown, hlen, Bm, hb⟩ := hcut
      have cm := Bm.cell
      have hz := Bm.lt
      go_wp2_with fail
      go_quiet (fail)
      replace hown := own_below hown (bel_drewN (Below.refl _ _) nq)
      replace Bm := Bm.drewN nq
      replace hb := bel_drewN hb nq
      replace cm := Bm.cell
      replace hz := Bm.lt
      go_upto_if 35 with (fail)
      go_cut [5] (fun v wr => ∃ (A : Option Addr) (c : Nat), v = .slice A (beside3 m.width m.height a).length c ∧ wr.ownsRow (w.heap.size + 1) 3 1 (.slice A (beside3 m.width m.height a).length c) (beside3 m.width m.height a).length (ints (beside3 m.width m.height a)) ∧ (beside3 m.width m.height a).length ≤ 3 ∧ Blk wr w.heap.size 29 [.int .i64 m.width, .int .i64 m.height, .slice A1 n1 c1, .slice A2 n2 c2] ∧ Below w.heap.size w wr)
      case first =>
        by_cases hc : a % m.width < m.width - 1
        · have HL := Lib.hid (show beside3 m.width m.height a = beside2 m.width m.height a ++ [a + 1] by unfold beside3; rw [if_pos hc])
          have hd := decide_eq_true hc
          go_wp2_with (at_builtin; go_loud (refine wpList_pushNew rfl _ _ _ rfl Try.underlying22 info_int rfl (by decide) rfl hown rfl (by simp) (by rfl) (by rfl) (by omega) (by decide) (by first | omega | (simp; omega)) ?_); intro A2 c2 w2 o2 h2 b2 q2)
          go_meet
          exact ⟨A2, c2, by rw [HL.out]; simp, by rw [HL.out]; simpa [ints] using o2, by rw [HL.out]; simp only [List.length_append, List.length_cons, List.length_nil]; omega, Bm.only h2 (own_not hown (by omega)), hb.trans (b2.mono (by omega))⟩
        · have HL := Lib.hid (show beside3 m.width m.height a = beside2 m.width m.height a by unfold beside3; rw [if_neg hc, List.append_nil])
          have hd := decide_eq_false hc
          go_wp2_with fail
          go_meet
          exact ⟨_, _, by first | (rw [HL.out]; done) | (rw [HL.out]; rfl), by rw [HL.out]; exact hown, by rw [HL.out]; exact Nat.le_succ_of_le hlen, Bm, hb⟩
      case rest =>
        obtain ⟨A, c, rfl, hown, hlen, Bm, hb⟩ := hcut
        have cm := Bm.cell
        have hz := Bm.lt
        go_upto_if 50 with (fail)
        go_cut [5] (fun v wr => ∃ (A : Option Addr) (c : Nat), v = .slice A (beside4 m.width m.height a).length c ∧ wr.ownsRow (w.heap.size + 1) 3 1 (.slice A (beside4 m.width m.height a).length c) (beside4 m.width m.height a).length (ints (beside4 m.width m.height a)) ∧ (beside4 m.width m.height a).length ≤ 4 ∧ Blk wr w.heap.size 29 [.int .i64 m.width, .int .i64 m.height, .slice A1 n1 c1, .slice A2 n2 c2] ∧ Below w.heap.size w wr)
        case first =>
          by_cases hc : a + m.width < m.width * m.height
          · have HL := Lib.hid (show beside4 m.width m.height a = beside3 m.width m.height a ++ [a + m.width] by unfold beside4; rw [if_pos hc])
            have hd := decide_eq_true hc
            go_wp2_with (at_builtin; go_loud (refine wpList_pushNew rfl _ _ _ rfl Try.underlying22 info_int rfl (by decide) rfl hown rfl (by simp) (by rfl) (by rfl) (by omega) (by decide) (by first | omega | (simp; omega)) ?_); intro A2 c2 w2 o2 h2 b2 q2)
            go_meet
            exact ⟨A2, c2, by rw [HL.out]; simp, by rw [HL.out]; simpa [ints] using o2, by rw [HL.out]; simp only [List.length_append, List.length_cons, List.length_nil]; omega, Bm.only h2 (own_not hown (by omega)), hb.trans (b2.mono (by omega))⟩
          · have HL := Lib.hid (show beside4 m.width m.height a = beside3 m.width m.height a by unfold beside4; rw [if_neg hc, List.append_nil])
            have hd := decide_eq_false hc
            go_wp2_with fail
            go_meet
            exact ⟨_, _, by first | (rw [HL.out]; done) | (rw [HL.out]; rfl), by rw [HL.out]; exact hown, by rw [HL.out]; exact Nat.le_succ_of_le hlen, Bm, hb⟩
        case rest =>
          obtain ⟨A, c, rfl, hown, hlen, Bm, hb⟩ := hcut
          have cm := Bm.cell
          have hz := Bm.lt
          go_wp2_with fail
          go_ret
          rw [← beside_four]
          exact ⟨_, _, rfl, own_base hown (by omega), hb⟩

theorem besideW_in (w h c k : Int) (hw : 1 ≤ w ∧ w ≤ 10) (hc : 0 ≤ c ∧ c < w * h) (hk : k ∈ besideL w h c) : 0 ≤ k ∧ k < w * h := by
  rw [beside_mem] at hk
  have : w = 1 ∨ w = 2 ∨ w = 3 ∨ w = 4 ∨ w = 5 ∨ w = 6 ∨ w = 7 ∨ w = 8 ∨ w = 9 ∨ w = 10 := by omega
  rcases this with rfl | rfl | rfl | rfl | rfl | rfl | rfl | rfl | rfl | rfl <;> omega
theorem besideW_ne (w h c : Int) (hw : 2 ≤ w ∧ w ≤ 10) (_hc : 0 ≤ c ∧ c < w * h) : 0 < (besideL w h c).length := by
  by_cases h1 : 0 < c % w
  · exact List.length_pos_of_mem ((beside_mem w h c (c - 1)).2 (.inr (.inl ⟨h1, rfl⟩)))
  · refine List.length_pos_of_mem ((beside_mem w h c (c + 1)).2 (.inr (.inr (.inl ⟨?_, rfl⟩))))
    omega
theorem besideW_len (w h c : Int) : (besideL w h c).length ≤ 4 := by
  unfold besideL
  simp only [List.length_append]
  have : ∀ (p : Prop) [Decidable p] (x : Int), (if p then [x] else []).length ≤ 1 := fun p _ x => by split <;> simp
  have h1 := this (w ≤ c) (c - w)
  have h2 := this (0 < c % w) (c - 1)
  have h3 := this (c % w < w - 1) (c + 1)
  have h4 := this (c + w < w * h) (c + w)
  omega
/-- Within the draw of a way. -/
structure WySt (w wr : World) (g n : Nat) (bx : List Value) (P : Nat) (A : Option Addr) (k c : Nat) (xs : List Int) : Prop where
  cur : Cur wr g n
  box : Blk wr w.heap.size 29 bx
  own : wr.ownsRow (w.heap.size + 1) 3 1 (.slice A k c) k (ints xs)
  inn : ∀ x ∈ xs, 0 ≤ x ∧ x < P
  only : Only (fun b => b = g) w wr
section
variable {w wr wv wa w4 : World} {g n n' P : Nat} {bx : List Value} {A A2 : Option Addr} {k c c2 : Nat} {xs : List Int} {v : Int}
theorem WySt.drawn (h : WySt w wr g n bx P A k c xs) (hg : g < w.heap.size) (hc : Cur wv g n') (ho : Only (fun b => b = g) wr wv) : WySt w wv g n' bx P A k c xs :=
  ⟨hc, h.box.only ho (fun (e : _ = _) => by omega), own_only h.own ho (fun b hb (e : _ = _) => by have := (own_top h.own hb).1; omega), h.inn, h.only.trans ho⟩
theorem WySt.more (h : WySt w wr g n bx P A k c xs) (hn : n ≤ n') : WySt w wr g n' bx P A k c xs := { h with cur := h.cur.more hn }
theorem WySt.push (h : WySt w wr g n bx P A k c xs) (hg : g < w.heap.size) (o4 : w4.ownsRow (w.heap.size + 1) 3 1 (.slice A2 (k + 1) c2) (k + 1) (ints xs ++ [.int .i64 v])) (h4 : Only (OwnB A) wr w4) (hv : 0 ≤ v ∧ v < P) : WySt w w4 g n bx P A2 (k + 1) c2 (xs ++ [v]) := by
  have ht : ∀ b, OwnB A b → w.heap.size + 1 ≤ b := fun b hb => (own_top h.own hb).1
  have o1 := h.only
  exact ⟨h.cur.keep h4 (fun hb => by have := ht _ hb; omega) (fun b hb => by have := ht _ hb; omega), h.box.only h4 (fun hb => by have := ht _ hb; omega), by rw [ints_append]; exact o4, fun x hx => (List.mem_append.1 hx).elim (h.inn x) fun h => by rw [List.mem_singleton.1 h]; exact hv, ⟨h4.os.trans o1.os, h4.tape.trans o1.tape, h4.output.trans o1.output, Nat.le_trans o1.size h4.size, fun i hi hS => (h4.block i (Nat.lt_of_lt_of_le hi o1.size) (fun hb => by have := ht _ hb; omega)).trans (o1.block i hi hS)⟩⟩
end
theorem WySt.below {w wr wv : World} {g n P : Nat} {bx : List Value} {A : Option Addr} {k c : Nat} {xs : List Int} (h : WySt w wr g n bx P A k c xs) (hb : Below wr.heap.size wr wv) : WySt w wv g n bx P A k c xs := ⟨h.cur.next hb, h.box.next hb, own_below h.own hb, h.inn, h.only.then_ hb⟩
/-- A way, drawn. -/
def DrawnWy (w : World) (g n : Nat) (e : Ending) (w' : World) : Prop := ∃ (A : Option Addr) (k c : Nat) (xs : List Int), e = .returned (.slice A k c) ∧ w'.ownsRow (w.heap.size + 1) 3 1 (.slice A k c) k (ints xs) ∧ k ≤ 45 ∧ Cur w' g n ∧ Only (fun b => b = g) w w'
theorem WySt.done {w wr : World} {g n P : Nat} {bx : List Value} {A : Option Addr} {k c : Nat} {xs : List Int} (h : WySt w wr g n bx P A k c xs) (hk : k ≤ 45) : DrawnWy w g n (.returned (.slice A k c)) wr := ⟨A, k, c, xs, rfl, h.own, hk, h.cur, h.only⟩
/-- and a cell more, whatever it is -/
theorem WySt.last {w wr w4 : World} {g n P : Nat} {bx : List Value} {A A2 : Option Addr} {k c c2 : Nat} {xs : List Int} {v : Int} (h : WySt w wr g n bx P A k c xs) (hg : g < w.heap.size) (o4 : w4.ownsRow (w.heap.size + 1) 3 1 (.slice A2 (k + 1) c2) (k + 1) (ints xs ++ [.int .i64 v])) (h4 : Only (OwnB A) wr w4) (hk : k ≤ 44) : DrawnWy w g n (.returned (.slice A2 (k + 1) c2)) w4 := by
  have ht : ∀ b, OwnB A b → w.heap.size + 1 ≤ b := fun b hb => (own_top h.own hb).1
  have o1 := h.only
  exact ⟨A2, k + 1, c2, xs ++ [v], rfl, by rw [ints_append]; exact o4, by omega, h.cur.keep h4 (fun hb => by have := ht _ hb; omega) (fun b hb => by have := ht _ hb; omega), ⟨h4.os.trans o1.os, h4.tape.trans o1.tape, h4.output.trans o1.output, Nat.le_trans o1.size h4.size, fun i hi hS => (h4.block i (Nat.lt_of_lt_of_le hi o1.size) (fun hb => by have := ht _ hb; omega)).trans (o1.block i hi hS)⟩⟩
theorem DrawnWy.more {w w' : World} {g n n' : Nat} {e : Ending} (h : DrawnWy w g n e w') (hn : n ≤ n') : DrawnWy w g n' e w' := by
  obtain ⟨A, k, c, xs, h1, h2, h3, h4, h5⟩ := h
  exact ⟨A, k, c, xs, h1, h2, h3, h4.more hn, h5⟩

set_option maxRecDepth 100000 in
set_option maxHeartbeats 8000000 in
theorem way24_any (g n : Nat) (m : MapV) (A1 A2 : Option Addr) (n1 n2 c1 c2 : Nat) (w : World) (h : Cur w g n) (hn : n ≤ 700000) (hs0 : (0 ≤ m.width ∧ m.width ≤ 10) ∧ (0 ≤ m.height ∧ m.height ≤ 10)) :
    Calls Try.prog 95 #[.pointer (some ⟨g, 0, none⟩), .agg #[.int .i64 m.width, .int .i64 m.height, .slice A1 n1 c1, .slice A2 n2 c2]] w (DrawnWy w g (n + 300)) := by
  have hg := h.lt
  have U0 : Below w.heap.size w (w.alloc (.cells #[.int .i64 m.width, .int .i64 m.height, .slice A1 n1 c1, .slice A2 n2 c2] 29)) := (Below.refl _ _).alloc (Nat.le_refl _) _
  have B0 : Blk (w.alloc (.cells #[.int .i64 m.width, .int .i64 m.height, .slice A1 n1 c1, .slice A2 n2 c2] 29)) w.heap.size 29 [.int .i64 m.width, .int .i64 m.height, .slice A1 n1 c1, .slice A2 n2 c2] := Blk.at_ rfl
  by_cases hs : (1 ≤ m.width ∧ m.width ≤ 10) ∧ (1 ≤ m.height ∧ m.height ≤ 10)
  rotate_left 1
  · have U1 : Below w.heap.size w ((w.alloc (.cells #[.int .i64 m.width, .int .i64 m.height, .slice A1 n1 c1, .slice A2 n2 c2] 29)).alloc (.cells #[.int .i64 0] 3)) := U0.alloc (by simp) _
    have B1 : Blk ((w.alloc (.cells #[.int .i64 m.width, .int .i64 m.height, .slice A1 n1 c1, .slice A2 n2 c2] 29)).alloc (.cells #[.int .i64 0] 3)) (w.heap.size + 1) 3 [.int .i64 0] := Blk.at_ (by simp)
    have D : DrawnWy w g (n + 300) (.returned (.slice (some ⟨w.heap.size + 1, 0, none⟩) 1 1)) ((w.alloc (.cells #[.int .i64 m.width, .int .i64 m.height, .slice A1 n1 c1, .slice A2 n2 c2] 29)).alloc (.cells #[.int .i64 0] 3)) := ⟨_, 1, 1, [0], rfl, B1.own (Nat.le_refl _) rfl (by simp [maxLen]), by omega, (h.next U1).more (by omega), .of_below U1⟩
    clear U0 U1 B1
    rcases Int.lt_or_le m.width 1 with h1 | h1
    · have cb := B0.cell
      go_enter Try.func95, Try.ntmps95
      go_wp2_with fail
      go_ret
      exact D
    · have h2 : m.height < 1 := by omega
      have cb := B0.cell
      go_enter Try.func95, Try.ntmps95
      go_wp2_with fail
      go_ret
      exact D
  obtain ⟨P, hP⟩ : ∃ P : Nat, m.width * m.height = (P : Int) := ⟨(m.width * m.height).toNat, by have := prod10 hs.1 hs.2; omega⟩
  have hPP := prod10 hs.1 hs.2
  have hP1 : 1 ≤ (P : Int) ∧ (P : Int) ≤ 100 := by rw [← hP]; exact hPP
  have hwP : IntKind.i64.wrap (m.width * m.height) = (P : Int) := by rw [hP]; exact IntWalk.i64_in _ (by omega)
  have hwP2 : IntKind.i64.wrap (P : Int) = (P : Int) := IntWalk.i64_in _ (by omega)
  have hC0 := h.next U0
  have hO0 := Only.of_below (S := fun b => b = g) U0
  obtain ⟨⟨hs1, hs2⟩, ⟨hs3, hs4⟩⟩ := hs
  clear hPP
  have HPH := Lib.hid hP
  have cb := B0.cell
  go_enter Try.func95, Try.ntmps95
  go_wp2_with fail
  refine (pick_any (P : Int) g n _ hC0 (by omega) (by omega) (by omega)).mono ?_
  rintro e w1 ⟨r, rfl, hr, k1, o1⟩
  have hr1 : (r : Int) < (P : Int) := by omega
  replace B0 := B0.only o1 (fun (e : _ = _) => by omega)
  have O1 := hO0.trans o1
  have hl1 := B0.lt
  have hs : (1 ≤ m.width ∧ m.width ≤ 10) ∧ (1 ≤ m.height ∧ m.height ≤ 10) := ⟨⟨hs1, hs2⟩, ⟨hs3, hs4⟩⟩
  have U1 : Below w1.heap.size w1 (w1.alloc (.cells #[.int .i64 (r : Int)] 3)) := (Below.refl _ _).alloc (Nat.le_refl _) _
  have BN : Blk (w1.alloc (.cells #[.int .i64 (r : Int)] 3)) w1.heap.size 3 [.int .i64 (r : Int)] := Blk.at_ rfl
  have S0 : WySt w (w1.alloc (.cells #[.int .i64 (r : Int)] 3)) g (n + 2) [.int .i64 m.width, .int .i64 m.height, .slice A1 n1 c1, .slice A2 n2 c2] P (some ⟨w1.heap.size, 0, none⟩) 1 1 [(r : Int)] := ⟨k1.next U1, B0.next U1, BN.own (by omega) rfl (by simp [maxLen]), fun x hx => by rw [List.mem_singleton.1 hx]; omega, O1.then_ U1⟩
  clear U0 U1 BN B0 hC0 hO0 O1 o1 k1 hr cb
  go_wp2_with fail
  generalize w1.alloc (.cells #[.int .i64 (r : Int)] 3) = w2 at *
  generalize (some ⟨w1.heap.size, 0, none⟩ : Option Addr) = A0 at *
  refine (pick_any 7 g _ w2 S0.cur (by omega) (by decide) (by decide)).mono ?_
  rintro e w3 ⟨r7, rfl, hr7, k7, o7⟩
  have hr76 : r7 ≤ 6 := hr7
  replace S0 := S0.drawn hg k7 o7
  clear k7 o7 hr7
  go_wp2_with fail
  go_loopw [5, 6] (fun ov nv wr => ∃ (j k c : Nat) (A : Option Addr) (xs : List Int), j ≤ 6 ∧ nv = .int .i64 (j : Int) ∧ ov = .slice A k c ∧ 1 ≤ k ∧ k + j ≤ 7 ∧ WySt w wr g (n + 4 + 2 * (6 - j)) [.int .i64 m.width, .int .i64 m.height, .slice A1 n1 c1, .slice A2 n2 c2] P A k c xs) (fun _ nv _ => (intOf nv).toNat)
  case atStart => exact ⟨r7, 1, 1, A0, _, hr76, rfl, rfl, Nat.le_refl _, by omega, S0.more (by omega)⟩
  case round =>
    clear S0
    obtain ⟨j, k, c, A, xs, hj, rfl, rfl, hk1, hkj, S⟩ := hrel
    by_cases hpos : 0 < j
    · obtain ⟨q, rfl⟩ : ∃ q, k = q + 1 := ⟨k - 1, by omega⟩
      obtain ⟨n', hn'⟩ : ∃ n' : Nat, n' = n + 4 + 2 * (6 - j) := ⟨_, rfl⟩
      have hn2 : n' ≤ n + 16 := by omega
      have hn3 : n' + 2 ≤ n + 4 + 2 * (6 - (j - 1)) := by omega
      rw [← hn'] at S
      clear hn'
      have hq1 : ((q + 1 : Nat) : Int) - 1 = (q : Int) := by omega
      have hlx := S.own.1
      have hqx : q < xs.length := by rw [ints_length] at hlx; omega
      have hr0 := S.inn xs[q] (List.getElem_mem hqx)
      have qb := (Quiet.one wr).below wr.heap.size
      have M' := S.box.next qb
      have L' := own_below S.own qb
      have C' := S.cur.next qb
      have O' := S.only.then_ qb
      obtain ⟨bb, ob, rfl, _, hcP⟩ := (Sees.of_own L').int (show q < q + 1 by omega)
      obtain ⟨y, hy⟩ : ∃ y, xs[q] = y := ⟨_, rfl⟩
      rw [hy] at hr0
      rw [show xs[q] = y from hy] at hcP
      have HY := Lib.hid hy
      have hin := S.inn
      have HIN := Lib.hid hin
      clear hy hlx hin
      have cm := M'.cell
      have hwl := M'.lt
      have HZ := Lib.hid (show w.heap.size ≤ wr.drew.heap.size from Nat.le_of_lt M'.lt)
      have hq2 : q ≤ 1000 := by omega
      have hi0 : (0 : Int) ≤ (q : Int) := by omega
      have hi1 : (q : Int) < ((q + 1 : Nat) : Int) := by omega
      have hi2 : (q : Int) < (q : Int) + 1 := by omega
      have hw1 : IntKind.i64.wrap (((q + 1 : Nat) : Int) - 1) = (q : Int) := by rw [IntWalk.i64_in _ (by omega)]; omega
      have hw2 : IntKind.i64.wrap (q : Int) = (q : Int) := IntWalk.i64_in _ (by omega)
      go_wp2_with fail
      go_region_held3 (fun w' => w'.cell? ⟨bb, ob + q, none⟩ = some (.int .i64 y) ∧ w'.cell? ⟨w.heap.size, 0, none⟩ = some (.int .i64 m.width) ∧ w'.cell? ⟨w.heap.size, 1, none⟩ = some (.int .i64 m.height) ∧ w'.cell? ⟨w.heap.size, 2, none⟩ = some (.slice A1 n1 c1) ∧ w'.cell? ⟨w.heap.size, 3, none⟩ = some (.slice A2 n2 c2)) (go_keep)
        (first
          | (go_at_call 89
             refine (besideW_any _ _ _ _ _ _ m y _ hs (by omega)).mono ?_
             rintro e w5 ⟨A3, c3, rfl, o3, b3⟩
             clear cm hcP
             replace M' := M'.next b3
             replace L' := own_below L' b3
             replace C' := C'.next b3
             replace O' := O'.then_ b3
             clear b3
             have cm := M'.cell
             obtain ⟨b', o', e', _, hcP⟩ := (Sees.of_own L').int (show q < q + 1 by omega)
             injection e' with e'
             injection e' with e1 e2
             subst e1 e2
             rw [show xs[q] = y from HY.out] at hcP))
      have hyr : 0 ≤ y ∧ y < m.width * m.height := by rw [HPH.out]; exact hr0
      have HW := Lib.hid (fun x (hx : x ∈ besideL m.width m.height y) => besideW_in m.width m.height y x hs.1 hyr hx)
      have HN4 := Lib.hid (besideW_len m.width m.height y)
      have HNE := Lib.hid (fun (h : 2 ≤ m.width) => besideW_ne m.width m.height y ⟨h, hs.1.2⟩ hyr)
      clear cm hcP hw1 hw2 hi0 hi1 hi2 hq1
      have S' : WySt w w5 g n' [.int .i64 m.width, .int .i64 m.height, .slice A1 n1 c1, .slice A2 n2 c2] P (some ⟨bb, ob, none⟩) (q + 1) c xs := ⟨C', M', L', HIN.out, O'⟩
      clear C' M' L' O' S
      obtain ⟨lst, hlst⟩ : ∃ lst, besideL m.width m.height y = lst := ⟨_, rfl⟩
      rw [hlst] at o3 HW HN4 HNE
      rw [hlst]
      clear hlst hr0 hyr
      have hl4 := HN4.out
      by_cases hl0 : lst.length = 0
      · have hd0 : ¬ 0 < lst.length := by omega
        go_wp2_with fail
        go_roundw
        case rel => exact ⟨j - 1, q + 1, c, _, xs, by omega, by (try rw [show ((j : Int) - 1) = ((j - 1 : Nat) : Int) by omega]), rfl, by omega, by omega, S'.more (by omega)⟩
        case measure => simp [intOf]; omega
      · have hd0 : 0 < lst.length := by omega
        go_wp2_with fail
        refine (pick_any (lst.length : Int) g _ _ S'.cur (by omega) (by omega) (by omega)).mono ?_
        rintro e w6 ⟨r6, rfl, hr6, k6, o6⟩
        have hrl : r6 < lst.length := by omega
        have S6 := S'.drawn hg k6 o6
        have o36 := own_only o3 o6 (fun b hb (e : _ = _) => by have := (own_top o3 hb).1; have h1 : g < w.heap.size := hg; have h2 : w.heap.size ≤ wr.drew.heap.size := by (have := HZ.out; exact this)
                                                               omega)
        obtain ⟨b6, f6, rfl, hx6, c6⟩ := (Sees.of_own o36).int hrl
        have hvr := HW.out lst[r6] (List.getElem_mem hx6)
        obtain ⟨v, hv⟩ : ∃ v, lst[r6] = v := ⟨_, rfl⟩
        rw [hv] at hvr
        rw [show lst[r6] = v from hv] at c6
        rw [HPH.out] at hvr
        clear hv k6 o6 hr6 o36 S'
        have hlx := S6.box.lt
        go_wp2_with (at_builtin; (first | (refine wpList_pushNew rfl _ _ _ rfl Try.underlying22 info_int rfl (by decide) rfl S6.own rfl (by simp) (by rfl) (by rfl) (by omega) (by decide) (by omega) ?_) | (go_loud (refine wpList_pushNew rfl _ _ _ rfl Try.underlying22 info_int rfl (by decide) rfl S6.own rfl (by simp) (by rfl) (by rfl) (by omega) (by decide) (by omega) ?_))); intro A4 d4 w4 p4 h4 b4 q4)
        have S4 := S6.push hg p4 h4 hvr
        go_roundw
        case rel => exact ⟨j - 1, q + 2, _, _, _, by omega, by (try rw [show ((j : Int) - 1) = ((j - 1 : Nat) : Int) by omega]), rfl, by omega, by omega, S4.more (by omega)⟩
        case measure => simp [intOf]; omega
    · obtain rfl : j = 0 := by omega
      have S2 := S.more (n' := n + 100) (by omega)
      have hk7 : k ≤ 7 := by omega
      clear S hj hkj
      go_wp2_with fail
      refine (pick_any 30 g _ _ S2.cur (by omega) (by decide) (by decide)).mono ?_
      rintro e wd ⟨z, rfl, -, kz, oz⟩
      have S := S2.drawn hg kz oz
      clear kz oz S2
      have hdl := S.box.lt
      by_cases h0 : z = 0
      · have zb0 : ((z : Int) == 0) = true := by rw [h0]; rfl
        clear h0
        have UA : Below wd.heap.size wd (wd.alloc (.cells #[.int .i64 (-1), .int .i64 0, .int .i64 36] 3)) := (Below.refl _ _).alloc (Nat.le_refl _) _
        go_wp2_with fail
        refine (among_any g _ wd.heap.size 3 _ [-1, 0, 36] _ (Blk.at_ rfl : Blk (wd.alloc (.cells #[.int .i64 (-1), .int .i64 0, .int .i64 36] 3)) wd.heap.size 3 (ints [-1, 0, 36])) (by omega) (S.cur.next UA) (by omega) rfl (by decide) (by decide)).mono ?_
        rintro e wa ⟨v, rfl, -, ka, oa⟩
        have S3 := (S.below UA).drawn hg ka oa
        have hal := S3.box.lt
        clear S ka oa UA
        go_wp2_with (at_builtin; (first | (refine wpList_pushNew rfl _ _ _ rfl Try.underlying22 info_int rfl (by decide) rfl S3.own rfl (by simp) (by rfl) (by rfl) (by omega) (by decide) (by omega) ?_) | (go_loud (refine wpList_pushNew rfl _ _ _ rfl Try.underlying22 info_int rfl (by decide) rfl S3.own rfl (by simp) (by rfl) (by rfl) (by omega) (by decide) (by omega) ?_))); intro A4 d4 w4 p4 h4 b4 q4)
        go_ret
        exact (S3.last hg p4 h4 (by omega)).more (by omega)
      · have zb0 : ((z : Int) == 0) = false := beq_eq_false_iff_ne.2 (by omega)
        by_cases h1 : z = 1
        · have zb1 : ((z : Int) == 1) = true := by rw [h1]; rfl
          clear h0 h1
          have UA : Below wd.heap.size wd (wd.alloc (.cells #[] 3)) := (Below.refl _ _).alloc (Nat.le_refl _) _
          have OE := own_base (own_empty wd 3 1) (show w.heap.size + 1 ≤ wd.heap.size from hdl)
          have S3 := S.below UA
          have DE : DrawnWy w g (n + 102) (.returned (.slice (some ⟨wd.heap.size, 0, none⟩) 0 0)) (wd.alloc (.cells #[] 3)) := ⟨_, 0, 0, [], rfl, OE, by omega, S3.cur, S3.only⟩
          clear UA OE S3
          go_wp2_with fail
          go_ret
          exact DE.more (by omega)
        · have zb1 : ((z : Int) == 1) = false := beq_eq_false_iff_ne.2 (by omega)
          by_cases h2 : z = 2
          · have zb2 : ((z : Int) == 2) = true := by rw [h2]; rfl
            clear h0 h1 h2
            have cb := S.box.cell
            by_cases hw1 : 1 < m.width
            · go_wp2_with fail
              clear cb
              go_loopw [5] (fun ov wr => ∃ (k c : Nat) (A : Option Addr) (xs : List Int), ov = .slice A k c ∧ 1 ≤ k ∧ k ≤ 41 ∧ WySt w wr g (n + 102 + 2 * k) [.int .i64 m.width, .int .i64 m.height, .slice A1 n1 c1, .slice A2 n2 c2] P A k c xs) (fun ov _ => 41 - (match ov with | .slice _ k _ => k | _ => 0))
              case atStart => exact ⟨k, c, A, xs, rfl, hk1, by omega, S.more (by omega)⟩
              case round =>
                clear S
                obtain ⟨k, c, A, xs, rfl, hk1, hk41, S⟩ := hrel
                obtain ⟨q, rfl⟩ : ∃ q, k = q + 1 := ⟨k - 1, by omega⟩
                go_wp2_with fail
                refine (pick_any 2 g _ _ S.cur (by omega) (by decide) (by decide)).mono ?_
                rintro e w8 ⟨r3, rfl, hr3', c3', o3⟩
                have hr32 : r3 ≤ 1 := hr3'
                obtain ⟨n', hn'⟩ : ∃ n' : Nat, n' = n + 102 + 2 * (q + 1) + 2 := ⟨_, rfl⟩
                have hn2 : n' ≤ n + 200 := by omega
                have hn3 : n' ≤ n + 102 + 2 * (q + 2) := by omega
                replace S := S.drawn hg c3' o3
                rw [← hn'] at S
                clear c3' o3 hr3' hn'
                by_cases hlt : q + 1 < 40 + r3
                · have hd1 : decide (((q + 1 : Nat) : Int) < 40 + (r3 : Int)) = true := decide_eq_true (by omega)
                  have hd2 : (q : Int) + 1 < 40 + (r3 : Int) := by omega
                  have hq39 : q + 1 ≤ 40 := by omega
                  have hq1 : ((q + 1 : Nat) : Int) - 1 = (q : Int) := by omega
                  have hlx := S.own.1
                  have hqx : q < xs.length := by rw [ints_length] at hlx; omega
                  have hr0 := S.inn xs[q] (List.getElem_mem hqx)
                  have qb := (Quiet.one w8).below w8.heap.size
                  have M' := S.box.next qb
                  have L' := own_below S.own qb
                  have C' := S.cur.next qb
                  have O' := S.only.then_ qb
                  obtain ⟨bb, ob, rfl, _, hcP⟩ := (Sees.of_own L').int (show q < q + 1 by omega)
                  obtain ⟨y, hy⟩ : ∃ y, xs[q] = y := ⟨_, rfl⟩
                  rw [hy] at hr0
                  rw [show xs[q] = y from hy] at hcP
                  have HY := Lib.hid hy
                  have hin := S.inn
                  have HIN := Lib.hid hin
                  clear hy hlx hin
                  have cm := M'.cell
                  have hwl := M'.lt
                  have HZ := Lib.hid (show w.heap.size ≤ w8.drew.heap.size from Nat.le_of_lt M'.lt)
                  have hq2 : q ≤ 1000 := by omega
                  have hi0 : (0 : Int) ≤ (q : Int) := by omega
                  have hi1 : (q : Int) < ((q + 1 : Nat) : Int) := by omega
                  have hi2 : (q : Int) < (q : Int) + 1 := by omega
                  have hw1 : IntKind.i64.wrap (((q + 1 : Nat) : Int) - 1) = (q : Int) := by rw [IntWalk.i64_in _ (by omega)]; omega
                  have hw2 : IntKind.i64.wrap (q : Int) = (q : Int) := IntWalk.i64_in _ (by omega)
                  go_wp2_with fail
                  go_region_held3 (fun w' => w'.cell? ⟨bb, ob + q, none⟩ = some (.int .i64 y) ∧ w'.cell? ⟨w.heap.size, 0, none⟩ = some (.int .i64 m.width) ∧ w'.cell? ⟨w.heap.size, 1, none⟩ = some (.int .i64 m.height) ∧ w'.cell? ⟨w.heap.size, 2, none⟩ = some (.slice A1 n1 c1) ∧ w'.cell? ⟨w.heap.size, 3, none⟩ = some (.slice A2 n2 c2)) (go_keep)
                    (first
                      | (go_at_call 89
                         refine (besideW_any _ _ _ _ _ _ m y _ hs (by omega)).mono ?_
                         rintro e w5 ⟨A3, c3, rfl, o3, b3⟩
                         clear cm hcP
                         replace M' := M'.next b3
                         replace L' := own_below L' b3
                         replace C' := C'.next b3
                         replace O' := O'.then_ b3
                         clear b3
                         have cm := M'.cell
                         obtain ⟨b', o', e', _, hcP⟩ := (Sees.of_own L').int (show q < q + 1 by omega)
                         injection e' with e'
                         injection e' with e1 e2
                         subst e1 e2
                         rw [show xs[q] = y from HY.out] at hcP))
                  have hyr : 0 ≤ y ∧ y < m.width * m.height := by rw [HPH.out]; exact hr0
                  have HW := Lib.hid (fun x (hx : x ∈ besideL m.width m.height y) => besideW_in m.width m.height y x hs.1 hyr hx)
                  have HN4 := Lib.hid (besideW_len m.width m.height y)
                  have HNE := Lib.hid (fun (h : 2 ≤ m.width) => besideW_ne m.width m.height y ⟨h, hs.1.2⟩ hyr)
                  clear cm hcP hw1 hw2 hi0 hi1 hi2 hq1
                  have S' : WySt w w5 g n' [.int .i64 m.width, .int .i64 m.height, .slice A1 n1 c1, .slice A2 n2 c2] P (some ⟨bb, ob, none⟩) (q + 1) c xs := ⟨C', M', L', HIN.out, O'⟩
                  clear C' M' L' O' S
                  obtain ⟨lst, hlst⟩ : ∃ lst, besideL m.width m.height y = lst := ⟨_, rfl⟩
                  rw [hlst] at o3 HW HN4 HNE
                  rw [hlst]
                  clear hlst hr0 hyr
                  have hl4 := HN4.out
                  have hl0 : 0 < lst.length := HNE.out (by omega)
                  obtain ⟨b6, f6, rfl, hx6, c6⟩ := (Sees.of_own o3).int hl0
                  have hvr := HW.out lst[0] (List.getElem_mem hx6)
                  obtain ⟨v, hv⟩ : ∃ v, lst[0] = v := ⟨_, rfl⟩
                  rw [hv] at hvr
                  rw [show lst[0] = v from hv, Nat.add_zero] at c6
                  rw [HPH.out] at hvr
                  clear hv
                  have hlx := S'.box.lt
                  go_wp2_with (at_builtin; (first | (refine wpList_pushNew rfl _ _ _ rfl Try.underlying22 info_int rfl (by decide) rfl S'.own rfl (by simp) (by rfl) (by rfl) (by omega) (by decide) (by omega) ?_) | (go_loud (refine wpList_pushNew rfl _ _ _ rfl Try.underlying22 info_int rfl (by decide) rfl S'.own rfl (by simp) (by rfl) (by rfl) (by omega) (by decide) (by omega) ?_))); intro A4 d4 w4 p4 h4 b4 q4)
                  have S4 := S'.push hg p4 h4 hvr
                  go_roundw
                  case rel => exact ⟨q + 2, _, _, _, rfl, by omega, by omega, S4.more (by omega)⟩
                  case measure => simp; omega
                · have hd1 : decide (((q + 1 : Nat) : Int) < 40 + (r3 : Int)) = false := decide_eq_false (by omega)
                  have hd2 : ¬ (q : Int) + 1 < 40 + (r3 : Int) := by omega
                  go_wp2_with fail
                  go_ret
                  exact (S.more (by omega)).done (by omega)
            · go_wp2_with fail
              go_ret
              exact (S.more (by omega)).done (by omega)
          · have zb2 : ((z : Int) == 2) = false := beq_eq_false_iff_ne.2 (by omega)
            clear h0 h1 h2
            go_wp2_with fail
            go_ret
            exact (S.more (by omega)).done (by omega)

end Go.Proofs.Ytljiflbaknakaaa
