/- The distance of two cells, the cells beside one. -/
import Derived.Test.YtljiflbaknakaaaGrid
import Derived.Test.YtljiflbaknakaaaOwn
import Derived.Test.YtljiflbaknakaaaInts
import Derived.Test.YtljiflbaknakaaaMapF
import Derived.Deep.DeepCutAuto
namespace Go.Proofs.Ytljiflbaknakaaa
open Go.RowKit


set_option maxHeartbeats 1000000 in
theorem gapOf_any (A1 A2 : Option Addr) (n1 n2 c1 c2 : Nat) (m : MapV) (a b : Int) (w : World) (hw : 1 ≤ m.width ∧ m.width ≤ 6) (ha : 0 ≤ a ∧ a ≤ 1000000) (hb : 0 ≤ b ∧ b ≤ 1000000) :
    Calls Try.prog 108 #[.agg #[.int .i64 m.width, .int .i64 m.height, .slice A1 n1 c1, .slice A2 n2 c2], .int .i64 a, .int .i64 b] w fun e w' => e = .returned (.int .i64 (gapI m.width a b)) ∧ Below w.heap.size w w' := by
  have r1 : IntKind.i64.wrap (a.tmod m.width) = a % m.width := by rw [Int.tmod_eq_emod_of_nonneg ha.1]; exact IntWalk.i64_in _ (by have := Int.emod_nonneg a (show m.width ≠ 0 by omega); have := Int.emod_lt_of_pos a (show 0 < m.width by omega); omega)
  have r2 : IntKind.i64.wrap (b.tmod m.width) = b % m.width := by rw [Int.tmod_eq_emod_of_nonneg hb.1]; exact IntWalk.i64_in _ (by have := Int.emod_nonneg b (show m.width ≠ 0 by omega); have := Int.emod_lt_of_pos b (show 0 < m.width by omega); omega)
  have a1 : 0 ≤ a % m.width ∧ a % m.width < 6 := by have := Int.emod_nonneg a (show m.width ≠ 0 by omega); have := Int.emod_lt_of_pos a (show 0 < m.width by omega); omega
  have b1 : 0 ≤ b % m.width ∧ b % m.width < 6 := by have := Int.emod_nonneg b (show m.width ≠ 0 by omega); have := Int.emod_lt_of_pos b (show 0 < m.width by omega); omega
  have a2 : 0 ≤ a / m.width ∧ a / m.width ≤ a := ⟨Int.ediv_nonneg ha.1 (by omega), Int.ediv_le_self _ ha.1⟩
  have b2 : 0 ≤ b / m.width ∧ b / m.width ≤ b := ⟨Int.ediv_nonneg hb.1 (by omega), Int.ediv_le_self _ hb.1⟩
  have r3 : IntKind.i64.wrap (a.tdiv m.width) = a / m.width := by rw [Int.tdiv_eq_ediv_of_nonneg ha.1]; exact IntWalk.i64_in _ (by omega)
  have r4 : IntKind.i64.wrap (b.tdiv m.width) = b / m.width := by rw [Int.tdiv_eq_ediv_of_nonneg hb.1]; exact IntWalk.i64_in _ (by omega)
  have r5 : IntKind.i64.wrap (a % m.width - b % m.width) = a % m.width - b % m.width := IntWalk.i64_in _ (by omega)
  have r6 : IntKind.i64.wrap (a / m.width - b / m.width) = a / m.width - b / m.width := IntWalk.i64_in _ (by omega)
  have r7 : IntKind.i64.wrap (((a % m.width - b % m.width).natAbs : Int) + ((a / m.width - b / m.width).natAbs : Int)) = ((a % m.width - b % m.width).natAbs : Int) + ((a / m.width - b / m.width).natAbs : Int) := IntWalk.i64_in _ (by omega)
  have s1 : -1000000000000000 ≤ a % m.width - b % m.width ∧ a % m.width - b % m.width ≤ 1000000000000000 := by omega
  have s2 : -1000000000000000 ≤ a / m.width - b / m.width ∧ a / m.width - b / m.width ≤ 1000000000000000 := by omega
  have hz : (m.width == 0) = false := by simp; omega
  have HG := Lib.hid (show gapI m.width a b = ((a % m.width - b % m.width).natAbs : Int) + ((a / m.width - b / m.width).natAbs : Int) from rfl)
  have K0 : Below w.heap.size w (w.alloc (.cells #[.int .i64 m.width, .int .i64 m.height, .slice A1 n1 c1, .slice A2 n2 c2] 29)) := (Below.refl _ _).alloc (Nat.le_refl _) _
  have cm := (Blk.at_ rfl : Blk (w.alloc (.cells #[.int .i64 m.width, .int .i64 m.height, .slice A1 n1 c1, .slice A2 n2 c2] 29)) w.heap.size 29 [.int .i64 m.width, .int .i64 m.height, .slice A1 n1 c1, .slice A2 n2 c2]).cell
  clear a1 b1 a2 b2
  go_enter Try.func108, Try.ntmps108
  go_wp2_with fail
  go_quiet ((go_at_call 119; exact quiet_left (absOf_any _ _ (by first | exact s1 | exact s2))))
  go_wp2_with fail
  go_ret
  exact ⟨ret_int HG.out.symm, bel_drewN K0 _⟩

/-- the cells beside one, told one by one -/
def beside1 (w _h c : Int) : List Int := [] ++ if w ≤ c then [c - w] else []
def beside2 (w h c : Int) : List Int := beside1 w h c ++ if 0 < c % w then [c - 1] else []
def beside3 (w h c : Int) : List Int := beside2 w h c ++ if c % w < w - 1 then [c + 1] else []
def beside4 (w h c : Int) : List Int := beside3 w h c ++ if c + w < w * h then [c + w] else []
theorem beside_four (w h c : Int) : beside4 w h c = besideL w h c := by simp [beside4, beside3, beside2, beside1, besideL]
set_option maxRecDepth 100000 in
set_option maxHeartbeats 2000000 in
theorem l23Beside_any (A1 A2 : Option Addr) (n1 n2 c1 c2 : Nat) (m : MapV) (a : Int) (w : World) (hs : (1 ≤ m.width ∧ m.width ≤ 6) ∧ (1 ≤ m.height ∧ m.height ≤ 6)) (ha : 0 ≤ a ∧ a ≤ 1000000) :
    Calls Try.prog 89 #[.agg #[.int .i64 m.width, .int .i64 m.height, .slice A1 n1 c1, .slice A2 n2 c2], .int .i64 a] w (GivesL w (besideL m.width m.height a)) := by
  have r1 : IntKind.i64.wrap (a.tmod m.width) = a % m.width := by rw [Int.tmod_eq_emod_of_nonneg ha.1]; exact IntWalk.i64_in _ (by have := Int.emod_nonneg a (show m.width ≠ 0 by omega); have := Int.emod_lt_of_pos a (show 0 < m.width by omega); omega)
  have hp := prod_bd hs.1 hs.2
  have r2 : IntKind.i64.wrap (m.width * m.height) = m.width * m.height := IntWalk.i64_in _ (by omega)
  have r3 : IntKind.i64.wrap (a + m.width) = a + m.width := IntWalk.i64_in _ (by omega)
  have r4 : IntKind.i64.wrap (m.width - 1) = m.width - 1 := IntWalk.i64_in _ (by omega)
  have hz0 : (m.width == 0) = false := by simp; omega
  go_enter Try.func89, Try.ntmps89
  go_upto_if 10 with (fail)
  have hown : ((w.alloc (.cells #[.int .i64 m.width, .int .i64 m.height, .slice A1 n1 c1, .slice A2 n2 c2] 29)).alloc (.cells #[] 3)).ownsRow (w.heap.size + 1) 3 1 (.slice (some ⟨w.heap.size + 1, 0, none⟩) 0 0) 0 (ints []) := own_empty_at 3 1 (by simp)
  have Bm : Blk ((w.alloc (.cells #[.int .i64 m.width, .int .i64 m.height, .slice A1 n1 c1, .slice A2 n2 c2] 29)).alloc (.cells #[] 3)) w.heap.size 29 [.int .i64 m.width, .int .i64 m.height, .slice A1 n1 c1, .slice A2 n2 c2] := (Blk.at_ rfl).alloc _
  have hb : Below w.heap.size w ((w.alloc (.cells #[.int .i64 m.width, .int .i64 m.height, .slice A1 n1 c1, .slice A2 n2 c2] 29)).alloc (.cells #[] 3)) := ((Below.refl _ _).alloc (Nat.le_refl _) _).alloc (by simp) _
  have hz := Bm.lt
  have cm := Bm.cell
  go_upto_if 10 with (fail)
  go_cut [5] (fun v wr => ∃ (A : Option Addr) (c : Nat), v = .slice A (beside1 m.width m.height a).length c ∧ wr.ownsRow (w.heap.size + 1) 3 1 (.slice A (beside1 m.width m.height a).length c) (beside1 m.width m.height a).length (ints (beside1 m.width m.height a)) ∧ (beside1 m.width m.height a).length ≤ 1 ∧ Blk wr w.heap.size 29 [.int .i64 m.width, .int .i64 m.height, .slice A1 n1 c1, .slice A2 n2 c2] ∧ Below w.heap.size w wr)
  case first =>
    by_cases hc : m.width ≤ a
    · have HL := Lib.hid (show beside1 m.width m.height a = ([] : List Int) ++ [a - m.width] by unfold beside1; rw [if_pos hc])
      have hd := decide_eq_true hc
      go_wp2_with (at_builtin; go_loud (refine wpList_pushNew rfl _ _ _ rfl Try.underlying22 info_int rfl (by decide) rfl hown rfl (by simp) (by rfl) (by rfl) (by omega) (by decide) (by first | omega | (simp; omega)) ?_); intro A2 c2 w2 o2 h2 b2 q2)
      go_meet
      exact ⟨A2, c2, by rw [HL.out]; simp, by rw [HL.out]; simpa [ints] using o2, by rw [HL.out]; simp only [List.length_append, List.length_cons, List.length_nil]; omega, Bm.only h2 (own_not hown (by omega)), hb.trans (b2.mono (by omega))⟩
    · have HL := Lib.hid (show beside1 m.width m.height a = ([] : List Int) by unfold beside1; rw [if_neg hc, List.append_nil])
      have hd := decide_eq_false hc
      go_wp2_with fail
      go_meet
      exact ⟨_, _, by first | (rw [HL.out]; done) | (rw [HL.out]; rfl), by rw [HL.out]; exact hown, by rw [HL.out]; exact Nat.zero_le _, Bm, hb⟩
  case rest =>
    obtain ⟨A, c, rfl, hown, hlen, Bm, hb⟩ := hcut
    have cm := Bm.cell
    have hz := Bm.lt
    go_upto_if 22 with (fail)
    go_cut [5] (fun v wr => ∃ (A : Option Addr) (c : Nat), v = .slice A (beside2 m.width m.height a).length c ∧ wr.ownsRow (w.heap.size + 1) 3 1 (.slice A (beside2 m.width m.height a).length c) (beside2 m.width m.height a).length (ints (beside2 m.width m.height a)) ∧ (beside2 m.width m.height a).length ≤ 2 ∧ Blk wr w.heap.size 29 [.int .i64 m.width, .int .i64 m.height, .slice A1 n1 c1, .slice A2 n2 c2] ∧ Below w.heap.size w wr)
    case first =>
      by_cases hc : 0 < a % m.width
      · have HL := Lib.hid (show beside2 m.width m.height a = beside1 m.width m.height a ++ [a - 1] by unfold beside2; rw [if_pos hc])
        have hd := decide_eq_true hc
        go_wp2_with (at_builtin; go_loud (refine wpList_pushNew rfl _ _ _ rfl Try.underlying22 info_int rfl (by decide) rfl hown rfl (by simp) (by rfl) (by rfl) (by omega) (by decide) (by first | omega | (simp; omega)) ?_); intro A2 c2 w2 o2 h2 b2 q2)
        go_meet
        exact ⟨A2, c2, by rw [HL.out]; simp, by rw [HL.out]; simpa [ints] using o2, by rw [HL.out]; simp only [List.length_append, List.length_cons, List.length_nil]; omega, Bm.only h2 (own_not hown (by omega)), hb.trans (b2.mono (by omega))⟩
      · have HL := Lib.hid (show beside2 m.width m.height a = beside1 m.width m.height a by unfold beside2; rw [if_neg hc, List.append_nil])
        have hd := decide_eq_false hc
        go_wp2_with fail
        go_meet
        exact ⟨_, _, by first | (rw [HL.out]; done) | (rw [HL.out]; rfl), by rw [HL.out]; exact hown, by rw [HL.out]; exact Nat.le_succ_of_le hlen, Bm, hb⟩
    case rest =>
      obtain ⟨A, c, rfl, hown, hlen, Bm, hb⟩ := hcut
      have cm := Bm.cell
      have hz := Bm.lt
      go_wp2_with fail
      go_quiet (fail)
      replace hown := own_below hown (bel_drewN (Below.refl _ _) nq)
      replace Bm := Bm.drewN nq
      replace hb := bel_drewN hb nq
      replace cm := Bm.cell
      replace hz := Bm.lt
      go_upto_if 35 with (fail)
      go_cut [5] (fun v wr => ∃ (A : Option Addr) (c : Nat), v = .slice A (beside3 m.width m.height a).length c ∧ wr.ownsRow (w.heap.size + 1) 3 1 (.slice A (beside3 m.width m.height a).length c) (beside3 m.width m.height a).length (ints (beside3 m.width m.height a)) ∧ (beside3 m.width m.height a).length ≤ 3 ∧ Blk wr w.heap.size 29 [.int .i64 m.width, .int .i64 m.height, .slice A1 n1 c1, .slice A2 n2 c2] ∧ Below w.heap.size w wr)
      case first =>
        by_cases hc : a % m.width < m.width - 1
        · have HL := Lib.hid (show beside3 m.width m.height a = beside2 m.width m.height a ++ [a + 1] by unfold beside3; rw [if_pos hc])
          have hd := decide_eq_true hc
          go_wp2_with (at_builtin; go_loud (refine wpList_pushNew rfl _ _ _ rfl Try.underlying22 info_int rfl (by decide) rfl hown rfl (by simp) (by rfl) (by rfl) (by omega) (by decide) (by first | omega | (simp; omega)) ?_); intro A2 c2 w2 o2 h2 b2 q2)
          go_meet
          exact ⟨A2, c2, by rw [HL.out]; simp, by rw [HL.out]; simpa [ints] using o2, by rw [HL.out]; simp only [List.length_append, List.length_cons, List.length_nil]; omega, Bm.only h2 (own_not hown (by omega)), hb.trans (b2.mono (by omega))⟩
        · have HL := Lib.hid (show beside3 m.width m.height a = beside2 m.width m.height a by unfold beside3; rw [if_neg hc, List.append_nil])
          have hd := decide_eq_false hc
          go_wp2_with fail
          go_meet
          exact ⟨_, _, by first | (rw [HL.out]; done) | (rw [HL.out]; rfl), by rw [HL.out]; exact hown, by rw [HL.out]; exact Nat.le_succ_of_le hlen, Bm, hb⟩
      case rest =>
        obtain ⟨A, c, rfl, hown, hlen, Bm, hb⟩ := hcut
        have cm := Bm.cell
        have hz := Bm.lt
        go_upto_if 50 with (fail)
        go_cut [5] (fun v wr => ∃ (A : Option Addr) (c : Nat), v = .slice A (beside4 m.width m.height a).length c ∧ wr.ownsRow (w.heap.size + 1) 3 1 (.slice A (beside4 m.width m.height a).length c) (beside4 m.width m.height a).length (ints (beside4 m.width m.height a)) ∧ (beside4 m.width m.height a).length ≤ 4 ∧ Blk wr w.heap.size 29 [.int .i64 m.width, .int .i64 m.height, .slice A1 n1 c1, .slice A2 n2 c2] ∧ Below w.heap.size w wr)
        case first =>
          by_cases hc : a + m.width < m.width * m.height
          · have HL := Lib.hid (show beside4 m.width m.height a = beside3 m.width m.height a ++ [a + m.width] by unfold beside4; rw [if_pos hc])
            have hd := decide_eq_true hc
            go_wp2_with (at_builtin; go_loud (refine wpList_pushNew rfl _ _ _ rfl Try.underlying22 info_int rfl (by decide) rfl hown rfl (by simp) (by rfl) (by rfl) (by omega) (by decide) (by first | omega | (simp; omega)) ?_); intro A2 c2 w2 o2 h2 b2 q2)
            go_meet
            exact ⟨A2, c2, by rw [HL.out]; simp, by rw [HL.out]; simpa [ints] using o2, by rw [HL.out]; simp only [List.length_append, List.length_cons, List.length_nil]; omega, Bm.only h2 (own_not hown (by omega)), hb.trans (b2.mono (by omega))⟩
          · have HL := Lib.hid (show beside4 m.width m.height a = beside3 m.width m.height a by unfold beside4; rw [if_neg hc, List.append_nil])
            have hd := decide_eq_false hc
            go_wp2_with fail
            go_meet
            exact ⟨_, _, by first | (rw [HL.out]; done) | (rw [HL.out]; rfl), by rw [HL.out]; exact hown, by rw [HL.out]; exact Nat.le_succ_of_le hlen, Bm, hb⟩
        case rest =>
          obtain ⟨A, c, rfl, hown, hlen, Bm, hb⟩ := hcut
          have cm := Bm.cell
          have hz := Bm.lt
          go_wp2_with fail
          go_ret
          rw [← beside_four]
          exact ⟨_, _, rfl, own_base hown (by omega), hb⟩

end Go.Proofs.Ytljiflbaknakaaa
