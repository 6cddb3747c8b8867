/- The walk of the law FnExactNewDesk. -/
import Derived.Test.YtkeffhnkhmalpaaDeskM
import Derived.Test.YtkeffhnkhmalpaaNewK
namespace Go.Proofs.Ytkeffhnkhmalpaa
open Go.RowKit

set_option maxRecDepth 100000 in
set_option maxHeartbeats 2000000 in
theorem FnExactNewDesk_any (Axs : Option Addr) (nxs cxs : Nat) (xs : List Int) (Ays : Option Addr) (nys cys : Nat) (ys : List Int) (w : World) (hxs : Sees w 0 1 Axs nxs (ints xs)) (hnxs : nxs ≤ 9223372036854775807) (hys : Sees w 0 1 Ays nys (ints ys)) (hnys : nys ≤ 9223372036854775807) :
    Calls Try.prog 4 #[.slice Axs nxs cxs, .slice Ays nys cys] w fun e w' => e = .returned (.bool true) ∧ Below w.heap.size w w' := by
  have hR := newM_wt xs ys
  have hlxs := hxs.icount
  have hlys := hys.icount
  have K0 := Below.refl w.heap.size w
  go_enter Try.func4, Try.ntmps4
  rcases Nat.lt_or_ge 1048576 nxs with hbxs | hbxs
  · go_wp2_with fail
    go_ret
    exact ⟨rfl, K0⟩
  rcases Nat.lt_or_ge 1048576 nys with hbys | hbys
  · go_wp2_with fail
    go_ret
    exact ⟨rfl, K0⟩
  have hnxs' : nxs ≤ 1048576 := by omega
  have hnys' : nys ≤ 1048576 := by omega
  go_wp2_with fail
  refine (toIntS_any _ _ _ _ _ (hxs.below K0 (Nat.le_refl _)) hnxs').mono ?_
  rintro e w1 ⟨A1, rfl, o1, b1⟩
  have M1 := Mine.of o1
  clear o1
  have K1 := bel_then K0 b1
  have Z1 := b1.size
  have Y1 := K1.size
  clear b1
  go_wp2_with fail
  refine (toIntS_any _ _ _ _ _ (hys.below K1 (Nat.le_refl _)) hnys').mono ?_
  rintro e w2 ⟨A2, rfl, o2, b2⟩
  have M2 := Mine.of o2
  clear o2
  have K2 := bel_then K1 b2
  have Z2 := b2.size
  have Y2 := K2.size
  replace M1 := M1.next b2
  clear b2
  go_wp2_with fail
  refine (specNewDesk_any _ _ _ xs _ _ _ ys _ M1.sees hnxs' M2.sees hnys').mono ?_
  generalize hRe : newM xs ys = R at *
  have HR := Lib.hid hRe
  clear hRe
  rintro e w3 ⟨H3, rfl, M3, F3, G3, b3⟩
  have K3 := bel_then K2 b3
  have Z3 := b3.size
  have Y3 := K3.size
  replace M1 := M1.next b3
  replace M2 := M2.next b3
  clear b3
  have V3 : H3.n0 ≤ 1048576 ∧ H3.n1 ≤ 1048576 ∧ H3.n2 ≤ 1048576 ∧ H3.n3 ≤ 1048576 ∧ H3.n4 ≤ 1048576 := ⟨F3.n0, F3.n1, F3.n2, F3.n3, F3.n4⟩
  go_wp2_with fail
  have b4 : Below w3.heap.size w3 (w3.alloc (.cells #[.slice H3.A0 H3.n0 H3.c0, .slice H3.A1 H3.n1 H3.c1, .slice H3.A2 H3.n2 H3.c2, .slice H3.A3 H3.n3 H3.c3, .slice H3.A4 H3.n4 H3.c4] 32)) := (Below.refl _ _).alloc (Nat.le_refl _) _
  have BR0 : Blk (w3.alloc (.cells #[.slice H3.A0 H3.n0 H3.c0, .slice H3.A1 H3.n1 H3.c1, .slice H3.A2 H3.n2 H3.c2, .slice H3.A3 H3.n3 H3.c3, .slice H3.A4 H3.n4 H3.c4] 32)) w3.heap.size 32 [.slice H3.A0 H3.n0 H3.c0, .slice H3.A1 H3.n1 H3.c1, .slice H3.A2 H3.n2 H3.c2, .slice H3.A3 H3.n3 H3.c3, .slice H3.A4 H3.n4 H3.c4] := Blk.at_ rfl
  have K4 := bel_then K3 b4
  have Z4 := b4.size
  have Y4 := K4.size
  replace M1 := M1.next b4
  replace M2 := M2.next b4
  replace M3 := M3.next b4
  clear b4
  have V4 : w3.heap.size + 1 ≤ (w3.alloc (.cells #[.slice H3.A0 H3.n0 H3.c0, .slice H3.A1 H3.n1 H3.c1, .slice H3.A2 H3.n2 H3.c2, .slice H3.A3 H3.n3 H3.c3, .slice H3.A4 H3.n4 H3.c4] 32)).heap.size := by simp
  generalize (w3.alloc (.cells #[.slice H3.A0 H3.n0 H3.c0, .slice H3.A1 H3.n1 H3.c1, .slice H3.A2 H3.n2 H3.c2, .slice H3.A3 H3.n3 H3.c3, .slice H3.A4 H3.n4 H3.c4] 32)) = w4 at *
  have CR0 := BR0.cell
  go_wp2_with fail
  refine (toIntS_any _ _ _ _ _ (hxs.below K4 (Nat.le_refl _)) hnxs').mono ?_
  rintro e w5 ⟨A5, rfl, o5, b5⟩
  have M5 := Mine.of o5
  clear o5
  have K5 := bel_then K4 b5
  have Z5 := b5.size
  have Y5 := K5.size
  clear CR0
  replace M1 := M1.next b5
  replace M2 := M2.next b5
  replace M3 := M3.next b5
  replace BR0 := BR0.next b5
  clear b5
  have CR0 := BR0.cell
  go_wp2_with fail
  refine (toIntS_any _ _ _ _ _ (hys.below K5 (Nat.le_refl _)) hnys').mono ?_
  rintro e w6 ⟨A6, rfl, o6, b6⟩
  have M6 := Mine.of o6
  clear o6
  have K6 := bel_then K5 b6
  have Z6 := b6.size
  have Y6 := K6.size
  clear CR0
  replace M1 := M1.next b6
  replace M2 := M2.next b6
  replace M3 := M3.next b6
  replace BR0 := BR0.next b6
  replace M5 := M5.next b6
  clear b6
  have CR0 := BR0.cell
  go_wp2_with fail
  refine (NewDesk_any _ _ _ xs _ _ _ ys _ M5.sees hnxs' M6.sees hnys').mono ?_
  rw [HR.out]
  rintro e w7 ⟨H7, rfl, M7, F7, G7, b7⟩
  have K7 := bel_then K6 b7
  have Z7 := b7.size
  have Y7 := K7.size
  clear CR0
  replace M1 := M1.next b7
  replace M2 := M2.next b7
  replace M3 := M3.next b7
  replace BR0 := BR0.next b7
  replace M5 := M5.next b7
  replace M6 := M6.next b7
  clear b7
  have CR0 := BR0.cell
  have V7 : H7.n0 ≤ 1048576 ∧ H7.n1 ≤ 1048576 ∧ H7.n2 ≤ 1048576 ∧ H7.n3 ≤ 1048576 ∧ H7.n4 ≤ 1048576 := ⟨F7.n0, F7.n1, F7.n2, F7.n3, F7.n4⟩
  have l8_0 : w3.heap.size < w7.heap.size := by omega
  go_wp2_with fail
  have b8 : Below w7.heap.size w7 (w7.alloc (.cells #[.slice H7.A0 H7.n0 H7.c0, .slice H7.A1 H7.n1 H7.c1, .slice H7.A2 H7.n2 H7.c2, .slice H7.A3 H7.n3 H7.c3, .slice H7.A4 H7.n4 H7.c4] 32)) := (Below.refl _ _).alloc (Nat.le_refl _) _
  have BR1 : Blk (w7.alloc (.cells #[.slice H7.A0 H7.n0 H7.c0, .slice H7.A1 H7.n1 H7.c1, .slice H7.A2 H7.n2 H7.c2, .slice H7.A3 H7.n3 H7.c3, .slice H7.A4 H7.n4 H7.c4] 32)) w7.heap.size 32 [.slice H7.A0 H7.n0 H7.c0, .slice H7.A1 H7.n1 H7.c1, .slice H7.A2 H7.n2 H7.c2, .slice H7.A3 H7.n3 H7.c3, .slice H7.A4 H7.n4 H7.c4] := Blk.at_ rfl
  have K8 := bel_then K7 b8
  have Z8 := b8.size
  have Y8 := K8.size
  clear CR0
  replace M1 := M1.next b8
  replace M2 := M2.next b8
  replace M3 := M3.next b8
  replace BR0 := BR0.next b8
  replace M5 := M5.next b8
  replace M6 := M6.next b8
  replace M7 := M7.next b8
  clear b8
  have CR0 := BR0.cell
  have V8 : w7.heap.size + 1 ≤ (w7.alloc (.cells #[.slice H7.A0 H7.n0 H7.c0, .slice H7.A1 H7.n1 H7.c1, .slice H7.A2 H7.n2 H7.c2, .slice H7.A3 H7.n3 H7.c3, .slice H7.A4 H7.n4 H7.c4] 32)).heap.size := by simp
  generalize (w7.alloc (.cells #[.slice H7.A0 H7.n0 H7.c0, .slice H7.A1 H7.n1 H7.c1, .slice H7.A2 H7.n2 H7.c2, .slice H7.A3 H7.n3 H7.c3, .slice H7.A4 H7.n4 H7.c4] 32)) = w8 at *
  have CR1 := BR1.cell
  go_wp2_with fail
  refine (eqDesk_any _ _ _ _ _ _ _ M7.sees M3.sees rfl F7).mono ?_
  rintro e w9 ⟨rfl, b9⟩
  have K9 := bel_then K8 b9
  have Z9 := b9.size
  have Y9 := K9.size
  clear CR0 CR1
  replace M1 := M1.next b9
  replace M2 := M2.next b9
  replace M3 := M3.next b9
  replace BR0 := BR0.next b9
  replace M5 := M5.next b9
  replace M6 := M6.next b9
  replace M7 := M7.next b9
  replace BR1 := BR1.next b9
  clear b9
  have CR0 := BR0.cell
  have CR1 := BR1.cell
  go_wp2_with fail
  refine (toIntS_any _ _ _ _ _ (hxs.below K9 (Nat.le_refl _)) hnxs').mono ?_
  rintro e w10 ⟨A10, rfl, o10, b10⟩
  have M10 := Mine.of o10
  clear o10
  have K10 := bel_then K9 b10
  have Z10 := b10.size
  have Y10 := K10.size
  clear CR0 CR1
  replace M1 := M1.next b10
  replace M2 := M2.next b10
  replace M3 := M3.next b10
  replace BR0 := BR0.next b10
  replace M5 := M5.next b10
  replace M6 := M6.next b10
  replace M7 := M7.next b10
  replace BR1 := BR1.next b10
  clear b10
  have CR0 := BR0.cell
  have CR1 := BR1.cell
  go_wp2_with fail
  refine (eqIntS_any _ _ _ _ _ _ _ _ _ _ _ M5.sees M10.sees rfl (by omega)).mono ?_
  rintro e w11 ⟨rfl, q11⟩
  have b11 := q11.below w10.heap.size
  clear q11
  have K11 := bel_then K10 b11
  have Z11 := b11.size
  have Y11 := K11.size
  clear CR0 CR1
  replace M1 := M1.next b11
  replace M2 := M2.next b11
  replace M3 := M3.next b11
  replace BR0 := BR0.next b11
  replace M5 := M5.next b11
  replace M6 := M6.next b11
  replace M7 := M7.next b11
  replace BR1 := BR1.next b11
  replace M10 := M10.next b11
  clear b11
  have CR0 := BR0.cell
  have CR1 := BR1.cell
  go_wp2_with fail
  refine (toIntS_any _ _ _ _ _ (hys.below K11 (Nat.le_refl _)) hnys').mono ?_
  rintro e w12 ⟨A12, rfl, o12, b12⟩
  have M12 := Mine.of o12
  clear o12
  have K12 := bel_then K11 b12
  have Z12 := b12.size
  have Y12 := K12.size
  clear CR0 CR1
  replace M1 := M1.next b12
  replace M2 := M2.next b12
  replace M3 := M3.next b12
  replace BR0 := BR0.next b12
  replace M5 := M5.next b12
  replace M6 := M6.next b12
  replace M7 := M7.next b12
  replace BR1 := BR1.next b12
  replace M10 := M10.next b12
  clear b12
  have CR0 := BR0.cell
  have CR1 := BR1.cell
  go_wp2_with fail
  refine (eqIntS_any _ _ _ _ _ _ _ _ _ _ _ M6.sees M12.sees rfl (by omega)).mono ?_
  rintro e w13 ⟨rfl, q13⟩
  have b13 := q13.below w12.heap.size
  clear q13
  have K13 := bel_then K12 b13
  have Z13 := b13.size
  have Y13 := K13.size
  clear CR0 CR1
  replace M1 := M1.next b13
  replace M2 := M2.next b13
  replace M3 := M3.next b13
  replace BR0 := BR0.next b13
  replace M5 := M5.next b13
  replace M6 := M6.next b13
  replace M7 := M7.next b13
  replace BR1 := BR1.next b13
  replace M10 := M10.next b13
  replace M12 := M12.next b13
  clear b13
  have CR0 := BR0.cell
  have CR1 := BR1.cell
  go_wp2_with fail
  refine (markIntS_any _ _ _ _ _ _ _ _ M5 (by omega) (by omega) (by omega)).mono ?_
  rintro e w14 ⟨rfl, m14, q14⟩
  replace M5 := m14
  clear m14
  have b14 : Below w.heap.size w13 w14 := q14.below (fun i hi => by have := hi.1; omega) (by omega)
  have K14 := K13.trans b14
  have Z14 := q14.size
  have Y14 := K14.size
  clear b14
  clear CR0 CR1
  replace M1 := M1.only q14 (fun i h1 h2 => by have := h1.1; have := h1.2; have := h2.1; have := h2.2; omega)
  replace M2 := M2.only q14 (fun i h1 h2 => by have := h1.1; have := h1.2; have := h2.1; have := h2.2; omega)
  replace M3 := M3.only q14 (fun i h1 h2 => by have := h1.1; have := h1.2; have := h2.1; have := h2.2; omega)
  replace BR0 := BR0.only q14 (fun h => by have := h.1; have := h.2; omega)
  replace M6 := M6.only q14 (fun i h1 h2 => by have := h1.1; have := h1.2; have := h2.1; have := h2.2; omega)
  replace M7 := M7.only q14 (fun i h1 h2 => by have := h1.1; have := h1.2; have := h2.1; have := h2.2; omega)
  replace BR1 := BR1.only q14 (fun h => by have := h.1; have := h.2; omega)
  replace M10 := M10.only q14 (fun i h1 h2 => by have := h1.1; have := h1.2; have := h2.1; have := h2.2; omega)
  replace M12 := M12.only q14 (fun i h1 h2 => by have := h1.1; have := h1.2; have := h2.1; have := h2.2; omega)
  clear q14
  have CR0 := BR0.cell
  have CR1 := BR1.cell
  go_wp2_with fail
  refine (markIntS_any _ _ _ _ _ _ _ _ M6 (by omega) (by omega) (by omega)).mono ?_
  rintro e w15 ⟨rfl, m15, q15⟩
  replace M6 := m15
  clear m15
  have b15 : Below w.heap.size w14 w15 := q15.below (fun i hi => by have := hi.1; omega) (by omega)
  have K15 := K14.trans b15
  have Z15 := q15.size
  have Y15 := K15.size
  clear b15
  clear CR0 CR1
  replace M1 := M1.only q15 (fun i h1 h2 => by have := h1.1; have := h1.2; have := h2.1; have := h2.2; omega)
  replace M2 := M2.only q15 (fun i h1 h2 => by have := h1.1; have := h1.2; have := h2.1; have := h2.2; omega)
  replace M3 := M3.only q15 (fun i h1 h2 => by have := h1.1; have := h1.2; have := h2.1; have := h2.2; omega)
  replace BR0 := BR0.only q15 (fun h => by have := h.1; have := h.2; omega)
  replace M5 := M5.only q15 (fun i h1 h2 => by have := h1.1; have := h1.2; have := h2.1; have := h2.2; omega)
  replace M7 := M7.only q15 (fun i h1 h2 => by have := h1.1; have := h1.2; have := h2.1; have := h2.2; omega)
  replace BR1 := BR1.only q15 (fun h => by have := h.1; have := h.2; omega)
  replace M10 := M10.only q15 (fun i h1 h2 => by have := h1.1; have := h1.2; have := h2.1; have := h2.2; omega)
  replace M12 := M12.only q15 (fun i h1 h2 => by have := h1.1; have := h1.2; have := h2.1; have := h2.2; omega)
  clear q15
  have CR0 := BR0.cell
  have CR1 := BR1.cell
  go_wp2_with fail
  refine (eqDesk_any _ _ _ _ _ _ _ M7.sees M3.sees rfl F7).mono ?_
  rintro e w16 ⟨rfl, b16⟩
  have K16 := bel_then K15 b16
  have Z16 := b16.size
  have Y16 := K16.size
  clear CR0 CR1
  replace M1 := M1.next b16
  replace M2 := M2.next b16
  replace M3 := M3.next b16
  replace BR0 := BR0.next b16
  replace M5 := M5.next b16
  replace M6 := M6.next b16
  replace M7 := M7.next b16
  replace BR1 := BR1.next b16
  replace M10 := M10.next b16
  replace M12 := M12.next b16
  clear b16
  have CR0 := BR0.cell
  have CR1 := BR1.cell
  go_wp2_with fail
  refine (markDesk_any _ _ _ _ _ M7 (fun b hb => by have := hb.2; omega) (by omega) (by (try dsimp only); omega) F7).mono ?_
  rintro e w17 ⟨rfl, m17, q17⟩
  replace M7 := m17
  clear m17
  have b17 : Below w.heap.size w16 w17 := q17.below (fun i hi => by have := hi.1; omega) (by omega)
  have K17 := K16.trans b17
  have Z17 := q17.size
  have Y17 := K17.size
  clear b17
  clear CR0 CR1
  replace M1 := M1.only q17 (fun i h1 h2 => by have := h1.1; have := h1.2; have := h2.1; have := h2.2; omega)
  replace M2 := M2.only q17 (fun i h1 h2 => by have := h1.1; have := h1.2; have := h2.1; have := h2.2; omega)
  replace M3 := M3.only q17 (fun i h1 h2 => by have := h1.1; have := h1.2; have := h2.1; have := h2.2; omega)
  replace BR0 := BR0.only q17 (fun h => by have := h.1; have := h.2; omega)
  replace M5 := M5.only q17 (fun i h1 h2 => by have := h1.1; have := h1.2; have := h2.1; have := h2.2; omega)
  replace M6 := M6.only q17 (fun i h1 h2 => by have := h1.1; have := h1.2; have := h2.1; have := h2.2; omega)
  replace BR1 := BR1.only q17 (fun h => by have := h.1; have := h.2; omega)
  replace M10 := M10.only q17 (fun i h1 h2 => by have := h1.1; have := h1.2; have := h2.1; have := h2.2; omega)
  replace M12 := M12.only q17 (fun i h1 h2 => by have := h1.1; have := h1.2; have := h2.1; have := h2.2; omega)
  clear q17
  have CR0 := BR0.cell
  have CR1 := BR1.cell
  go_wp2_with fail
  refine (heldDesk_any _ _ _ _ _ M7.sees (by omega) (by (try dsimp only); omega) F7).mono ?_
  rintro e w18 ⟨rfl, b18⟩
  have K18 := bel_then K17 b18
  have Z18 := b18.size
  have Y18 := K18.size
  clear CR0 CR1
  replace M1 := M1.next b18
  replace M2 := M2.next b18
  replace M3 := M3.next b18
  replace BR0 := BR0.next b18
  replace M5 := M5.next b18
  replace M6 := M6.next b18
  replace M7 := M7.next b18
  replace BR1 := BR1.next b18
  replace M10 := M10.next b18
  replace M12 := M12.next b18
  clear b18
  have CR0 := BR0.cell
  have CR1 := BR1.cell
  go_wp2_with fail
  refine (toIntS_any _ _ _ _ _ (hxs.below K18 (Nat.le_refl _)) hnxs').mono ?_
  rintro e w19 ⟨A19, rfl, o19, b19⟩
  have M19 := Mine.of o19
  clear o19
  have K19 := bel_then K18 b19
  have Z19 := b19.size
  have Y19 := K19.size
  clear CR0 CR1
  replace M1 := M1.next b19
  replace M2 := M2.next b19
  replace M3 := M3.next b19
  replace BR0 := BR0.next b19
  replace M5 := M5.next b19
  replace M6 := M6.next b19
  replace M7 := M7.next b19
  replace BR1 := BR1.next b19
  replace M10 := M10.next b19
  replace M12 := M12.next b19
  clear b19
  have CR0 := BR0.cell
  have CR1 := BR1.cell
  go_wp2_with fail
  refine (toIntS_any _ _ _ _ _ (hys.below K19 (Nat.le_refl _)) hnys').mono ?_
  rintro e w20 ⟨A20, rfl, o20, b20⟩
  have M20 := Mine.of o20
  clear o20
  have K20 := bel_then K19 b20
  have Z20 := b20.size
  have Y20 := K20.size
  clear CR0 CR1
  replace M1 := M1.next b20
  replace M2 := M2.next b20
  replace M3 := M3.next b20
  replace BR0 := BR0.next b20
  replace M5 := M5.next b20
  replace M6 := M6.next b20
  replace M7 := M7.next b20
  replace BR1 := BR1.next b20
  replace M10 := M10.next b20
  replace M12 := M12.next b20
  replace M19 := M19.next b20
  clear b20
  have CR0 := BR0.cell
  have CR1 := BR1.cell
  go_wp2_with fail
  refine (NewDesk_any _ _ _ xs _ _ _ ys _ M19.sees hnxs' M20.sees hnys').mono ?_
  rw [HR.out]
  rintro e w21 ⟨H21, rfl, M21, F21, G21, b21⟩
  have K21 := bel_then K20 b21
  have Z21 := b21.size
  have Y21 := K21.size
  clear CR0 CR1
  replace M1 := M1.next b21
  replace M2 := M2.next b21
  replace M3 := M3.next b21
  replace BR0 := BR0.next b21
  replace M5 := M5.next b21
  replace M6 := M6.next b21
  replace M7 := M7.next b21
  replace BR1 := BR1.next b21
  replace M10 := M10.next b21
  replace M12 := M12.next b21
  replace M19 := M19.next b21
  replace M20 := M20.next b21
  clear b21
  have CR0 := BR0.cell
  have CR1 := BR1.cell
  have V21 : H21.n0 ≤ 1048576 ∧ H21.n1 ≤ 1048576 ∧ H21.n2 ≤ 1048576 ∧ H21.n3 ≤ 1048576 ∧ H21.n4 ≤ 1048576 := ⟨F21.n0, F21.n1, F21.n2, F21.n3, F21.n4⟩
  have l22_0 : w3.heap.size < w21.heap.size := by omega
  have l22_1 : w7.heap.size < w21.heap.size := by omega
  go_wp2_with fail
  have b22 : Below w21.heap.size w21 (w21.alloc (.cells #[.slice H21.A0 H21.n0 H21.c0, .slice H21.A1 H21.n1 H21.c1, .slice H21.A2 H21.n2 H21.c2, .slice H21.A3 H21.n3 H21.c3, .slice H21.A4 H21.n4 H21.c4] 32)) := (Below.refl _ _).alloc (Nat.le_refl _) _
  have BR2 : Blk (w21.alloc (.cells #[.slice H21.A0 H21.n0 H21.c0, .slice H21.A1 H21.n1 H21.c1, .slice H21.A2 H21.n2 H21.c2, .slice H21.A3 H21.n3 H21.c3, .slice H21.A4 H21.n4 H21.c4] 32)) w21.heap.size 32 [.slice H21.A0 H21.n0 H21.c0, .slice H21.A1 H21.n1 H21.c1, .slice H21.A2 H21.n2 H21.c2, .slice H21.A3 H21.n3 H21.c3, .slice H21.A4 H21.n4 H21.c4] := Blk.at_ rfl
  have K22 := bel_then K21 b22
  have Z22 := b22.size
  have Y22 := K22.size
  clear CR0 CR1
  replace M1 := M1.next b22
  replace M2 := M2.next b22
  replace M3 := M3.next b22
  replace BR0 := BR0.next b22
  replace M5 := M5.next b22
  replace M6 := M6.next b22
  replace M7 := M7.next b22
  replace BR1 := BR1.next b22
  replace M10 := M10.next b22
  replace M12 := M12.next b22
  replace M19 := M19.next b22
  replace M20 := M20.next b22
  replace M21 := M21.next b22
  clear b22
  have CR0 := BR0.cell
  have CR1 := BR1.cell
  have V22 : w21.heap.size + 1 ≤ (w21.alloc (.cells #[.slice H21.A0 H21.n0 H21.c0, .slice H21.A1 H21.n1 H21.c1, .slice H21.A2 H21.n2 H21.c2, .slice H21.A3 H21.n3 H21.c3, .slice H21.A4 H21.n4 H21.c4] 32)).heap.size := by simp
  generalize (w21.alloc (.cells #[.slice H21.A0 H21.n0 H21.c0, .slice H21.A1 H21.n1 H21.c1, .slice H21.A2 H21.n2 H21.c2, .slice H21.A3 H21.n3 H21.c3, .slice H21.A4 H21.n4 H21.c4] 32)) = w22 at *
  have CR2 := BR2.cell
  go_wp2_with fail
  refine (eqDesk_any _ _ _ _ _ _ _ M21.sees M3.sees rfl F21).mono ?_
  rintro e w23 ⟨rfl, b23⟩
  have K23 := bel_then K22 b23
  have Z23 := b23.size
  have Y23 := K23.size
  clear CR0 CR1 CR2
  replace M1 := M1.next b23
  replace M2 := M2.next b23
  replace M3 := M3.next b23
  replace BR0 := BR0.next b23
  replace M5 := M5.next b23
  replace M6 := M6.next b23
  replace M7 := M7.next b23
  replace BR1 := BR1.next b23
  replace M10 := M10.next b23
  replace M12 := M12.next b23
  replace M19 := M19.next b23
  replace M20 := M20.next b23
  replace M21 := M21.next b23
  replace BR2 := BR2.next b23
  clear b23
  have CR0 := BR0.cell
  have CR1 := BR1.cell
  have CR2 := BR2.cell
  go_wp2_with fail
  refine (heldDesk_any _ _ _ _ _ M7.sees (by omega) (by (try dsimp only); omega) F7).mono ?_
  rintro e w24 ⟨rfl, b24⟩
  have K24 := bel_then K23 b24
  have Z24 := b24.size
  have Y24 := K24.size
  clear CR0 CR1 CR2
  replace M1 := M1.next b24
  replace M2 := M2.next b24
  replace M3 := M3.next b24
  replace BR0 := BR0.next b24
  replace M5 := M5.next b24
  replace M6 := M6.next b24
  replace M7 := M7.next b24
  replace BR1 := BR1.next b24
  replace M10 := M10.next b24
  replace M12 := M12.next b24
  replace M19 := M19.next b24
  replace M20 := M20.next b24
  replace M21 := M21.next b24
  replace BR2 := BR2.next b24
  clear b24
  have CR0 := BR0.cell
  have CR1 := BR1.cell
  have CR2 := BR2.cell
  go_wp2_with fail
  go_ret
  exact ⟨rfl, K24⟩

end Go.Proofs.Ytkeffhnkhmalpaa
