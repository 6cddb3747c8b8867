/- The walk of the law FnExactGapsBehind. -/
import Derived.Test.YtbcblmbpjecilaaRep2
namespace Go.Proofs.Ytbcblmbpjecilaa
open Go.RowKit

set_option maxRecDepth 100000 in
set_option maxHeartbeats 2000000 in
theorem FnExactGapsBehind_any (Axs : Option Addr) (nxs cxs : Nat) (xs : List ReportLine) (w : World) (hxs : Sees w 0 4 Axs nxs (xs.flatMap ReportLine.enc)) (hnxs : nxs ≤ 9223372036854775807) (hkxs : ∀ x ∈ xs, x.upto 9223372036854775807) :
    Calls Try.prog 8 #[.slice Axs nxs cxs] w fun e w' => e = .returned (.bool true) ∧ Below w.heap.size w w' := by
  have hR := gapsM_len xs
  have hlxs := hxs.count (by decide) (fun _ => rfl)
  have K0 := Below.refl w.heap.size w
  go_enter Try.func8, Try.ntmps8
  go_wp2_with fail
  refine (szReportLineS_any _ _ _ xs _ _ (hxs.below K0 (Nat.le_refl _)) hkxs hnxs (by omega) (by omega)).mono ?_
  rintro e w1 ⟨lxs, rfl, b1, rfl | ⟨pxs, qxs, rxs, huxs⟩⟩
  · go_wp2_with fail
    go_ret
    exact ⟨rfl, bel_then K0 b1⟩
  have K1 := bel_then K0 b1
  have Z1 := b1.size
  have Y1 := K1.size
  clear b1
  have hnxs' : nxs ≤ 1048576 := by omega
  go_wp2_with fail
  refine (toReportLineS_any _ _ _ _ _ (hxs.below K1 (Nat.le_refl _)) hnxs').mono ?_
  rintro e w2 ⟨A2, rfl, o2, b2⟩
  have M2 := Mine.of o2
  clear o2
  have K2 := bel_then K1 b2
  have Z2 := b2.size
  have Y2 := K2.size
  clear b2
  go_wp2_with fail
  refine (specGapsBehind_any _ _ _ _ _ M2.sees hnxs' hkxs).mono ?_
  generalize hRe : gapsM xs = R at *
  have HR := Lib.hid hRe
  clear hRe
  rintro e w3 ⟨A3, c3, rfl, o3, b3⟩
  have M3 := Mine.of o3
  clear o3
  have K3 := bel_then K2 b3
  have Z3 := b3.size
  have Y3 := K3.size
  replace M2 := M2.next b3
  clear b3
  go_wp2_with fail
  refine (toReportLineS_any _ _ _ _ _ (hxs.below K3 (Nat.le_refl _)) hnxs').mono ?_
  rintro e w4 ⟨A4, rfl, o4, b4⟩
  have M4 := Mine.of o4
  clear o4
  have K4 := bel_then K3 b4
  have Z4 := b4.size
  have Y4 := K4.size
  replace M2 := M2.next b4
  replace M3 := M3.next b4
  clear b4
  go_wp2_with fail
  refine (GapsBehind_any _ _ _ _ _ M4.sees hnxs' (Nat.le_refl _) hkxs).mono ?_
  rw [HR.out]
  rintro e w5 ⟨A5, c5, rfl, o5, b5⟩
  have M5 := Mine.of o5
  clear o5
  have K5 := bel_then K4 b5
  have Z5 := b5.size
  have Y5 := K5.size
  replace M2 := M2.next b5
  replace M3 := M3.next b5
  replace M4 := M4.next b5
  clear b5
  go_wp2_with fail
  refine (eqIntS_any _ _ _ _ _ _ _ _ _ _ _ M5.sees M3.sees rfl (by omega)).mono ?_
  rintro e w6 ⟨rfl, q6⟩
  have b6 := q6.below w5.heap.size
  clear q6
  have K6 := bel_then K5 b6
  have Z6 := b6.size
  have Y6 := K6.size
  replace M2 := M2.next b6
  replace M3 := M3.next b6
  replace M4 := M4.next b6
  replace M5 := M5.next b6
  clear b6
  go_wp2_with fail
  refine (toReportLineS_any _ _ _ _ _ (hxs.below K6 (Nat.le_refl _)) hnxs').mono ?_
  rintro e w7 ⟨A7, rfl, o7, b7⟩
  have M7 := Mine.of o7
  clear o7
  have K7 := bel_then K6 b7
  have Z7 := b7.size
  have Y7 := K7.size
  replace M2 := M2.next b7
  replace M3 := M3.next b7
  replace M4 := M4.next b7
  replace M5 := M5.next b7
  clear b7
  go_wp2_with fail
  refine (eqReportLineS_any _ _ _ _ _ _ _ _ _ _ _ M4.sees M7.sees rfl (by omega)).mono ?_
  rintro e w8 ⟨rfl, b8⟩
  have K8 := bel_then K7 b8
  have Z8 := b8.size
  have Y8 := K8.size
  replace M2 := M2.next b8
  replace M3 := M3.next b8
  replace M4 := M4.next b8
  replace M5 := M5.next b8
  replace M7 := M7.next b8
  clear b8
  go_wp2_with fail
  refine (markReportLineS_any _ _ _ _ _ _ _ _ M4 (by omega) (by omega) (by omega)).mono ?_
  rintro e w9 ⟨rfl, m9, q9⟩
  replace M4 := m9
  clear m9
  have b9 : Below w.heap.size w8 w9 := q9.below (fun i hi => by have := hi.1; omega) (by omega)
  have K9 := K8.trans b9
  have Z9 := q9.size
  have Y9 := K9.size
  clear b9
  replace M2 := M2.only q9 (fun i h1 h2 => by have := h1.1; have := h1.2; have := h2.1; have := h2.2; omega)
  replace M3 := M3.only q9 (fun i h1 h2 => by have := h1.1; have := h1.2; have := h2.1; have := h2.2; omega)
  replace M5 := M5.only q9 (fun i h1 h2 => by have := h1.1; have := h1.2; have := h2.1; have := h2.2; omega)
  replace M7 := M7.only q9 (fun i h1 h2 => by have := h1.1; have := h1.2; have := h2.1; have := h2.2; omega)
  clear q9
  go_wp2_with fail
  refine (eqIntS_any _ _ _ _ _ _ _ _ _ _ _ M5.sees M3.sees rfl (by omega)).mono ?_
  rintro e w10 ⟨rfl, q10⟩
  have b10 := q10.below w9.heap.size
  clear q10
  have K10 := bel_then K9 b10
  have Z10 := b10.size
  have Y10 := K10.size
  replace M2 := M2.next b10
  replace M3 := M3.next b10
  replace M4 := M4.next b10
  replace M5 := M5.next b10
  replace M7 := M7.next b10
  clear b10
  go_wp2_with fail
  refine (markIntS_any _ _ _ _ _ _ _ _ M5 (by omega) (by omega) (by omega)).mono ?_
  rintro e w11 ⟨rfl, m11, q11⟩
  replace M5 := m11
  clear m11
  have b11 : Below w.heap.size w10 w11 := q11.below (fun i hi => by have := hi.1; omega) (by omega)
  have K11 := K10.trans b11
  have Z11 := q11.size
  have Y11 := K11.size
  clear b11
  replace M2 := M2.only q11 (fun i h1 h2 => by have := h1.1; have := h1.2; have := h2.1; have := h2.2; omega)
  replace M3 := M3.only q11 (fun i h1 h2 => by have := h1.1; have := h1.2; have := h2.1; have := h2.2; omega)
  replace M4 := M4.only q11 (fun i h1 h2 => by have := h1.1; have := h1.2; have := h2.1; have := h2.2; omega)
  replace M7 := M7.only q11 (fun i h1 h2 => by have := h1.1; have := h1.2; have := h2.1; have := h2.2; omega)
  clear q11
  go_wp2_with fail
  refine (heldIntS_any _ _ _ _ _ _ M5.sees (by omega) (by omega) (by omega)).mono ?_
  rintro e w12 ⟨rfl, q12⟩
  have b12 := q12.below w11.heap.size
  clear q12
  have K12 := bel_then K11 b12
  have Z12 := b12.size
  have Y12 := K12.size
  replace M2 := M2.next b12
  replace M3 := M3.next b12
  replace M4 := M4.next b12
  replace M5 := M5.next b12
  replace M7 := M7.next b12
  clear b12
  go_wp2_with fail
  refine (toReportLineS_any _ _ _ _ _ (hxs.below K12 (Nat.le_refl _)) hnxs').mono ?_
  rintro e w13 ⟨A13, rfl, o13, b13⟩
  have M13 := Mine.of o13
  clear o13
  have K13 := bel_then K12 b13
  have Z13 := b13.size
  have Y13 := K13.size
  replace M2 := M2.next b13
  replace M3 := M3.next b13
  replace M4 := M4.next b13
  replace M5 := M5.next b13
  replace M7 := M7.next b13
  clear b13
  go_wp2_with fail
  refine (GapsBehind_any _ _ _ _ _ M13.sees hnxs' (Nat.le_refl _) hkxs).mono ?_
  rw [HR.out]
  rintro e w14 ⟨A14, c14, rfl, o14, b14⟩
  have M14 := Mine.of o14
  clear o14
  have K14 := bel_then K13 b14
  have Z14 := b14.size
  have Y14 := K14.size
  replace M2 := M2.next b14
  replace M3 := M3.next b14
  replace M4 := M4.next b14
  replace M5 := M5.next b14
  replace M7 := M7.next b14
  replace M13 := M13.next b14
  clear b14
  go_wp2_with fail
  refine (eqIntS_any _ _ _ _ _ _ _ _ _ _ _ M14.sees M3.sees rfl (by omega)).mono ?_
  rintro e w15 ⟨rfl, q15⟩
  have b15 := q15.below w14.heap.size
  clear q15
  have K15 := bel_then K14 b15
  have Z15 := b15.size
  have Y15 := K15.size
  replace M2 := M2.next b15
  replace M3 := M3.next b15
  replace M4 := M4.next b15
  replace M5 := M5.next b15
  replace M7 := M7.next b15
  replace M13 := M13.next b15
  replace M14 := M14.next b15
  clear b15
  go_wp2_with fail
  refine (heldIntS_any _ _ _ _ _ _ M5.sees (by omega) (by omega) (by omega)).mono ?_
  rintro e w16 ⟨rfl, q16⟩
  have b16 := q16.below w15.heap.size
  clear q16
  have K16 := bel_then K15 b16
  have Z16 := b16.size
  have Y16 := K16.size
  replace M2 := M2.next b16
  replace M3 := M3.next b16
  replace M4 := M4.next b16
  replace M5 := M5.next b16
  replace M7 := M7.next b16
  replace M13 := M13.next b16
  replace M14 := M14.next b16
  clear b16
  go_wp2_with fail
  go_ret
  exact ⟨rfl, K16⟩

end Go.Proofs.Ytbcblmbpjecilaa
