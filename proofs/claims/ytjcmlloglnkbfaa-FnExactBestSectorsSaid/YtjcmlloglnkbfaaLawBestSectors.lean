/- The walk of the law FnExactBestSectors. -/
import Derived.Test.YtjcmlloglnkbfaaBest2
namespace Go.Proofs.Ytjcmlloglnkbfaa
open Go.RowKit

set_option maxRecDepth 100000 in
set_option maxHeartbeats 2000000 in
theorem FnExactBestSectors_any (Axs : Option Addr) (nxs cxs : Nat) (xs : List Sector) (s : Int) (w : World) (hxs : Sees w 0 2 Axs nxs (xs.flatMap Sector.enc)) (hnxs : nxs ≤ 9223372036854775807) :
    Calls Try.prog 9 #[.slice Axs nxs cxs, .int .i64 s] w fun e w' => e = .returned (.bool true) ∧ Below w.heap.size w w' := by
  have hR := bestM_len xs s
  have hlxs := hxs.count (by decide) (fun _ => rfl)
  have K0 := Below.refl w.heap.size w
  go_enter Try.func9, Try.ntmps9
  go_wp2_with fail
  refine (szSectorS_any _ _ _ _ _ hnxs (by omega) (by omega)).mono ?_
  rintro e w' ⟨lxs, rfl, rfl, rfl | hlxs⟩
  · go_wp2_with fail
    go_ret
    exact ⟨rfl, K0⟩
  have hnxs' : nxs ≤ 1048576 := by omega
  go_wp2_with fail
  refine (toSectorS_any _ _ _ _ _ (hxs.below K0 (Nat.le_refl _)) hnxs').mono ?_
  rintro e w1 ⟨A1, rfl, o1, b1⟩
  have M1 := Mine.of o1
  clear o1
  have K1 := bel_then K0 b1
  have Z1 := b1.size
  have Y1 := K1.size
  clear b1
  go_wp2_with fail
  refine (specBestSectors_any _ _ _ _ _ _ M1.sees hnxs').mono ?_
  generalize hRe : bestM xs s = R at *
  have HR := Lib.hid hRe
  clear hRe
  rintro e w2 ⟨A2, c2, rfl, o2, b2⟩
  have M2 := Mine.of o2
  clear o2
  have K2 := bel_then K1 b2
  have Z2 := b2.size
  have Y2 := K2.size
  replace M1 := M1.next b2
  clear b2
  go_wp2_with fail
  refine (toSectorS_any _ _ _ _ _ (hxs.below K2 (Nat.le_refl _)) hnxs').mono ?_
  rintro e w3 ⟨A3, rfl, o3, b3⟩
  have M3 := Mine.of o3
  clear o3
  have K3 := bel_then K2 b3
  have Z3 := b3.size
  have Y3 := K3.size
  replace M1 := M1.next b3
  replace M2 := M2.next b3
  clear b3
  go_wp2_with fail
  refine (BestSectors_any _ _ _ _ _ _ M3.sees hnxs').mono ?_
  rw [HR.out]
  rintro e w4 ⟨A4, c4, rfl, o4, b4⟩
  have M4 := Mine.of o4
  clear o4
  have K4 := bel_then K3 b4
  have Z4 := b4.size
  have Y4 := K4.size
  replace M1 := M1.next b4
  replace M2 := M2.next b4
  replace M3 := M3.next b4
  clear b4
  go_wp2_with fail
  refine (eqIntS_any _ _ _ _ _ _ _ _ _ _ _ M4.sees M2.sees rfl (by omega)).mono ?_
  rintro e w5 ⟨rfl, q5⟩
  have b5 := q5.below w4.heap.size
  clear q5
  have K5 := bel_then K4 b5
  have Z5 := b5.size
  have Y5 := K5.size
  replace M1 := M1.next b5
  replace M2 := M2.next b5
  replace M3 := M3.next b5
  replace M4 := M4.next b5
  clear b5
  go_wp2_with fail
  refine (toSectorS_any _ _ _ _ _ (hxs.below K5 (Nat.le_refl _)) hnxs').mono ?_
  rintro e w6 ⟨A6, rfl, o6, b6⟩
  have M6 := Mine.of o6
  clear o6
  have K6 := bel_then K5 b6
  have Z6 := b6.size
  have Y6 := K6.size
  replace M1 := M1.next b6
  replace M2 := M2.next b6
  replace M3 := M3.next b6
  replace M4 := M4.next b6
  clear b6
  go_wp2_with fail
  refine (eqSectorS_any _ _ _ _ _ _ _ _ _ _ _ M3.sees M6.sees rfl (by omega)).mono ?_
  rintro e w7 ⟨rfl, b7⟩
  have K7 := bel_then K6 b7
  have Z7 := b7.size
  have Y7 := K7.size
  replace M1 := M1.next b7
  replace M2 := M2.next b7
  replace M3 := M3.next b7
  replace M4 := M4.next b7
  replace M6 := M6.next b7
  clear b7
  go_wp2_with fail
  refine (markSectorS_any _ _ _ _ _ _ _ _ M3 (by omega) (by omega) (by omega)).mono ?_
  rintro e w8 ⟨rfl, m8, q8⟩
  replace M3 := m8
  clear m8
  have b8 : Below w.heap.size w7 w8 := q8.below (fun i hi => by have := hi.1; omega) (by omega)
  have K8 := K7.trans b8
  have Z8 := q8.size
  have Y8 := K8.size
  clear b8
  replace M1 := M1.only q8 (fun i h1 h2 => by have := h1.1; have := h1.2; have := h2.1; have := h2.2; omega)
  replace M2 := M2.only q8 (fun i h1 h2 => by have := h1.1; have := h1.2; have := h2.1; have := h2.2; omega)
  replace M4 := M4.only q8 (fun i h1 h2 => by have := h1.1; have := h1.2; have := h2.1; have := h2.2; omega)
  replace M6 := M6.only q8 (fun i h1 h2 => by have := h1.1; have := h1.2; have := h2.1; have := h2.2; omega)
  clear q8
  go_wp2_with fail
  refine (eqIntS_any _ _ _ _ _ _ _ _ _ _ _ M4.sees M2.sees rfl (by omega)).mono ?_
  rintro e w9 ⟨rfl, q9⟩
  have b9 := q9.below w8.heap.size
  clear q9
  have K9 := bel_then K8 b9
  have Z9 := b9.size
  have Y9 := K9.size
  replace M1 := M1.next b9
  replace M2 := M2.next b9
  replace M3 := M3.next b9
  replace M4 := M4.next b9
  replace M6 := M6.next b9
  clear b9
  go_wp2_with fail
  refine (markIntS_any _ _ _ _ _ _ _ _ M4 (by omega) (by omega) (by omega)).mono ?_
  rintro e w10 ⟨rfl, m10, q10⟩
  replace M4 := m10
  clear m10
  have b10 : Below w.heap.size w9 w10 := q10.below (fun i hi => by have := hi.1; omega) (by omega)
  have K10 := K9.trans b10
  have Z10 := q10.size
  have Y10 := K10.size
  clear b10
  replace M1 := M1.only q10 (fun i h1 h2 => by have := h1.1; have := h1.2; have := h2.1; have := h2.2; omega)
  replace M2 := M2.only q10 (fun i h1 h2 => by have := h1.1; have := h1.2; have := h2.1; have := h2.2; omega)
  replace M3 := M3.only q10 (fun i h1 h2 => by have := h1.1; have := h1.2; have := h2.1; have := h2.2; omega)
  replace M6 := M6.only q10 (fun i h1 h2 => by have := h1.1; have := h1.2; have := h2.1; have := h2.2; omega)
  clear q10
  go_wp2_with fail
  refine (heldIntS_any _ _ _ _ _ _ M4.sees (by omega) (by omega) (by omega)).mono ?_
  rintro e w11 ⟨rfl, q11⟩
  have b11 := q11.below w10.heap.size
  clear q11
  have K11 := bel_then K10 b11
  have Z11 := b11.size
  have Y11 := K11.size
  replace M1 := M1.next b11
  replace M2 := M2.next b11
  replace M3 := M3.next b11
  replace M4 := M4.next b11
  replace M6 := M6.next b11
  clear b11
  go_wp2_with fail
  refine (toSectorS_any _ _ _ _ _ (hxs.below K11 (Nat.le_refl _)) hnxs').mono ?_
  rintro e w12 ⟨A12, rfl, o12, b12⟩
  have M12 := Mine.of o12
  clear o12
  have K12 := bel_then K11 b12
  have Z12 := b12.size
  have Y12 := K12.size
  replace M1 := M1.next b12
  replace M2 := M2.next b12
  replace M3 := M3.next b12
  replace M4 := M4.next b12
  replace M6 := M6.next b12
  clear b12
  go_wp2_with fail
  refine (BestSectors_any _ _ _ _ _ _ M12.sees hnxs').mono ?_
  rw [HR.out]
  rintro e w13 ⟨A13, c13, rfl, o13, b13⟩
  have M13 := Mine.of o13
  clear o13
  have K13 := bel_then K12 b13
  have Z13 := b13.size
  have Y13 := K13.size
  replace M1 := M1.next b13
  replace M2 := M2.next b13
  replace M3 := M3.next b13
  replace M4 := M4.next b13
  replace M6 := M6.next b13
  replace M12 := M12.next b13
  clear b13
  go_wp2_with fail
  refine (eqIntS_any _ _ _ _ _ _ _ _ _ _ _ M13.sees M2.sees rfl (by omega)).mono ?_
  rintro e w14 ⟨rfl, q14⟩
  have b14 := q14.below w13.heap.size
  clear q14
  have K14 := bel_then K13 b14
  have Z14 := b14.size
  have Y14 := K14.size
  replace M1 := M1.next b14
  replace M2 := M2.next b14
  replace M3 := M3.next b14
  replace M4 := M4.next b14
  replace M6 := M6.next b14
  replace M12 := M12.next b14
  replace M13 := M13.next b14
  clear b14
  go_wp2_with fail
  refine (heldIntS_any _ _ _ _ _ _ M4.sees (by omega) (by omega) (by omega)).mono ?_
  rintro e w15 ⟨rfl, q15⟩
  have b15 := q15.below w14.heap.size
  clear q15
  have K15 := bel_then K14 b15
  have Z15 := b15.size
  have Y15 := K15.size
  replace M1 := M1.next b15
  replace M2 := M2.next b15
  replace M3 := M3.next b15
  replace M4 := M4.next b15
  replace M6 := M6.next b15
  replace M12 := M12.next b15
  replace M13 := M13.next b15
  clear b15
  go_wp2_with fail
  go_ret
  exact ⟨rfl, K15⟩

end Go.Proofs.Ytjcmlloglnkbfaa
