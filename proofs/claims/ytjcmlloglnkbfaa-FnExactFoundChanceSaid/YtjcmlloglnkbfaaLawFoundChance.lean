/- The walk of the law FnExactFoundChance. -/
import Derived.Test.YtjcmlloglnkbfaaFound
namespace Go.Proofs.Ytjcmlloglnkbfaa
open Go.RowKit

set_option maxRecDepth 100000 in
set_option maxHeartbeats 2000000 in
theorem FnExactFoundChance_any (Axs : Option Addr) (nxs cxs : Nat) (xs : List Sector) (Acells : Option Addr) (ncells ccells : Nat) (cells : List Int) (w : World) (hxs : Sees w 0 2 Axs nxs (xs.flatMap Sector.enc)) (hnxs : nxs ≤ 9223372036854775807) (hcells : Sees w 0 1 Acells ncells (ints cells)) (hncells : ncells ≤ 9223372036854775807) :
    Calls Try.prog 6 #[.slice Axs nxs cxs, .slice Acells ncells ccells] w fun e w' => e = .returned (.bool true) ∧ Below w.heap.size w w' := by
  have hlxs := hxs.count (by decide) (fun _ => rfl)
  have hlcells := hcells.icount
  have K0 := Below.refl w.heap.size w
  go_enter Try.func6, Try.ntmps6
  rcases Nat.lt_or_ge 1048576 ncells with hbcells | hbcells
  · go_wp2_with fail
    go_ret
    exact ⟨rfl, K0⟩
  go_wp2_with fail
  refine (szSectorS_any _ _ _ _ _ hnxs (by omega) (by omega)).mono ?_
  rintro e w' ⟨lxs, rfl, rfl, rfl | hlxs⟩
  · go_wp2_with fail
    go_ret
    exact ⟨rfl, K0⟩
  have hnxs' : nxs ≤ 1048576 := by omega
  have hncells' : ncells ≤ 1048576 := by omega
  go_wp2_with fail
  refine (toSectorS_any _ _ _ _ _ (hxs.below K0 (Nat.le_refl _)) hnxs').mono ?_
  rintro e w1 ⟨A1, rfl, o1, b1⟩
  have M1 := Mine.of o1
  clear o1
  have K1 := bel_then K0 b1
  have Z1 := b1.size
  have Y1 := K1.size
  clear b1
  go_wp2_with fail
  refine (toIntS_any _ _ _ _ _ (hcells.below K1 (Nat.le_refl _)) hncells').mono ?_
  rintro e w2 ⟨A2, rfl, o2, b2⟩
  have M2 := Mine.of o2
  clear o2
  have K2 := bel_then K1 b2
  have Z2 := b2.size
  have Y2 := K2.size
  replace M1 := M1.next b2
  clear b2
  go_wp2_with fail
  refine (specFoundChance_any _ _ _ _ _ _ xs cells _ M1.sees hnxs' M2.sees hncells').mono ?_
  generalize hRe : foundChance cells xs = R at *
  have HR := Lib.hid hRe
  clear hRe
  rintro e w3 ⟨rfl, b3⟩
  have K3 := bel_then K2 b3
  have Z3 := b3.size
  have Y3 := K3.size
  replace M1 := M1.next b3
  replace M2 := M2.next b3
  clear b3
  go_wp2_with fail
  refine (toSectorS_any _ _ _ _ _ (hxs.below K3 (Nat.le_refl _)) hnxs').mono ?_
  rintro e w4 ⟨A4, rfl, o4, b4⟩
  have M4 := Mine.of o4
  clear o4
  have K4 := bel_then K3 b4
  have Z4 := b4.size
  have Y4 := K4.size
  replace M1 := M1.next b4
  replace M2 := M2.next b4
  clear b4
  go_wp2_with fail
  refine (toIntS_any _ _ _ _ _ (hcells.below K4 (Nat.le_refl _)) hncells').mono ?_
  rintro e w5 ⟨A5, rfl, o5, b5⟩
  have M5 := Mine.of o5
  clear o5
  have K5 := bel_then K4 b5
  have Z5 := b5.size
  have Y5 := K5.size
  replace M1 := M1.next b5
  replace M2 := M2.next b5
  replace M4 := M4.next b5
  clear b5
  go_wp2_with fail
  refine (FoundChance_any _ _ _ _ _ _ xs cells _ M4.sees hnxs' M5.sees hncells').mono ?_
  rw [HR.out]
  rintro e w6 ⟨rfl, b6⟩
  have K6 := bel_then K5 b6
  have Z6 := b6.size
  have Y6 := K6.size
  replace M1 := M1.next b6
  replace M2 := M2.next b6
  replace M4 := M4.next b6
  replace M5 := M5.next b6
  clear b6
  go_wp2_with fail
  refine (toSectorS_any _ _ _ _ _ (hxs.below K6 (Nat.le_refl _)) hnxs').mono ?_
  rintro e w7 ⟨A7, rfl, o7, b7⟩
  have M7 := Mine.of o7
  clear o7
  have K7 := bel_then K6 b7
  have Z7 := b7.size
  have Y7 := K7.size
  replace M1 := M1.next b7
  replace M2 := M2.next b7
  replace M4 := M4.next b7
  replace M5 := M5.next b7
  clear b7
  go_wp2_with fail
  refine (eqSectorS_any _ _ _ _ _ _ _ _ _ _ _ M4.sees M7.sees rfl (by omega)).mono ?_
  rintro e w8 ⟨rfl, b8⟩
  have K8 := bel_then K7 b8
  have Z8 := b8.size
  have Y8 := K8.size
  replace M1 := M1.next b8
  replace M2 := M2.next b8
  replace M4 := M4.next b8
  replace M5 := M5.next b8
  replace M7 := M7.next b8
  clear b8
  go_wp2_with fail
  refine (toIntS_any _ _ _ _ _ (hcells.below K8 (Nat.le_refl _)) hncells').mono ?_
  rintro e w9 ⟨A9, rfl, o9, b9⟩
  have M9 := Mine.of o9
  clear o9
  have K9 := bel_then K8 b9
  have Z9 := b9.size
  have Y9 := K9.size
  replace M1 := M1.next b9
  replace M2 := M2.next b9
  replace M4 := M4.next b9
  replace M5 := M5.next b9
  replace M7 := M7.next b9
  clear b9
  go_wp2_with fail
  refine (eqIntS_any _ _ _ _ _ _ _ _ _ _ _ M5.sees M9.sees rfl (by omega)).mono ?_
  rintro e w10 ⟨rfl, q10⟩
  have b10 := q10.below w9.heap.size
  clear q10
  have K10 := bel_then K9 b10
  have Z10 := b10.size
  have Y10 := K10.size
  replace M1 := M1.next b10
  replace M2 := M2.next b10
  replace M4 := M4.next b10
  replace M5 := M5.next b10
  replace M7 := M7.next b10
  replace M9 := M9.next b10
  clear b10
  go_wp2_with fail
  go_ret
  exact ⟨rfl, K10⟩

end Go.Proofs.Ytjcmlloglnkbfaa
