/- The walk of the law FnExactReportText. -/
import Derived.Test.YtbcblmbpjecilaaDoorRText
namespace Go.Proofs.YtbcblmbpjecilaaDoor
open Go.RowKit

set_option maxRecDepth 100000 in
set_option maxHeartbeats 2000000 in
theorem FnExactReportText_any (Axs : Option Addr) (nxs cxs : Nat) (xs : List ReportLine) (w : World) (hxs : Sees w 0 4 Axs nxs (xs.flatMap ReportLine.enc)) (hnxs : nxs ≤ 9223372036854775807) (hkxs : ∀ x ∈ xs, x.upto 9223372036854775807) :
    Calls Tryd.prog 6 #[.slice Axs nxs cxs] w fun e w' => e = .returned (.bool true) ∧ Below w.heap.size w w' := by
  have hlxs := hxs.count (by decide) (fun _ => rfl)
  have K0 := Below.refl w.heap.size w
  go_enter Tryd.func6, Tryd.ntmps6
  go_wp2_with fail
  refine (szReportLineS_any _ _ _ xs _ _ (hxs.below K0 (Nat.le_refl _)) hkxs hnxs (by omega) (by omega)).mono ?_
  rintro e w1 ⟨lxs, rfl, b1, rfl | ⟨pxs, qxs, rxs, huxs⟩⟩
  · go_wp2_with fail
    go_ret
    exact ⟨rfl, bel_then K0 b1⟩
  have K1 := bel_then K0 b1
  have Z1 := b1.size
  have Y1 := K1.size
  clear b1
  have hnxs' : nxs ≤ 1048576 := by omega
  go_wp2_with fail
  refine (toReportLineS_any _ _ _ _ _ (hxs.below K1 (Nat.le_refl _)) hnxs').mono ?_
  rintro e w2 ⟨A2, rfl, o2, b2⟩
  have M2 := Mine.of o2
  clear o2
  have K2 := bel_then K1 b2
  have Z2 := b2.size
  have Y2 := K2.size
  clear b2
  go_wp2_with fail
  refine (specReportText_any _ _ _ _ _ M2.sees hnxs' hkxs).mono ?_
  generalize hRe : reportM xs = R at *
  have HR := Lib.hid hRe
  clear hRe
  rintro e w3 ⟨rfl, b3⟩
  have K3 := bel_then K2 b3
  have Z3 := b3.size
  have Y3 := K3.size
  replace M2 := M2.next b3
  clear b3
  go_wp2_with fail
  refine (toReportLineS_any _ _ _ _ _ (hxs.below K3 (Nat.le_refl _)) hnxs').mono ?_
  rintro e w4 ⟨A4, rfl, o4, b4⟩
  have M4 := Mine.of o4
  clear o4
  have K4 := bel_then K3 b4
  have Z4 := b4.size
  have Y4 := K4.size
  replace M2 := M2.next b4
  clear b4
  go_wp2_with fail
  refine (ReportText_any _ _ _ _ _ M4.sees hnxs' (Nat.le_refl _) hkxs).mono ?_
  rw [HR.out]
  rintro e w5 ⟨rfl, b5⟩
  have K5 := bel_then K4 b5
  have Z5 := b5.size
  have Y5 := K5.size
  replace M2 := M2.next b5
  replace M4 := M4.next b5
  clear b5
  go_wp2_with fail
  refine (toReportLineS_any _ _ _ _ _ (hxs.below K5 (Nat.le_refl _)) hnxs').mono ?_
  rintro e w6 ⟨A6, rfl, o6, b6⟩
  have M6 := Mine.of o6
  clear o6
  have K6 := bel_then K5 b6
  have Z6 := b6.size
  have Y6 := K6.size
  replace M2 := M2.next b6
  replace M4 := M4.next b6
  clear b6
  go_wp2_with fail
  refine (eqReportLineS_any _ _ _ _ _ _ _ _ _ _ _ M4.sees M6.sees rfl (by omega)).mono ?_
  rintro e w7 ⟨rfl, b7⟩
  have K7 := bel_then K6 b7
  have Z7 := b7.size
  have Y7 := K7.size
  replace M2 := M2.next b7
  replace M4 := M4.next b7
  replace M6 := M6.next b7
  clear b7
  go_wp2_with fail
  go_ret
  exact ⟨rfl, K7⟩

end Go.Proofs.YtbcblmbpjecilaaDoor
