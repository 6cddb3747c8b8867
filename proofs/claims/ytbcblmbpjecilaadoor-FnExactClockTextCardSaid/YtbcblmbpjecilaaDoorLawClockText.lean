/- The walk of the law FnExactClockText. -/
import Derived.Test.YtbcblmbpjecilaaDoorClock
namespace Go.Proofs.YtbcblmbpjecilaaDoor
open Go.RowKit

set_option maxRecDepth 100000 in
set_option maxHeartbeats 2000000 in
theorem FnExactClockText_any (t : Int) (w : World)  :
    Calls Tryd.prog 3 #[.int .i64 t] w fun e w' => e = .returned (.bool true) ∧ Below w.heap.size w w' := by
  have K0 := Below.refl w.heap.size w
  go_enter Tryd.func3, Tryd.ntmps3
  go_wp2_with fail
  refine (specClockText_any t _).mono ?_
  generalize hRe : clockText t = R at *
  have HR := Lib.hid hRe
  clear hRe
  rintro e w1 ⟨rfl, b1⟩
  have K1 := bel_then K0 b1
  have Z1 := b1.size
  have Y1 := K1.size
  clear b1
  go_wp2_with fail
  refine (ClockText_any t _).mono ?_
  rw [HR.out]
  rintro e w2 ⟨rfl, b2⟩
  have K2 := bel_then K1 b2
  have Z2 := b2.size
  have Y2 := K2.size
  clear b2
  go_wp2_with fail
  go_ret
  exact ⟨rfl, K2⟩

end Go.Proofs.YtbcblmbpjecilaaDoor
