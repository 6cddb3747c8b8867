/- The walk of the law FnExactParseClock. -/
import Derived.Test.YtbcblmbpjecilaaDoorParseS
namespace Go.Proofs.YtbcblmbpjecilaaDoor
open Go.RowKit

set_option maxRecDepth 100000 in
set_option maxHeartbeats 2000000 in
theorem FnExactParseClock_any (s : ByteArray) (w : World) (hss : s.size ≤ 9223372036854775807) (hg : GlP w) :
    Calls Tryd.prog 4 #[.string s] w fun e w' => e = .returned (.bool true) ∧ Below w.heap.size w w' := by
  have K0 := Below.refl w.heap.size w
  go_enter Tryd.func4, Tryd.ntmps4
  by_cases hbs : 1048576 < s.size
  · go_wp2_with fail
    go_ret
    exact ⟨rfl, K0⟩
  go_wp2_with fail
  refine (specParseClock_any s _ hss).mono ?_
  generalize hRe : parseT s = R at *
  have HR := Lib.hid hRe
  clear hRe
  rintro e w1 ⟨rfl, b1⟩
  have K1 := bel_then K0 b1
  have Z1 := b1.size
  have Y1 := K1.size
  clear b1
  go_wp2_with fail
  refine (ParseClock_any s _ hss (hg.next K1)).mono ?_
  rw [HR.out]
  rintro e w2 ⟨rfl, b2⟩
  have K2 := bel_then K1 b2
  have Z2 := b2.size
  have Y2 := K2.size
  clear b2
  go_wp2_with fail
  go_ret
  exact ⟨rfl, K2⟩

end Go.Proofs.YtbcblmbpjecilaaDoor
