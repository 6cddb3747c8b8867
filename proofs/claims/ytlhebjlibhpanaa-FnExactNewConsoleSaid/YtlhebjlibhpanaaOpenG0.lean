/- How the laws' own structs read. -/
import Derived.Test.YtlhebjlibhpanaaOpen2
import Derived.Test.YtlhebjlibhpanaaS0
namespace Go.Proofs.Ytlhebjlibhpanaa
open Go.ChangeShapes Go.WideShapes Go.ChangeAt Go.RowKit Go.Deep
theorem ownKnob_none : ownKnob Try.prog.godebug = none := by kernel_rfl
theorem laidOut_true : laidOutB Try.prog = true := by kernel_rfl
section
variable {H : Type} {enc : TypeId × Value → H} {w : World} {base : Nat} {spare : Nat → Bool} {held : Bool}
theorem cellsOf_int : Try.prog.cellsOf 3 = 1 := by kernel_rfl
end
end Go.Proofs.Ytlhebjlibhpanaa
