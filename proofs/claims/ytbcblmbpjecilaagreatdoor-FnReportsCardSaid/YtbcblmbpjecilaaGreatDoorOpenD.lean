/- How the laws' own structs read. -/
import Derived.Test.YtbcblmbpjecilaaGreatDoorOpen2
import Derived.Test.YtbcblmbpjecilaaGreatDoorLine
namespace Go.Proofs.YtbcblmbpjecilaaGreatDoor
open Go.ChangeShapes Go.WideShapes Go.ChangeAt Go.RowKit Go.Deep
theorem ownKnob_none : ownKnob Tryz.prog.godebug = none := by kernel_rfl
theorem laidOut_true : laidOutB Tryz.prog = true := by kernel_rfl
section
variable {H : Type} {enc : TypeId × Value → H} {w : World} {base : Nat} {spare : Nat → Bool} {held : Bool}
theorem cellsOf_int : Tryz.prog.cellsOf 3 = 1 := by kernel_rfl
def zeroReportLine : ReportLine := ⟨⟨#[]⟩, ⟨#[]⟩, 0, 0⟩
theorem zeroReportLine_upto : zeroReportLine.upto 9223372036854775807 := by unfold ReportLine.upto; decide
end
end Go.Proofs.YtbcblmbpjecilaaGreatDoor
