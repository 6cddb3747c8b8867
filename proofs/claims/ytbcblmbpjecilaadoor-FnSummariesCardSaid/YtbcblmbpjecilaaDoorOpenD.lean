/- How the laws' own structs read. -/
import Derived.Test.YtbcblmbpjecilaaDoorOpen2
import Derived.Test.YtbcblmbpjecilaaDoorLine
namespace Go.Proofs.YtbcblmbpjecilaaDoor
open Go.ChangeShapes Go.WideShapes Go.ChangeAt Go.RowKit Go.Deep
theorem ownKnob_none : ownKnob Tryd.prog.godebug = none := by kernel_rfl
theorem laidOut_true : laidOutB Tryd.prog = true := by kernel_rfl
section
variable {H : Type} {enc : TypeId × Value → H} {w : World} {base : Nat} {spare : Nat → Bool} {held : Bool}
theorem cellsOf_int : Tryd.prog.cellsOf 3 = 1 := by kernel_rfl
theorem cellsOf_ReportLine : Tryd.prog.cellsOf 54 = 4 := by kernel_rfl
def zeroReportLine : ReportLine := ⟨⟨#[]⟩, ⟨#[]⟩, 0, 0⟩
theorem zeroReportLine_upto : zeroReportLine.upto 9223372036854775807 := by unfold ReportLine.upto; decide
theorem open_ReportLine (n : Nat) (cs : List Value) (x : DataW H × List MemPlace) (h : DataW.trod enc Tryd.prog w base spare held n 54 cs = some x) : ∃ d : ReportLine, cs = d.enc ∧ d.upto 9223372036854775807 := by
  obtain ⟨hl, m, hf⟩ := struct_fields Tryd.underlying54 (by kernel_rfl) (by kernel_rfl) h
  obtain ⟨v0, _, h0, t0⟩ := hf 0 _ rfl
  obtain ⟨v1, _, h1, t1⟩ := hf 1 _ rfl
  obtain ⟨v2, _, h2, t2⟩ := hf 2 _ rfl
  obtain ⟨v3, _, h3, t3⟩ := hf 3 _ rfl
  obtain ⟨a0, rfl, u0⟩ := cell_string Tryd.underlying9 t0
  obtain ⟨a1, rfl, u1⟩ := cell_string Tryd.underlying9 t1
  obtain ⟨a2, rfl, u2⟩ := cell_int Tryd.underlying3 t2
  obtain ⟨a3, rfl, u3⟩ := cell_int Tryd.underlying3 t3
  exact ⟨⟨a0, a1, a2, a3⟩, list4 hl h0 h1 h2 h3, ⟨u0, u1⟩⟩
end
end Go.Proofs.YtbcblmbpjecilaaDoor
