/- How the laws' own structs read. -/
import Derived.Test.YtjangfhelagjnaaDoorOpen2
import Derived.Test.YtjangfhelagjnaaDoorLogT
namespace Go.Proofs.YtjangfhelagjnaaDoor
open Go.ChangeShapes Go.WideShapes Go.ChangeAt Go.RowKit Go.Deep
theorem ownKnob_none : ownKnob Tryd.prog.godebug = none := by kernel_rfl
theorem laidOut_true : laidOutB Tryd.prog = true := by kernel_rfl
section
variable {H : Type} {enc : TypeId × Value → H} {w : World} {base : Nat} {spare : Nat → Bool} {held : Bool}
theorem cellsOf_int : Tryd.prog.cellsOf 3 = 1 := by kernel_rfl
theorem cellsOf_LogRecord : Tryd.prog.cellsOf 23 = 2 := by kernel_rfl
def zeroLogRecord : LogRecord := ⟨⟨#[]⟩, ⟨#[]⟩⟩
theorem zeroLogRecord_upto : zeroLogRecord.upto 9223372036854775807 := by unfold LogRecord.upto; decide
theorem open_LogRecord (n : Nat) (cs : List Value) (x : DataW H × List MemPlace) (h : DataW.trod enc Tryd.prog w base spare held n 23 cs = some x) : ∃ d : LogRecord, cs = d.enc ∧ d.upto 9223372036854775807 := by
  obtain ⟨hl, m, hf⟩ := struct_fields Tryd.underlying23 (by kernel_rfl) (by kernel_rfl) h
  obtain ⟨v0, _, h0, t0⟩ := hf 0 _ rfl
  obtain ⟨v1, _, h1, t1⟩ := hf 1 _ rfl
  obtain ⟨a0, rfl, u0⟩ := cell_string Tryd.underlying9 t0
  obtain ⟨a1, rfl, u1⟩ := cell_string Tryd.underlying9 t1
  exact ⟨⟨a0, a1⟩, list2 hl h0 h1, ⟨u0, u1⟩⟩
end
end Go.Proofs.YtjangfhelagjnaaDoor
