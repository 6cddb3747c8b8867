/- How the law's Log reads. -/
import Derived.Test.YtjangfhelagjnaaDoorOpenE
import Derived.Test.YtjangfhelagjnaaDoorLogL
namespace Go.Proofs.YtjangfhelagjnaaDoor
open Go.ChangeShapes Go.WideShapes Go.ChangeAt Go.RowKit Go.Deep
section
variable {H : Type} {enc : TypeId × Value → H} {w : World} {base : Nat} {spare : Nat → Bool} {held : Bool}
theorem cellsOf_Log : Tryd.prog.cellsOf 36 = 3 := by kernel_rfl
def zeroLog : Log := ⟨⟨#[]⟩, ⟨#[]⟩, 0⟩
theorem zeroLog_upto : zeroLog.upto 9223372036854775807 := by unfold Log.upto; decide
theorem open_Log (n : Nat) (cs : List Value) (x : DataW H × List MemPlace) (h : DataW.trod enc Tryd.prog w base spare held n 36 cs = some x) : ∃ d : Log, cs = d.enc ∧ d.upto 9223372036854775807 := by
  obtain ⟨hl, m, hf⟩ := struct_fields Tryd.underlying36 (by kernel_rfl) (by kernel_rfl) h
  obtain ⟨v0, _, h0, t0⟩ := hf 0 _ rfl
  obtain ⟨v1, _, h1, t1⟩ := hf 1 _ rfl
  obtain ⟨v2, _, h2, t2⟩ := hf 2 _ rfl
  obtain ⟨a0, rfl, u0⟩ := cell_string Tryd.underlying9 t0
  obtain ⟨a1, rfl, u1⟩ := cell_string Tryd.underlying9 t1
  obtain ⟨a2, rfl, u2⟩ := cell_int Tryd.underlying3 t2
  exact ⟨⟨a0, a1, a2⟩, list3 hl h0 h1 h2, ⟨u0, u1⟩⟩
end
end Go.Proofs.YtjangfhelagjnaaDoor
