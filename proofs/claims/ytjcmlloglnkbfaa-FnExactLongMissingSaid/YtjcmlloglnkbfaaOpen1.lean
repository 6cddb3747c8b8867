/- How the laws' own structs read. -/
import Derived.Test.YtjcmlloglnkbfaaOpen
import Derived.Test.YtjcmlloglnkbfaaHelp2
namespace Go.Proofs.Ytjcmlloglnkbfaa
open Go.ChangeShapes Go.WideShapes Go.ChangeAt Go.RowKit Go.Deep
section
variable {H : Type} {enc : TypeId × Value → H} {w : World} {base : Nat} {spare : Nat → Bool} {held : Bool}
theorem cellsOf_int : Try.prog.cellsOf 3 = 1 := by kernel_rfl
theorem cellsOf_Missing : Try.prog.cellsOf 26 = 4 := by kernel_rfl
instance : Inhabited Missing := ⟨⟨0, 0, 0, 0⟩⟩
theorem open_Missing (n : Nat) (cs : List Value) (x : DataW H × List MemPlace) (h : DataW.trod enc Try.prog w base spare held n 26 cs = some x) : ∃ d : Missing, cs = d.enc := by
  obtain ⟨hl, m, hf⟩ := struct_fields Try.underlying26 (by kernel_rfl) (by kernel_rfl) h
  obtain ⟨v0, _, h0, t0⟩ := hf 0 _ rfl
  obtain ⟨v1, _, h1, t1⟩ := hf 1 _ rfl
  obtain ⟨v2, _, h2, t2⟩ := hf 2 _ rfl
  obtain ⟨v3, _, h3, t3⟩ := hf 3 _ rfl
  obtain ⟨a0, rfl, _⟩ := cell_int Try.underlying3 t0
  obtain ⟨a1, rfl, _⟩ := cell_int Try.underlying3 t1
  obtain ⟨a2, rfl, _⟩ := cell_int Try.underlying3 t2
  obtain ⟨a3, rfl, _⟩ := cell_int Try.underlying3 t3
  exact ⟨⟨a0, a1, a2, a3⟩, list4 hl h0 h1 h2 h3⟩
end
end Go.Proofs.Ytjcmlloglnkbfaa
