/- A struct of two fields, of any number of cells. No program is named here. -/
import Derived.Test.YtlhebjlibhpanaaDoorOpen2
namespace Go.Proofs.YtlhebjlibhpanaaDoor
open Go.ChangeShapes Go.WideShapes Go.ChangeAt Go.RowKit Go.Deep

section
variable {H : Type} {enc : TypeId × Value → H} {P : Program} {w : World} {base : Nat} {spare : Nat → Bool} {held : Bool}
theorem struct_pair {t : TypeId} {f0 f1 : Field} {t0 t1 : TypeId} {k0 k1 fuel : Nat} {cs : List Value} {x : DataW H × List MemPlace} (hs : P.underlying t = some (.struct #[f0, f1])) (e0 : f0.type = t0) (e1 : f1.type = t1) (o0 : f0.offset = 0) (o1 : f1.offset = k0) (c0 : P.cellsOf t0 = k0) (c1 : P.cellsOf t1 = k1) (hC : P.cellsOf t = k0 + k1)
    (h : DataW.trod enc P w base spare held fuel t cs = some x) :
    ∃ (n : Nat) (as bs : List Value) (y0 y1 : DataW H × List MemPlace), cs = as ++ bs ∧ as.length = k0 ∧ DataW.trod enc P w base spare held n t0 as = some y0 ∧ DataW.trod enc P w base spare held n t1 bs = some y1 := by
  obtain ⟨xs, m, _, _, hcl, hl, hf⟩ := DataW.trod_struct hs h
  rw [hC] at hcl
  have hl2 : xs.length = 2 := hl
  have h0 := hf 0 f0 rfl
  have h1 := hf 1 f1 rfl
  rw [e0, o0, c0, List.drop_zero, List.getElem?_eq_getElem (by omega)] at h0
  rw [e1, o1, c1, List.getElem?_eq_getElem (by omega)] at h1
  have hb : (cs.drop k0).take k1 = cs.drop k0 := List.take_of_length_le (by rw [List.length_drop]; omega)
  rw [hb] at h1
  exact ⟨m, cs.take k0, cs.drop k0, _, _, (List.take_append_drop k0 cs).symm, by rw [List.length_take]; omega, h0, h1⟩
end

end Go.Proofs.YtlhebjlibhpanaaDoor
