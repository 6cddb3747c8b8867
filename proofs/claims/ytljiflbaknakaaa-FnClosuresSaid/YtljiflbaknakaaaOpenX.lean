/- How a code, a slice of bytes, reads. -/
import Derived.Test.YtljiflbaknakaaaOpen2
import Derived.Test.YtljiflbaknakaaaCurX
namespace Go.Proofs.Ytljiflbaknakaaa
open Go.ChangeShapes Go.WideShapes Go.ChangeAt Go.RowKit Go.Deep
section
variable {H : Type} {enc : TypeId × Value → H} {w : World} {spare : Nat → Bool} {held : Bool}
theorem cellsOf_u8 : Try.prog.cellsOf 5 = 1 := by kernel_rfl
theorem open_code {fuel : Nat} {cs : List Value} {x : DataW H × List MemPlace} (h : DataW.trod enc Try.prog w 0 spare held fuel 67 cs = some x) : ∃ (A : Option Addr) (n c : Nat), cs = [.slice A n c] ∧ n ≤ 9223372036854775807 ∧ CodeIn w A n := by
  obtain ⟨A, n, c, ds, h1, h2, h3, h4⟩ := open_slice_encP (α := Int) (Q := fun u => 0 ≤ u ∧ u ≤ 255) 0 ⟨by decide, by decide⟩ (E := fun u => [Value.int .u8 u]) Try.underlying67 cellsOf_u8 (by decide) (fun _ => rfl) (fun n cs x h => by
    obtain ⟨d, hd, _, hw⟩ := DataW.trod_int Try.underlying5 h
    refine ⟨d, hd, ?_⟩
    simp [Lit.wf, IntKind.bits, IntKind.signed, IntKind.min, IntKind.max] at hw
    omega) h
  refine ⟨A, n, c, h1, h2, fun hn => ?_⟩
  have hl := h3.count (by decide) (fun _ => rfl)
  obtain ⟨b, off, e, _, hb, hlie⟩ := h3.at' hn
  refine ⟨b, off, e, hb, fun j hj => ?_⟩
  have hj' : j < ds.length := by omega
  refine ⟨ds[j], hlie j _ ?_, h4 _ (List.getElem_mem hj')⟩
  have := flatMap_get (f := fun u => [Value.int .u8 u]) ds (s := 1) (fun _ _ => rfl) j 0 hj' (by decide)
  simpa using this
end
end Go.Proofs.Ytljiflbaknakaaa
