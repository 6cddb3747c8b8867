/- Slices whose elements bear a fact of their own. -/
import Derived.Test.YtmhfhmjnffjflaaOpen
namespace Go.Proofs.Ytmhfhmjnffjflaa
open Go.ChangeShapes Go.WideShapes Go.ChangeAt Go.RowKit Go.Deep

section
variable {H : Type} {enc : TypeId × Value → H} {P : Program} {w : World} {base : Nat} {spare : Nat → Bool} {held : Bool}
theorem open_slice_encP {α : Type} {Q : α → Prop} (d0 : α) (h0 : Q d0) {E : α → List Value} {s : Nat} {t e : TypeId} {fuel : Nat} {cs : List Value} {x : DataW H × List MemPlace}
    (ht : P.underlying t = some (.slice e)) (hC : P.cellsOf e = s) (hs : 0 < s) (hlen : ∀ d, (E d).length = s)
    (helem : ∀ n cs x, DataW.trod enc P w base spare held n e cs = some x → ∃ d : α, cs = E d ∧ Q d)
    (h : DataW.trod enc P w base spare held fuel t cs = some x) :
    ∃ (A : Option Addr) (n c : Nat) (ds : List α), cs = [.slice A n c] ∧ n ≤ 9223372036854775807 ∧ Sees w base s A n (ds.flatMap E) ∧ ∀ d ∈ ds, Q d := by
  haveI : Inhabited {d : α // Q d} := ⟨⟨d0, h0⟩⟩
  obtain ⟨A, n, c, ds, h1, h2, h3⟩ := open_slice_enc (α := {d : α // Q d}) (E := fun d => E d.1) ht hC hs (fun d => hlen d.1) (fun n cs x h => by
    obtain ⟨d, hd, hq⟩ := helem n cs x h
    exact ⟨⟨d, hq⟩, hd⟩) h
  refine ⟨A, n, c, ds.map Subtype.val, h1, h2, by rw [List.flatMap_map]; exact h3, fun d hd => ?_⟩
  obtain ⟨x, _, rfl⟩ := List.mem_map.1 hd
  exact x.2
end

end Go.Proofs.Ytmhfhmjnffjflaa
