/- A struct that a call has returned, boxed in a block of its own inside a region that draws its order: what stands behind the cut. -/
import Derived.Test.YtljiflbaknakaaaS0
import Derived.Deep.DeepCutAuto
import Derived.IntWalk
namespace Go.Proofs.Ytljiflbaknakaaa
open Go.RowKit

/-- What a slot s points to: a block g from lo on that holds the cells cs; all that was there before w is kept; P holds. -/
structure Boxed (lo : Nat) (w wx : World) (t : TypeId) (cs : List Value) (P : World → Prop) (s : Value) : Prop where
  ptr : ∃ g, s = .pointer (some ⟨g, 0, none⟩) ∧ lo ≤ g ∧ Blk wx g t cs
  kept : Below w.heap.size w wx
  live : P wx
/-- A writer of one block. -/
theorem only_set {g : Nat} {w w' : World} (h : Only (fun b => b = g) w w') (i : Nat) (u : Value) : Only (fun b => b = g) w (w'.setCell ⟨g, i, none⟩ u) := h.setCell (p := ⟨g, i, none⟩) rfl u
theorem bel_new {B g : Nat} {a w w' : World} (h : Below B a w) (ho : Only (fun b => b = g) w w') (hB : B ≤ w.heap.size) (hg : B ≤ g) : Below B a w' :=
  h.trans (ho.below (fun _ hk => by rw [hk]; exact hg) hB)

end Go.Proofs.Ytljiflbaknakaaa
