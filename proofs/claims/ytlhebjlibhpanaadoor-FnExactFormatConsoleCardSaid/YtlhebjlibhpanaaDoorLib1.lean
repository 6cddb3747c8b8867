/- slices.IndexFunc, ContainsFunc, Index, Contains at []int. -/
import Derived.Test.YtlhebjlibhpanaaDoorHelp1
namespace Go.Proofs.YtlhebjlibhpanaaDoor
open Go.RowKit

/-- The function value answers p at each element, in every later world. -/
structure Answers {α : Type} (g : Nat) (lb : Array Value) (enc : α → Value) (p : α → Bool) (xs : List α) (w : World) : Prop where
  enters : ∀ args w, (callFunc g args).run Tryd.prog w = .ok (.enter g args) w
  at' : ∀ (i : Nat) (hi : i < xs.length) (W : World), Below w.heap.size w W → Calls Tryd.prog g (#[enc xs[i]] ++ lb) W fun e W' => e = .returned (.bool (p xs[i])) ∧ Below W.heap.size W W'
/-- The first place at which p holds, or -1. -/
def FirstAt {α : Type} (p : α → Bool) (xs : List α) (r : Int) : Prop :=
  (r = -1 ∧ xs.any p = false) ∨ ∃ k : Nat, r = k ∧ ∃ hk : k < xs.length, p xs[k] = true ∧ (xs.take k).any p = false
theorem any_take_succ {α : Type} {p : α → Bool} {xs : List α} {k : Nat} (hk : k < xs.length) (h : (xs.take k).any p = false) (hp : p xs[k] = false) : (xs.take (k + 1)).any p = false := by
  rw [List.take_succ_eq_append_getElem hk, List.any_append, h]
  simp [hp]
theorem FirstAt.any {α : Type} {p : α → Bool} {xs : List α} {r : Int} (h : FirstAt p xs r) : decide (0 ≤ r) = xs.any p := by
  rcases h with ⟨rfl, h⟩ | ⟨k, rfl, hk, hp, _⟩
  · rw [h]; rfl
  · rw [decide_eq_true (by omega), eq_comm, List.any_eq_true]
    exact ⟨_, List.getElem_mem hk, hp⟩

end Go.Proofs.YtlhebjlibhpanaaDoor
