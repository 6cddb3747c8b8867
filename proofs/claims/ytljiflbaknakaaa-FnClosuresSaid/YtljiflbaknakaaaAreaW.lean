/- How many marks areas take. -/
import Derived.Test.YtljiflbaknakaaaAreas
namespace Go.Proofs.Ytljiflbaknakaaa
open Go.RowKit

theorem wtN_mem {α : Type} (f : α → Nat) {x : α} : ∀ {l : List α} (_ : x ∈ l), f x ≤ wtN f l
  | y :: l, h => by
    rcases List.mem_cons.1 h with rfl | h
    · simp only [wtN]; omega
    · have := wtN_mem f h; simp only [wtN]; omega
theorem Area.wt_total (xs : List Area) : wtN Area.wt xs = wtN Area.cnt xs * 1 + xs.length * 3 := by
  induction xs with
  | nil => rfl
  | cons x l ih => simp only [wtN, ih, List.length_cons, Area.wt, Area.cnt]; omega

end Go.Proofs.Ytljiflbaknakaaa
