/- How rows of a desk are compared, by the program and by the reference. -/
import Derived.Test.YtkchdhmnomelkaaGreatSortD
namespace Go.Proofs.YtkchdhmnomelkaaGreat
open Go.RowKit

def cfR (x y : DeskRow) : Int := orI [cmpI x.missing y.missing, cmpI x.time y.time, cmpI x.number y.number]
def lessR (x y : DeskRow) : Bool := if x.missing ≠ y.missing then decide (x.missing < y.missing) else decide (x.time < y.time) || (decide (x.time = y.time) && decide (x.number < y.number))
theorem lessR_eq (x y : DeskRow) : ltOf' cfR x y = lessR x y := by
  unfold ltOf' cfR lessR orI
  by_cases h1 : x.missing = y.missing
  · have e1 : cmpI x.missing y.missing = 0 := (cmpI_zero _ _).2 h1
    rw [if_neg (by simp [e1]), if_neg (by simp [h1])]
    unfold orI
    by_cases h2 : x.time = y.time
    · have e2 : cmpI x.time y.time = 0 := (cmpI_zero _ _).2 h2
      rw [if_neg (by simp [e2])]
      unfold orI
      rw [show decide (x.time < y.time) = false from decide_eq_false (by omega), show decide (x.time = y.time) = true from decide_eq_true h2, Bool.false_or, Bool.true_and]
      split
      · rw [Bool.eq_iff_iff, decide_eq_true_eq, decide_eq_true_eq]
        exact cmpI_neg _ _
      · rename_i h3
        have h4 : cmpI x.number y.number = 0 := by simpa using h3
        have h5 := (cmpI_zero _ _).1 h4
        rw [show orI [] = 0 from rfl, show decide (x.number < y.number) = false from decide_eq_false (by omega)]
        rfl
    · have e2 : cmpI x.time y.time ≠ 0 := fun h => h2 ((cmpI_zero _ _).1 h)
      rw [if_pos e2, show decide (x.time = y.time) = false from decide_eq_false h2, Bool.false_and, Bool.or_false]
      rw [Bool.eq_iff_iff, decide_eq_true_eq, decide_eq_true_eq]
      exact cmpI_neg _ _
  · have e1 : cmpI x.missing y.missing ≠ 0 := fun h => h1 ((cmpI_zero _ _).1 h)
    rw [if_pos e1, if_pos h1]
    rw [Bool.eq_iff_iff, decide_eq_true_eq, decide_eq_true_eq]
    exact cmpI_neg _ _

end Go.Proofs.YtkchdhmnomelkaaGreat
