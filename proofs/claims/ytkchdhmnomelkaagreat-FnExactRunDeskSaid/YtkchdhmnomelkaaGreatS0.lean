/- Small helpers that all laws lean on: ranges, results. -/
import Derived.Test.YtkchdhmnomelkaaGreatHelp1
namespace Go.Proofs.YtkchdhmnomelkaaGreat
open Go.RowKit

/-- a number in a range -/
def inB (n lo hi : Int) : Bool := decide (lo ≤ n) && decide (n ≤ hi)
theorem inB_true {n lo hi : Int} (h : inB n lo hi = true) : lo ≤ n ∧ n ≤ hi := by simpa [inB] using h

theorem inside_any (n lo hi : Int) (w : World) : Calls Tryz.prog 70 #[.int .i64 n, .int .i64 lo, .int .i64 hi] w fun e w' => e = .returned (.bool (inB n lo hi)) ∧ w = w' := by
  go_enter Tryz.func70, Tryz.ntmps70
  go_wp2
  all_goals go_ret
  all_goals exact ⟨ret_bool (by simp [inB]; omega), rfl⟩
theorem l1In_any (n lo hi : Int) (w : World) : Calls Tryz.prog 54 #[.int .i64 n, .int .i64 lo, .int .i64 hi] w fun e w' => e = .returned (.bool (inB n lo hi)) ∧ w = w' := by
  go_enter Tryz.func54, Tryz.ntmps54
  go_wp2
  all_goals go_ret
  all_goals exact ⟨ret_bool (by simp [inB]; omega), rfl⟩
theorem isTime_any (n : Int) (w : World) : Calls Tryz.prog 71 #[.int .i64 n] w fun e w' => e = .returned (.bool (inB n 0 36000)) ∧ w = w' := by
  go_enter Tryz.func71, Tryz.ntmps71
  go_wp2_with (go_at_call 70; refine (inside_any _ _ _ _).mono ?_; rintro e w' ⟨rfl, rfl⟩)
  go_ret
  exact ⟨rfl, rfl⟩
theorem l12Time_any (n : Int) (w : World) : Calls Tryz.prog 55 #[.int .i64 n] w fun e w' => e = .returned (.bool (inB n 0 36000)) ∧ w = w' := by
  go_enter Tryz.func55, Tryz.ntmps55
  go_wp2_with (go_at_call 54; refine (l1In_any _ _ _ _).mono ?_; rintro e w' ⟨rfl, rfl⟩)
  go_ret
  exact ⟨rfl, rfl⟩
/-- A list of integers in memory of the call's own, and a word on whether there is one. -/
def GivesInts (w : World) (R : Option (List Int)) (e : Ending) (w' : World) : Prop :=
  ∃ A c, e = .returned (.tuple #[.slice A (R.getD []).length c, .bool R.isSome]) ∧ w'.ownsRow w.heap.size 3 1 (.slice A (R.getD []).length c) (R.getD []).length (ints (R.getD [])) ∧ Below w.heap.size w w'

theorem gives_nil {w w' : World} (h : Below w.heap.size w w') : GivesInts w none (.returned (.tuple #[.slice none 0 0, .bool false])) w' :=
  ⟨none, 0, rfl, World.ownsRow_nil _ _ _ _, h⟩
theorem own_len {w : World} {base t n c : Nat} {A : Option Addr} {xs : List Int} (h : w.ownsRow base t 1 (.slice A n c) n (ints xs)) : xs.length = n := by
  have := h.1
  rw [ints_length] at this
  omega

theorem gives_empty {w : World} (wr : World) (h : Below w.heap.size w wr) : GivesInts w none (.returned (.tuple #[.slice (some ⟨wr.heap.size, 0, none⟩) 0 0, .bool false])) (wr.alloc (.cells #[] 3)) :=
  ⟨_, 0, rfl, by
    have := own_empty wr 3 1
    exact ⟨this.1, this.2.imp id fun ⟨g, cap, cur, h1, h2, h3⟩ => ⟨g, cap, cur, h1, Nat.le_trans h.size h2, h3⟩⟩, h.alloc h.size _⟩

end Go.Proofs.YtkchdhmnomelkaaGreat
