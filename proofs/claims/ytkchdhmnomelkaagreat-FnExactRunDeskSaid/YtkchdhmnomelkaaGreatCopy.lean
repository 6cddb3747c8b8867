/- Copies of numbers; a number put to its place in a rising list. -/
import Derived.Test.YtkchdhmnomelkaaGreatOwn
import Derived.Test.YtkchdhmnomelkaaGreatBfs
namespace Go.Proofs.YtkchdhmnomelkaaGreat
open Go.RowKit

theorem ints_all (xs : List Int) : (ints xs).all Value.oneCell' = true := List.all_eq_true.2 (ints_one xs)

theorem copyInts_any (A : Option Addr) (n c lo : Nat) (xs : List Int) (w : World) (hx : Sees w lo 1 A n (ints xs)) (hn : n ≤ 1048576) :
    Calls Tryz.prog 82 #[.slice A n c] w (GivesL w xs) := by
  have hl := hx.icount
  have K0 : Below w.heap.size w (w.alloc (.cells #[] 3)) := (Below.refl _ _).alloc (Nat.le_refl _) _
  have hown := own_empty w 3 1
  have hx1 := hx.next K0
  go_enter Tryz.func82, Tryz.ntmps82
  go_wp2_with (at_builtin; go_loud (refine wpList_cat rfl _ _ _ rfl Tryz.underlying22 info_int rfl (by decide) rfl hown rfl hx1 (ints_all _) (by omega) (by omega) (by decide) (by simp; try omega) ?_); intro A1 c1 w1 o1 h1 b1 q1)
  go_ret
  subst hl
  exact ⟨A1, c1, by simp, by simpa using o1, K0.trans b1⟩

theorem l1Own_any (A : Option Addr) (n c lo : Nat) (xs : List Int) (w : World) (hx : Sees w lo 1 A n (ints xs)) (hn : n ≤ 1048576) :
    Calls Tryz.prog 80 #[.slice A n c] w (GivesL w xs) := by
  have hl := hx.icount
  have K0 : Below w.heap.size w (w.alloc (.cells #[] 3)) := (Below.refl _ _).alloc (Nat.le_refl _) _
  have hown := own_empty w 3 1
  have hx1 := hx.next K0
  go_enter Tryz.func80, Tryz.ntmps80
  go_wp2_with (at_builtin; go_loud (refine wpList_cat rfl _ _ _ rfl Tryz.underlying22 info_int rfl (by decide) rfl hown rfl hx1 (ints_all _) (by omega) (by omega) (by decide) (by simp; try omega) ?_); intro A1 c1 w1 o1 h1 b1 q1)
  go_ret
  subst hl
  exact ⟨A1, c1, by simp, by simpa using o1, K0.trans b1⟩

end Go.Proofs.YtkchdhmnomelkaaGreat
