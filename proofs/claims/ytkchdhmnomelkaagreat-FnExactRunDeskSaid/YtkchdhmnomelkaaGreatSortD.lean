/- The library's sort at rows of a desk. -/
import Derived.Test.YtkchdhmnomelkaaGreatSortP
import Derived.Test.YtkchdhmnomelkaaGreatDeskF
import Derived.Test.YtkchdhmnomelkaaGreatDelF
import Derived.Test.YtkchdhmnomelkaaGreatShelfCS
namespace Go.Proofs.YtkchdhmnomelkaaGreat
open Go.RowKit

/-- The library's insertion sort at places a to b of a row. -/
def rowIDeskRow (lt : DeskRow → DeskRow → Bool) (xs : List DeskRow) (a i : Nat) : List DeskRow := xs.take a ++ sortR lt ((xs.drop a).take (i - a)) ++ xs.drop i
theorem rowIDeskRow_zero (lt : DeskRow → DeskRow → Bool) (xs : List DeskRow) (a : Nat) : rowIDeskRow lt xs a a = xs := by
  unfold rowIDeskRow
  rw [Nat.sub_self, List.take_zero, sortR_nil, List.append_nil, List.take_append_drop]
theorem rowIDeskRow_one (lt : DeskRow → DeskRow → Bool) (xs : List DeskRow) (a : Nat) : rowIDeskRow lt xs a (a + 1) = xs := by
  unfold rowIDeskRow
  rw [show a + 1 - a = 1 by omega]
  by_cases h : a < xs.length
  · have h1 : xs.drop a = xs[a] :: xs.drop (a + 1) := List.drop_eq_getElem_cons h
    rw [h1, List.take_succ_cons, List.take_zero, sortR_one]
    have h2 := List.take_append_drop a xs
    rw [h1] at h2
    simp
  · rw [List.drop_of_length_le (by omega), List.take_nil, sortR_nil, List.drop_of_length_le (by omega), List.append_nil, List.append_nil, List.take_of_length_le (by omega)]
theorem rowIDeskRow_round (lt : DeskRow → DeskRow → Bool) (xs : List DeskRow) (a i : Nat) (hi : i < xs.length) (ha : a ≤ i) :
    (sortR lt ((xs.drop a).take (i - a))).length = i - a ∧ rowIDeskRow lt xs a i = xs.take a ++ ((sortR lt ((xs.drop a).take (i - a))).take (i - a) ++ xs[i] :: (sortR lt ((xs.drop a).take (i - a))).drop (i - a)) ++ xs.drop (i + 1) ∧ rowIDeskRow lt xs a (i + 1) = xs.take a ++ insR lt (sortR lt ((xs.drop a).take (i - a))) xs[i] ++ xs.drop (i + 1) := by
  have hl : (sortR lt ((xs.drop a).take (i - a))).length = i - a := by rw [sortR_length, List.length_take, List.length_drop]; omega
  refine ⟨hl, ?_, ?_⟩
  · rw [List.take_of_length_le (Nat.le_of_eq hl), List.drop_of_length_le (Nat.le_of_eq hl)]
    have h1 : xs.drop i = xs[i] :: xs.drop (i + 1) := List.drop_eq_getElem_cons hi
    unfold rowIDeskRow
    rw [h1]
    simp only [List.append_assoc, List.cons_append, List.nil_append]
  · unfold rowIDeskRow
    have h2 : i - a < (xs.drop a).length := by rw [List.length_drop]; omega
    rw [show i + 1 - a = (i - a) + 1 by omega, sortR_next lt h2]
    congr 3
    rw [List.getElem_drop]
    congr 1
    omega
theorem rowIDeskRow_mem (lt : DeskRow → DeskRow → Bool) {xs : List DeskRow} {a i : Nat} {x : DeskRow} (h : x ∈ sortR lt ((xs.drop a).take (i - a))) : x ∈ xs := List.mem_of_mem_drop (List.mem_of_mem_take ((sortR_mem lt).1 h))

theorem isNaN_int (a : Int) (w : World) : Calls Tryz.prog 123 #[.int .i64 a] w fun e w' => e = .returned (.bool false) ∧ w = w' := by
  go_enter Tryz.func123, Tryz.ntmps123
  go_wp2
  go_ret
  exact ⟨ret_bool (by simp), rfl⟩
theorem orI_drop {l : List Int} {k : Nat} (hk : k < l.length) : orI (l.drop k) = if l[k] ≠ 0 then l[k] else orI (l.drop (k + 1)) := by
  have h : l.drop k = l[k] :: l.drop (k + 1) := List.drop_eq_getElem_cons hk
  rw [h]; rfl
end Go.Proofs.YtkchdhmnomelkaaGreat
