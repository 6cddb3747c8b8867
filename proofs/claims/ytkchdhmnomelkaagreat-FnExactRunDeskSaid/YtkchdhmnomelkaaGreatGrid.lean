/- Cells of a grid: which lie beside which. No program is named here. -/
import Derived.Test.YtkchdhmnomelkaaGreatBase
namespace Go.Proofs.YtkchdhmnomelkaaGreat
/-- the distance of two cells -/
def gapI (w a b : Int) : Int := ((a % w - b % w).natAbs : Nat) + ((a / w - b / w).natAbs : Nat)
/-- the cells above, before, behind and below a cell -/
def besideL (w h c : Int) : List Int := (if w ≤ c then [c - w] else []) ++ (if 0 < c % w then [c - 1] else []) ++ (if c % w < w - 1 then [c + 1] else []) ++ (if c + w < w * h then [c + w] else [])
theorem mem_ite {p : Prop} [Decidable p] (x y : Int) : x ∈ (if p then [y] else []) ↔ p ∧ x = y := by split <;> simp_all
theorem beside_mem (w h c k : Int) : k ∈ besideL w h c ↔ (w ≤ c ∧ k = c - w) ∨ (0 < c % w ∧ k = c - 1) ∨ (c % w < w - 1 ∧ k = c + 1) ∨ (c + w < w * h ∧ k = c + w) := by
  unfold besideL
  simp only [List.mem_append, mem_ite]
  constructor
  · rintro (((h | h) | h) | h)
    · exact .inl h
    · exact .inr (.inl h)
    · exact .inr (.inr (.inl h))
    · exact .inr (.inr (.inr h))
  · rintro (h | h | h | h)
    · exact .inl (.inl (.inl h))
    · exact .inl (.inl (.inr h))
    · exact .inl (.inr h)
    · exact .inr h
theorem beside_gap (w h c k : Int) (hw : 1 ≤ w ∧ w ≤ 6) (hc : 0 ≤ c ∧ c < w * h) (hk : 0 ≤ k ∧ k < w * h) : gapI w c k = 1 ↔ k ∈ besideL w h c := by
  rw [beside_mem]
  have : w = 1 ∨ w = 2 ∨ w = 3 ∨ w = 4 ∨ w = 5 ∨ w = 6 := by omega
  unfold gapI
  rcases this with rfl | rfl | rfl | rfl | rfl | rfl <;> omega
theorem beside_in (w h c k : Int) (hw : 1 ≤ w ∧ w ≤ 6) (hc : 0 ≤ c ∧ c < w * h) (hk : k ∈ besideL w h c) : 0 ≤ k ∧ k < w * h := by
  rw [beside_mem] at hk
  have : w = 1 ∨ w = 2 ∨ w = 3 ∨ w = 4 ∨ w = 5 ∨ w = 6 := by omega
  rcases this with rfl | rfl | rfl | rfl | rfl | rfl <;> omega

end Go.Proofs.YtkchdhmnomelkaaGreat
