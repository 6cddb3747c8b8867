/- Plain laws of searches: the best sectors, the chances after a search. -/
import Derived.Test.YtjcmlloglnkbfaaBest
import Derived.Test.YtjcmlloglnkbfaaAfter
namespace Go.Proofs.Ytjcmlloglnkbfaa
open Go.RowKit

theorem cell_one {xs : List Sector} (h : xs.Pairwise CS) : ∀ x ∈ xs, ∀ y ∈ xs, x.cell = y.cell → x = y := by
  intro x hx y hy he
  obtain ⟨i, hi, rfl⟩ := List.getElem_of_mem hx
  obtain ⟨j, hj, rfl⟩ := List.getElem_of_mem hy
  have hp := List.pairwise_iff_getElem.1 h
  rcases Nat.lt_trichotomy i j with h1 | h1 | h1
  · have := hp i j hi hj h1
    unfold CS at this
    omega
  · subst h1; rfl
  · have := hp j i hj hi h1
    unfold CS at this
    omega
/-- No sector that is left out has a greater chance than one that is taken. -/
theorem best_top {xs : List Sector} {s : Int} {cs : List Int} (h : bestM xs s = some cs) {x y : Sector} (hx : x ∈ xs) (hy : y ∈ xs) (h1 : x.cell ∈ cs) (h2 : y.cell ∉ cs) : y.chance ≤ x.chance := by
  unfold bestM at h
  split at h
  · rename_i hb
    simp only [Bool.and_eq_true] at hb
    obtain ⟨hp, -, -⟩ := sec_pair hb.1
    have hs : (sortR ltS xs).Pairwise RS := by
      rw [← ltS_eq]
      exact sortR_sorted RS_trans RS_of xs.length xs rfl hp
    injection h with h
    subst h
    rw [← List.take_append_drop s.toNat (sortR ltS xs), List.pairwise_append] at hs
    obtain ⟨x', hx', he⟩ := List.mem_map.1 h1
    have hxx : x' = x := cell_one hp x' ((sortR_mem ltS).1 (List.mem_of_mem_take hx')) x hx he
    subst hxx
    have hyd : y ∈ (sortR ltS xs).drop s.toNat := by
      have h3 : y ∈ sortR ltS xs := (sortR_mem ltS).2 hy
      rw [← List.take_append_drop s.toNat (sortR ltS xs)] at h3
      rcases List.mem_append.1 h3 with h3 | h3
      · exact absurd (List.mem_map.2 ⟨y, h3, rfl⟩) h2
      · exact h3
    have := hs.2.2 x' hx' y hyd
    unfold RS at this
    omega
  · cases h
/-- The sum of chances. -/
def sumC (xs : List Sector) : Int := (xs.map Sector.chance).sum
theorem sumC_cons (x : Sector) (xs : List Sector) : sumC (x :: xs) = x.chance + sumC xs := rfl
theorem sumC_snoc (xs : List Sector) (x : Sector) : sumC (xs ++ [x]) = sumC xs + x.chance := by
  induction xs with
  | nil => simp [sumC]
  | cons a xs ih => rw [List.cons_append, sumC_cons, sumC_cons, ih]; omega
theorem afterL_cons (cell percent : Int) (x : Sector) (xs : List Sector) : afterL cell percent (x :: xs) = if 0 < (afterStep cell percent x).chance then afterStep cell percent x :: afterL cell percent xs else afterL cell percent xs := by
  unfold afterL
  rw [List.map_cons, List.filter_cons]
  simp
theorem step_less {cell percent : Int} {x : Sector} (hp : 0 ≤ percent ∧ percent ≤ 100) (hx : 1 ≤ x.chance ∧ x.chance ≤ 100) : (afterStep cell percent x).chance ≤ x.chance ∧ 0 ≤ (afterStep cell percent x).chance := by
  unfold afterStep
  split
  · have h1 : x.chance * (100 - percent) ≤ x.chance * 100 := Int.mul_le_mul_of_nonneg_left (by omega) (by omega)
    have h2 : 0 ≤ x.chance * (100 - percent) := Int.mul_nonneg (by omega) (by omega)
    simp only
    omega
  · exact ⟨Int.le_refl _, by omega⟩
theorem after_less {cell percent : Int} (hp : 0 ≤ percent ∧ percent ≤ 100) : ∀ {xs : List Sector}, (∀ x ∈ xs, 1 ≤ x.chance ∧ x.chance ≤ 100) → sumC (afterL cell percent xs) ≤ sumC xs
  | [], _ => by simp [afterL, sumC]
  | x :: xs, h => by
    have h1 := step_less (cell := cell) hp (h x (by simp))
    have h2 := after_less hp (xs := xs) (cell := cell) fun y hy => h y (by simp [hy])
    have h3 := h x (by simp)
    rw [afterL_cons, sumC_cons]
    split
    · rw [sumC_cons]; omega
    · omega
theorem after_zero {cell : Int} : ∀ {xs : List Sector}, (∀ x ∈ xs, 1 ≤ x.chance ∧ x.chance ≤ 100) → afterL cell 0 xs = xs
  | [], _ => rfl
  | x :: xs, h => by
    have h3 := h x (by simp)
    have hs : afterStep cell 0 x = x := by
      unfold afterStep
      split
      · have : (x.chance * (100 - 0) + 99) / 100 = x.chance := by omega
        rw [this]
      · rfl
    rw [afterL_cons, hs, if_pos (by omega), after_zero fun y hy => h y (by simp [hy])]
theorem after_hundred {cell : Int} : ∀ {xs : List Sector}, (∀ x ∈ xs, 1 ≤ x.chance ∧ x.chance ≤ 100) → afterL cell 100 xs = xs.filter fun x => decide (x.cell ≠ cell)
  | [], _ => rfl
  | x :: xs, h => by
    have h3 := h x (by simp)
    rw [afterL_cons, List.filter_cons, after_hundred fun y hy => h y (by simp [hy])]
    unfold afterStep
    by_cases hc : x.cell = cell
    · simp [hc]
    · simp [hc]; omega
theorem filter_one {cell : Int} : ∀ {xs : List Sector}, xs.Pairwise CS → hasCell cell xs = true → (xs.filter fun x => decide (x.cell ≠ cell)).length + 1 = xs.length
  | [], _, h => by simp [hasCell] at h
  | x :: xs, hp, h => by
    obtain ⟨h1, h2⟩ := List.pairwise_cons.1 hp
    by_cases hc : x.cell = cell
    · have hall : xs.filter (fun x => decide (x.cell ≠ cell)) = xs := List.filter_eq_self.2 fun y hy => by
        have := h1 y hy
        unfold CS at this
        exact decide_eq_true (by omega)
      rw [List.filter_cons, if_neg (by simp [hc]), hall]
      rfl
    · have hx : hasCell cell xs = true := by simpa [hasCell, hc] using h
      have := filter_one h2 hx
      rw [List.filter_cons, if_pos (by simp [hc])]
      simp only [List.length_cons]
      omega
end Go.Proofs.Ytjcmlloglnkbfaa
