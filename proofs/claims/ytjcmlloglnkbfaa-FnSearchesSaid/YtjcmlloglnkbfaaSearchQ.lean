/- Plain laws of the chance to find. -/
import Derived.Test.YtjcmlloglnkbfaaSearchP
import Derived.Test.YtjcmlloglnkbfaaFound
namespace Go.Proofs.Ytjcmlloglnkbfaa
open Go.RowKit

theorem found_sums {cells : List Int} : ∀ {xs : List Sector}, (∀ x ∈ xs, 1 ≤ x.chance ∧ x.chance ≤ 100) → 0 ≤ foundNum cells xs ∧ foundNum cells xs ≤ foundDen xs ∧ (xs.length : Int) ≤ foundDen xs
  | [], _ => by simp [foundNum, foundDen, sumBy]
  | x :: xs, h => by
    have h1 := found_sums (cells := cells) (xs := xs) fun y hy => h y (by simp [hy])
    have h2 := h x (by simp)
    unfold foundNum foundDen at *
    simp only [sumBy, List.length_cons]
    have h3 : 0 ≤ foundPart cells x ∧ foundPart cells x ≤ x.chance := by unfold foundPart; split <;> omega
    omega
theorem found_whole {cells : List Int} : ∀ {xs : List Sector}, (∀ x ∈ xs, hasI cells x.cell = true) → foundNum cells xs = foundDen xs
  | [], _ => rfl
  | x :: xs, h => by
    have h1 := found_whole (cells := cells) (xs := xs) fun y hy => h y (by simp [hy])
    unfold foundNum foundDen at *
    simp only [sumBy, foundPart, h x (by simp), if_true, h1]
theorem lowest_self {a : Int} (h : 0 < a) : lowest a a = (1, 1) := by
  unfold lowest
  rw [Nat.gcd_self, Int.toNat_of_nonneg (by omega), Int.ediv_self (by omega)]
theorem lowest_le {a b : Int} (h0 : 0 ≤ a) (h1 : a ≤ b) : 0 ≤ (lowest a b).1 ∧ (lowest a b).1 ≤ (lowest a b).2 := by
  unfold lowest
  exact ⟨Int.ediv_nonneg h0 (by omega), by
    rcases Nat.eq_zero_or_pos (Nat.gcd a.toNat b.toNat) with h | h
    · simp [h]
    · exact Int.ediv_le_ediv (by omega) h1⟩
theorem sectors_chance {xs : List Sector} (h : sectorsB xs = true) : ∀ x ∈ xs, 1 ≤ x.chance ∧ x.chance ≤ 100 := fun x hx => by
  obtain ⟨i, hi, rfl⟩ := List.getElem_of_mem hx
  exact ((sectorsB_at h).2.2 i hi).2
theorem found_between {cells : List Int} {xs : List Sector} {p : Int × Int} (h : foundChance cells xs = some p) : 0 ≤ p.1 ∧ p.1 ≤ p.2 := by
  unfold foundChance at h
  split at h
  · rename_i hb
    simp only [Bool.and_eq_true] at hb
    injection h with h
    subst h
    have := found_sums (cells := cells) (sectors_chance hb.1)
    exact lowest_le this.1 this.2.1
  · cases h
theorem hasI_map {xs : List Sector} : ∀ x ∈ xs, hasI (xs.map Sector.cell) x.cell = true := fun x hx => by
  unfold hasI
  simp only [List.any_eq_true, List.mem_map, decide_eq_true_eq]
  exact ⟨x.cell, ⟨x, hx, rfl⟩, rfl⟩
theorem found_all {xs : List Sector} (h : sectorsB xs = true) : foundChance (xs.map Sector.cell) xs = some (1, 1) := by
  have hr : risingB 0 35 (xs.map Sector.cell) = true := by
    obtain ⟨hp, h1, -⟩ := sec_pair h
    have hat := (sectorsB_at h).2.2
    unfold risingB
    refine List.all_eq_true.2 fun k hk => ?_
    replace hk := List.mem_range.1 hk
    rw [List.length_map] at hk
    have hin : inB xs[k].cell 0 35 = true := by simp [inB, (hat k hk).1]
    cases k with
    | zero => exact risingAt_zero (by simpa using hk) (by simpa using hin)
    | succ k =>
      rw [risingAt_succ (by simpa using hk) (by simpa using hin)]
      have := List.pairwise_iff_getElem.1 hp k (k + 1) (by omega) hk (by omega)
      unfold CS at this
      simp only [List.getElem_map]
      exact decide_eq_true this
  have hs := found_sums (cells := xs.map Sector.cell) (sectors_chance h)
  have hl := (sec_pair h).2.1
  unfold foundChance
  rw [h, hr, found_whole hasI_map, lowest_self (by omega)]
  rfl
end Go.Proofs.Ytjcmlloglnkbfaa
