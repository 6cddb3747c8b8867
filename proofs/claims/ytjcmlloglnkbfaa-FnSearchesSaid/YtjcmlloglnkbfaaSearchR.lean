/- The least chance that is taken. -/
import Derived.Test.YtjcmlloglnkbfaaSearchQ
namespace Go.Proofs.Ytjcmlloglnkbfaa
open Go.RowKit

/-- L is the least chance of the first k sectors that are taken, or 101. -/
def LeastAt (cs : List Int) (xs : List Sector) (k : Nat) (L : Int) : Prop :=
  L = 101 ∨ ∃ x ∈ xs.take k, hasI cs x.cell = true ∧ x.chance = L
theorem least_zero (cs : List Int) (xs : List Sector) : LeastAt cs xs 0 101 := .inl rfl
theorem least_next {cs : List Int} {xs : List Sector} {k : Nat} {L : Int} (hk : k < xs.length) (h : LeastAt cs xs k L) : LeastAt cs xs (k + 1) L := by
  rcases h with h | ⟨x, h1, h2⟩
  · exact .inl h
  · exact .inr ⟨x, by rw [List.take_succ_eq_append_getElem hk]; exact List.mem_append_left _ h1, h2⟩
theorem least_take {cs : List Int} {xs : List Sector} {k : Nat} (hk : k < xs.length) (h : hasI cs xs[k].cell = true) : LeastAt cs xs (k + 1) xs[k].chance :=
  .inr ⟨xs[k], by rw [List.take_succ_eq_append_getElem hk]; exact List.mem_append_right _ (by simp), h, rfl⟩
theorem hasI_mem' {l : List Int} {c : Int} : hasI l c = true ↔ c ∈ l := by
  unfold hasI
  simp
/-- A sector that is not taken has no chance above the least. -/
theorem least_end {cs : List Int} {xs : List Sector} {s : Int} {k i : Nat} {L : Int} (h : bestM xs s = some cs) (hL : LeastAt cs xs k L) (hi : i < xs.length) (hn : hasI cs xs[i].cell = false) : ¬ L < xs[i].chance := by
  have hb : sectorsB xs = true := by
    unfold bestM at h
    split at h
    · rename_i hb
      simp only [Bool.and_eq_true] at hb
      exact hb.1
    · cases h
  have h1 := sectors_chance hb xs[i] (List.getElem_mem hi)
  rcases hL with rfl | ⟨x, hx, h2, rfl⟩
  · omega
  · have := best_top h (List.mem_of_mem_take hx) (List.getElem_mem hi) (hasI_mem'.1 h2) (fun hm => by rw [hasI_mem'.2 hm] at hn; cases hn)
    omega
theorem sumC_next {xs : List Sector} {k : Nat} (hk : k < xs.length) : sumC (xs.take (k + 1)) = sumC (xs.take k) + xs[k].chance := by
  rw [List.take_succ_eq_append_getElem hk, sumC_snoc]
theorem sumC_small : ∀ {xs : List Sector}, (∀ x ∈ xs, 0 ≤ x.chance ∧ x.chance ≤ 101) → 0 ≤ sumC xs ∧ sumC xs ≤ 101 * xs.length
  | [], _ => by simp [sumC]
  | x :: xs, h => by
    have h1 := sumC_small (xs := xs) fun y hy => h y (by simp [hy])
    have h2 := h x (by simp)
    rw [sumC_cons, List.length_cons]
    omega
end Go.Proofs.Ytjcmlloglnkbfaa
