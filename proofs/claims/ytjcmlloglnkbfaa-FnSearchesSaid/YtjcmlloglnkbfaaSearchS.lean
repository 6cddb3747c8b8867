/- What a search in vain leaves, in one statement. -/
import Derived.Test.YtjcmlloglnkbfaaSearchR
import Derived.Test.YtjcmlloglnkbfaaCurB
namespace Go.Proofs.Ytjcmlloglnkbfaa
open Go.RowKit

theorem afterStep_le {cell percent : Int} {x : Sector} (hp : 0 ≤ percent ∧ percent ≤ 100) (hx : 1 ≤ x.chance ∧ x.chance ≤ 100) : 0 ≤ (afterStep cell percent x).chance ∧ (afterStep cell percent x).chance ≤ 101 := by
  have := step_less (cell := cell) hp hx
  omega
theorem after_facts {cell percent : Int} {xs F : List Sector} (h : afterSearch cell percent xs = some F) :
    sumC F ≤ sumC xs ∧ (percent = 0 → sumC F = sumC xs) ∧ (percent = 100 → F.length + 1 = xs.length) ∧ (∀ x ∈ F, SecOk x) := by
  unfold afterSearch at h
  split at h
  · rename_i hb
    simp only [Bool.and_eq_true] at hb
    obtain ⟨⟨⟨h1, h2⟩, h3⟩, -⟩ := hb
    injection h with h
    subst h
    have hp := inB_true h2
    have hc := sectors_chance h1
    refine ⟨after_less hp hc, ?_, ?_, ?_⟩
    · rintro rfl
      rw [after_zero hc]
    · rintro rfl
      rw [after_hundred hc]
      exact filter_one (sec_pair h1).1 h3
    · intro x hx
      unfold afterL at hx
      obtain ⟨hm, -⟩ := List.mem_filter.1 hx
      obtain ⟨y, hy, rfl⟩ := List.mem_map.1 hm
      exact afterStep_le hp (hc y hy)
  · cases h
theorem found_good {cells : List Int} {xs : List Sector} {p : Int × Int} (h : foundChance cells xs = some p) : sectorsB xs = true := by
  unfold foundChance at h
  split at h
  · rename_i hb
    simp only [Bool.and_eq_true] at hb
    exact hb.1
  · cases h
theorem sumC_at {xs : List Sector} (h : ∀ x ∈ xs, SecOk x) (hl : xs.length ≤ 36) (k : Nat) : 0 ≤ sumC (xs.take k) ∧ sumC (xs.take k) ≤ 3636 := by
  have h1 := sumC_small (xs := xs.take k) fun x hx => h x (List.mem_of_mem_take hx)
  have h2 : (xs.take k).length ≤ xs.length := List.length_take_le' ..
  omega
theorem sumC_zero (xs : List Sector) : sumC (xs.take 0) = 0 := rfl
theorem longM_len (time limit : Int) (xs : List Missing) : ((longMissing time limit xs).getD []).length ≤ xs.length := by
  unfold longMissing
  split
  · cases h : longGo time limit xs [] with
    | none => simp
    | some r => simpa using longGo_len time limit xs [] r h
  · simp
end Go.Proofs.Ytjcmlloglnkbfaa
