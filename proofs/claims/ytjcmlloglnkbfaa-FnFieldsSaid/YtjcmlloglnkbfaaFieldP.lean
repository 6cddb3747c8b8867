/- What the law of fields asks, of the plain words. -/
import Derived.Test.YtjcmlloglnkbfaaRLaw
namespace Go.Proofs.Ytjcmlloglnkbfaa
open Go.RowKit
variable {m : MapV} {x : Missing} {pace time t cell : Int} {F G : List Int}

theorem inB_mkP {n lo hi : Int} (h : lo ≤ n ∧ n ≤ hi) : inB n lo hi = true := by simp [inB, h]
theorem field_facts (h : fieldM m x pace time = some F) : missingB m x = true ∧ (60 ≤ pace ∧ pace ≤ 600) ∧ (x.seen ≤ time ∧ time ≤ 36000) ∧ F = fieldT m x.place ((time - x.seen) / pace).toNat := by
  unfold fieldM at h
  split at h
  · rename_i hc
    simp only [Bool.and_eq_true] at hc
    simp only [Option.some.injEq] at h
    exact ⟨hc.1.1, inB_true hc.1.2, inB_true hc.2, by rw [← h]; rfl⟩
  · cases h
theorem field_small (h : fieldM m x pace time = some F) : F.length ≤ 36 := by
  obtain ⟨hm, _, _, rfl⟩ := field_facts h
  obtain ⟨-, -, -, s4, -⟩ := missing_facts hm
  exact Nat.le_trans (fieldL_len _ _ _ _) s4
theorem field_grows (h : fieldM m x pace time = some F) (h' : fieldM m x pace (time + pace) = some G) : ∀ c ∈ F, hasI G c = true := by
  obtain ⟨_, hp, ht, rfl⟩ := field_facts h
  obtain ⟨_, _, _, rfl⟩ := field_facts h'
  intro c hc
  obtain ⟨h1, h2⟩ := mem_fieldL.1 hc
  refine hasI_mem.2 (mem_fieldL.2 ⟨h1, ballB_mono h2 ?_⟩)
  have : (time - x.seen) / pace ≤ (time + pace - x.seen) / pace := Int.ediv_le_ediv (by omega) (by omega)
  omega
theorem field_own (h : fieldM m x pace time = some F) : hasI F x.place = true := by
  obtain ⟨hm, _, _, rfl⟩ := field_facts h
  obtain ⟨-, -, -, -, s5, -⟩ := missing_facts hm
  exact hasI_mem.2 (mem_fieldL.2 ⟨s5, ballB_mono (s := 0) (by simp [ballB]) (Nat.zero_le _)⟩)
theorem chances_some (h : fieldM m x pace time = some F) : ∃ S, chancesM m x pace time = some S ∧ S.length = F.length := ⟨F.map (secOf m F), by unfold chancesM; rw [h]; rfl, by simp⟩
theorem chances_small {S : List Sector} (h : chancesM m x pace time = some S) : S.length ≤ 36 := by
  unfold chancesM at h
  cases hF : fieldM m x pace time with
  | none => rw [hF] at h; cases h
  | some F =>
    rw [hF] at h
    simp only [Option.map_some, Option.some.injEq] at h
    rw [← h, List.length_map]
    exact field_small hF
theorem first_found : ∀ (f k : Nat) (t : Int), firstGo m x pace cell f k = some t → ∃ j : Nat, k ≤ j ∧ t = x.seen + (j : Int) * pace ∧ inB t 0 36000 = true ∧ hasI (fieldT m x.place j) cell = true ∧ ∀ i : Nat, k ≤ i → i < j → (inB (x.seen + (i : Int) * pace) 0 36000 && hasI (fieldT m x.place i) cell) = false
  | 0, k, t, h => by simp [firstGo] at h
  | f + 1, k, t, h => by
    rw [firstGo] at h
    split at h
    · rename_i hc
      simp only [Bool.and_eq_true] at hc
      simp only [Option.some.injEq] at h
      subst h
      exact ⟨k, Nat.le_refl _, rfl, hc.1, hc.2, fun i h1 h2 => by omega⟩
    · rename_i hc
      obtain ⟨j, h1, h2, h3, h4, h5⟩ := first_found f (k + 1) t h
      refine ⟨j, by omega, h2, h3, h4, fun i hi hj => ?_⟩
      by_cases e : i = k
      · subst e; exact Bool.eq_false_iff.2 hc
      · exact h5 i (by omega) hj
theorem first_facts (h : firstM m x pace cell = some t) : (0 ≤ t ∧ t ≤ 36000) ∧ (∃ F, fieldM m x pace t = some F ∧ hasI F cell = true) ∧ ∀ G, fieldM m x pace (t - 1) = some G → hasI G cell = false := by
  unfold firstM at h
  split at h
  case isFalse => cases h
  rename_i hc
  simp only [Bool.and_eq_true] at hc
  obtain ⟨⟨hm, hp⟩, _⟩ := hc
  obtain ⟨-, -, -, -, -, s6, -⟩ := missing_facts hm
  have hp' := inB_true hp
  obtain ⟨j, _, rfl, h3, h4, h5⟩ := first_found 37 0 t h
  have ht := inB_true h3
  have hj : 0 ≤ (j : Int) * pace := Int.mul_nonneg (by omega) (by omega)
  refine ⟨ht, ⟨fieldT m x.place j, ?_, h4⟩, fun G hG => ?_⟩
  · unfold fieldM
    rw [hm, hp, inB_mkP ⟨by omega, ht.2⟩]
    have e : (x.seen + (j : Int) * pace - x.seen) / pace = (j : Int) := by
      rw [show x.seen + (j : Int) * pace - x.seen = (j : Int) * pace by omega]
      exact Int.mul_ediv_cancel _ (by omega)
    rw [e]
    rfl
  · obtain ⟨_, _, h6, rfl⟩ := field_facts hG
    cases j with
    | zero => simp at h6; omega
    | succ i =>
      have hs : ((i + 1 : Nat) : Int) * pace = (i : Int) * pace + pace := by rw [Int.natCast_succ, Int.add_mul, Int.one_mul]
      have hi : 0 ≤ (i : Int) * pace := Int.mul_nonneg (by omega) (by omega)
      have e : (x.seen + ((i + 1 : Nat) : Int) * pace - 1 - x.seen) / pace = (i : Int) := by
        rw [hs, show x.seen + ((i : Int) * pace + pace) - 1 - x.seen = (pace - 1) + (i : Int) * pace by omega, Int.add_mul_ediv_right _ _ (by omega), Int.ediv_eq_zero_of_lt (by omega) (by omega), Int.zero_add]
      rw [e]
      have h7 := h5 i (Nat.zero_le _) (by omega)
      rw [inB_mkP ⟨by omega, by rw [hs] at ht; omega⟩, Bool.true_and] at h7
      exact h7

end Go.Proofs.Ytjcmlloglnkbfaa
