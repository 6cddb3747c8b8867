/- Numbers sorted and each kept once: the plain law; slices.Sort and slices.Compact at a row of the call's own. -/
import Derived.Test.YtkeffhnkhmalpaaPut
import Derived.Test.YtkeffhnkhmalpaaInts
import Derived.Test.YtkeffhnkhmalpaaShelfC
import Derived.Lib.OwnBridge
import Derived.Sort.Grow
namespace Go.Proofs.Ytkeffhnkhmalpaa
open Go.RowKit Go.Lib Go.Sort

def sortI (zs : List Int) : List Int := zs.mergeSort fun x y => decide (x ≤ y)
theorem sortI_len (zs : List Int) : (sortI zs).length = zs.length := List.length_mergeSort _
theorem sortI_mem {zs : List Int} {x : Int} : x ∈ sortI zs ↔ x ∈ zs := (List.mergeSort_perm zs _).mem_iff
theorem sortI_up (zs : List Int) : (sortI zs).Pairwise (· ≤ ·) := by
  have h := List.pairwise_mergeSort (le := fun x y : Int => decide (x ≤ y)) (fun a b c h1 h2 => by simp only [decide_eq_true_eq] at *; omega) (fun a b => by simp only [Bool.or_eq_true, decide_eq_true_eq]; omega) zs
  exact h.imp fun h => by simpa using h
theorem compactUpTo_facts {zs : List Int} (hs : zs.Pairwise (· ≤ ·)) : ∀ m, m ≤ zs.length → (compactUpTo zs.toArray m).Pairwise (· < ·) ∧ ∀ x, x ∈ compactUpTo zs.toArray m ↔ x ∈ zs.take m
  | 0, _ => ⟨by simp [compactUpTo], by simp [compactUpTo]⟩
  | m + 1, hm => by
    obtain ⟨h1, h2⟩ := compactUpTo_facts hs m (by omega)
    have hp := List.pairwise_iff_getElem.1 hs
    have hmx : zs.toArray[m]! = zs[m] := by simp [getElem!_pos, show m < zs.length by omega]
    rw [compactUpTo_succ, List.take_succ_eq_append_getElem (by omega)]
    rcases Nat.eq_zero_or_pos m with rfl | hpos
    · simp [keeps_lt_one zs.toArray 0 (by omega), compactUpTo, hmx]
    · have hmy : zs.toArray[m - 1]! = zs[m - 1] := by simp [getElem!_pos, show m - 1 < zs.length by omega]
      have hle := hp (m - 1) m (by omega) (by omega) (by omega)
      by_cases he : zs[m] = zs[m - 1]
      · rw [keeps_neg hpos (by rw [hmx, hmy, he])]
        refine ⟨by simpa using h1, fun x => ?_⟩
        simp only [Bool.false_eq_true, if_false, List.append_nil, List.mem_append, List.mem_singleton]
        rw [h2 x]
        refine ⟨.inl, fun h => h.elim id fun h => ?_⟩
        subst h
        rw [he]
        exact List.mem_take_iff_getElem.2 ⟨m - 1, by omega, rfl⟩
      · rw [keeps_pos (by rw [hmx, hmy]; exact he)]
        refine ⟨?_, fun x => ?_⟩
        · rw [if_pos rfl]
          refine List.pairwise_append.2 ⟨h1, List.pairwise_singleton _ _, fun a ha b hb => ?_⟩
          rw [List.mem_singleton.1 hb, hmx]
          obtain ⟨j, hj, rfl⟩ := List.mem_take_iff_getElem.1 ((h2 a).1 ha)
          rcases Nat.lt_or_ge j (m - 1) with h3 | h3
          · have := hp j (m - 1) (by omega) (by omega) h3
            omega
          · obtain rfl : j = m - 1 := by omega
            omega
        · rw [if_pos rfl]
          simp only [List.mem_append, List.mem_singleton, h2 x, hmx]
def onceI (l : List Int) (n : Int) : List Int := if hasI l n then l else putI l n
def onceL (zs : List Int) : List Int := zs.foldl onceI []
theorem hasI_iff {l : List Int} {n : Int} : hasI l n = true ↔ n ∈ l := by
  unfold hasI
  rw [List.any_eq_true]
  exact ⟨fun ⟨x, hx, h⟩ => (of_decide_eq_true h) ▸ hx, fun h => ⟨n, h, by simp⟩⟩
theorem onceI_facts {l : List Int} (n : Int) (h : l.Pairwise (· < ·)) : (onceI l n).Pairwise (· < ·) ∧ ∀ x, x ∈ onceI l n ↔ x ∈ l ∨ x = n := by
  unfold onceI
  by_cases hh : hasI l n = true
  · rw [if_pos hh]
    exact ⟨h, fun x => ⟨.inl, fun h => h.elim id fun h => h ▸ hasI_iff.1 hh⟩⟩
  · rw [if_neg hh]
    exact ⟨putI_sorted h, fun x => putI_mem⟩
theorem onceL_facts (zs : List Int) : ∀ l : List Int, l.Pairwise (· < ·) → (zs.foldl onceI l).Pairwise (· < ·) ∧ ∀ x, x ∈ zs.foldl onceI l ↔ x ∈ l ∨ x ∈ zs := by
  induction zs with
  | nil => exact fun l h => ⟨h, by simp⟩
  | cons z zs ih =>
    intro l h
    obtain ⟨h1, h2⟩ := onceI_facts z h
    obtain ⟨h3, h4⟩ := ih _ h1
    refine ⟨h3, fun x => ?_⟩
    rw [List.foldl_cons, h4, h2, List.mem_cons, or_assoc]
theorem compact_sort (zs : List Int) : compact (sortI zs) = onceL zs := by
  obtain ⟨h1, h2⟩ := compactUpTo_facts (sortI_up zs) _ (Nat.le_refl _)
  obtain ⟨h3, h4⟩ := onceL_facts zs [] List.Pairwise.nil
  refine rising_ext h1 h3 fun x => ?_
  rw [show zs.foldl onceI [] = onceL zs from rfl] at h4
  rw [show compact (sortI zs) = compactUpTo (sortI zs).toArray (sortI zs).length from rfl, h2, h4, List.take_length, sortI_mem]
  simp
theorem onceI_len (l : List Int) (n : Int) : (onceI l n).length ≤ l.length + 1 := by
  unfold onceI
  split
  · omega
  · exact putI_len
theorem onceL_next (zs : List Int) {k : Nat} (hk : k < zs.length) : onceL (zs.take (k + 1)) = onceI (onceL (zs.take k)) zs[k] := by
  unfold onceL
  rw [List.take_succ_eq_append_getElem hk, List.foldl_append]
  rfl
theorem onceL_len (zs : List Int) : (onceL zs).length ≤ zs.length := by
  have : ∀ (k : Nat), k ≤ zs.length → (onceL (zs.take k)).length ≤ k := by
    intro k
    induction k with
    | zero => intro _; simp [onceL]
    | succ k ih =>
      intro hk
      rw [onceL_next zs (by omega)]
      have := ih (by omega)
      have := onceI_len (onceL (zs.take k)) (zs[k]'(by omega))
      omega
  have h := this zs.length (Nat.le_refl _)
  rwa [List.take_length] at h
theorem bel_grow (x : World) (os : Array Obj) : Below x.heap.size x (grow x os) := ⟨rfl, rfl, rfl, by simp, fun k hk => heap_grow_old x os hk⟩
theorem only_putRow (w : World) (q g : Nat) (d : Array Int) : Only (OwnB (some ⟨g, 0, none⟩)) w (putRow (Value.int .i64) (Sort.ahead w q) g 0 d) :=
  ⟨rfl, rfl, rfl, by simp [putRow, mapBlock, Sort.ahead], fun k hk hS => by
    have hne : g ≠ k := fun e => hS (by subst e; rfl)
    simp [putRow, mapBlock, Sort.ahead, Array.getElem?_modify, hne]⟩
theorem Sort_own (base t n c : Nat) (A : Option Addr) (zs : List Int) (w : World) (h : w.ownsRow base t 1 (.slice A n c) n (ints zs)) (hn : n ≤ 1000000) :
    Calls Try.prog 60 #[.slice A n c] w fun e w' => e = .returned (.tuple #[]) ∧ w'.ownsRow base t 1 (.slice A n c) n (ints (sortI zs)) ∧ Only (OwnB A) w w' := by
  have hl := own_len h
  rcases own_open h with ⟨rfl, rfl, rfl, hxs⟩ | ⟨g, cur, rfl, hg, hB, hcl, hnc, hcm, htk⟩
  · have hz : zs = [] := List.eq_nil_of_length_eq_zero hl
    subst hz
    exact (sh_slices_Sort_int_none none 0 w).mono fun e w' ⟨he, hw⟩ => ⟨he, by rw [hw, show sortI [] = [] by simp [sortI]]; exact h, by rw [hw]; exact Only.refl _ _⟩
  · obtain ⟨g', cap, hv, _, hlt, _, _, _, hH⟩ := holds_of_ownsRow (zs := zs) (enc := Value.int .i64) h (by simp)
    simp only [Value.slice.injEq, Option.some.injEq, Addr.mk.injEq, and_true, true_and] at hv
    obtain ⟨rfl, rfl⟩ := hv
    subst hl
    refine (sh_slices_Sort_int g 0 c zs w hH hlt (by omega)).mono fun e w' ⟨he, q, os, hw⟩ => ⟨he, ?_, ?_⟩
    · rw [hw]
      have h2 := ownsRow_putRow (ys := sortI zs) (q := q) h (sortI_len zs) (Nat.le_refl _)
      rw [List.take_of_length_le (by rw [sortI_len]; exact Nat.le_refl _)] at h2
      exact own_below h2 (bel_grow _ os)
    · rw [hw]
      exact (only_putRow w q g _).then_ (bel_grow _ os)
theorem Compact_own (base t n c : Nat) (A : Option Addr) (zs : List Int) (w : World) (h : w.ownsRow base t 1 (.slice A n c) n (ints zs)) (hn : n ≤ 1000000) :
    Calls Try.prog 61 #[.slice A n c] w fun e w' => e = .returned (.slice A (compact zs).length c) ∧ w'.ownsRow base t 1 (.slice A (compact zs).length c) (compact zs).length (ints (compact zs)) ∧ Only (OwnB A) w w' := by
  have hl := own_len h
  rcases own_open h with ⟨rfl, rfl, rfl, hxs⟩ | ⟨g, cur, rfl, hg, hB, hcl, hnc, hcm, htk⟩
  · have hz : zs = [] := List.eq_nil_of_length_eq_zero hl
    subst hz
    exact (sh_slices_Compact_int_empty none 0 w).mono fun e w' ⟨he, hw⟩ => ⟨he, by rw [hw]; exact h, by rw [hw]; exact Only.refl _ _⟩
  · obtain ⟨g', cap, hv, _, hlt, _, _, _, hH⟩ := holds_of_ownsRow (zs := zs) (enc := Value.int .i64) h (by simp)
    simp only [Value.slice.injEq, Option.some.injEq, Addr.mk.injEq, and_true, true_and] at hv
    obtain ⟨rfl, rfl⟩ := hv
    subst hl
    have hle := compact_length_le zs
    refine (sh_slices_Compact_int g 0 c zs w hH (by omega) hnc).mono fun e w' ⟨he, q, hw⟩ => ⟨he, ?_, ?_⟩
    · rw [hw]
      have h2 := ownsRow_putRow (ys := compact zs ++ List.replicate (zs.length - (compact zs).length) 0) (q := q) h (by simp; omega) hle
      rw [List.take_left] at h2
      exact h2
    · rw [hw]
      exact only_putRow w q g _
end Go.Proofs.Ytkeffhnkhmalpaa
