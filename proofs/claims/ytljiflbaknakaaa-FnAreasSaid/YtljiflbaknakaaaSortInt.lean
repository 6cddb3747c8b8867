/- Numbers sorted: slices.Sort at a row of the call's own. -/
import Derived.Test.YtljiflbaknakaaaInts
import Derived.Test.YtljiflbaknakaaaShelfB
import Derived.Lib.OwnBridge
import Derived.Sort.Grow
namespace Go.Proofs.Ytljiflbaknakaaa
open Go.RowKit Go.Lib Go.Sort

def sortI (zs : List Int) : List Int := zs.mergeSort fun x y => decide (x ≤ y)
theorem sortI_len (zs : List Int) : (sortI zs).length = zs.length := List.length_mergeSort _
theorem sortI_mem {zs : List Int} {x : Int} : x ∈ sortI zs ↔ x ∈ zs := (List.mergeSort_perm zs _).mem_iff
theorem sortI_up (zs : List Int) : (sortI zs).Pairwise (· ≤ ·) := by
  have h := List.pairwise_mergeSort (le := fun x y : Int => decide (x ≤ y)) (fun a b c h1 h2 => by simp only [decide_eq_true_eq] at *; omega) (fun a b => by simp only [Bool.or_eq_true, decide_eq_true_eq]; omega) zs
  exact h.imp fun h => by simpa using h
theorem sortI_rising {zs : List Int} (h : zs.Nodup) : (sortI zs).Pairwise (· < ·) := by
  have h1 : (sortI zs).Nodup := (List.mergeSort_perm zs _).symm.nodup h
  exact (List.pairwise_and_iff.2 ⟨sortI_up zs, h1⟩).imp fun h => by omega
theorem bel_grow (x : World) (os : Array Obj) : Below x.heap.size x (grow x os) := ⟨rfl, rfl, rfl, by simp, fun k hk => heap_grow_old x os hk⟩
theorem only_putRow (w : World) (q g : Nat) (d : Array Int) : Only (OwnB (some ⟨g, 0, none⟩)) w (putRow (Value.int .i64) (Sort.ahead w q) g 0 d) :=
  ⟨rfl, rfl, rfl, by simp [putRow, mapBlock, Sort.ahead], fun k hk hS => by
    have hne : g ≠ k := fun e => hS (by subst e; rfl)
    simp [putRow, mapBlock, Sort.ahead, Array.getElem?_modify, hne]⟩
theorem Sort_own (base t n c : Nat) (A : Option Addr) (zs : List Int) (w : World) (h : w.ownsRow base t 1 (.slice A n c) n (ints zs)) (hn : n ≤ 1000000) :
    Calls Try.prog 114 #[.slice A n c] w fun e w' => e = .returned (.tuple #[]) ∧ w'.ownsRow base t 1 (.slice A n c) n (ints (sortI zs)) ∧ Only (OwnB A) w w' := by
  have hl := own_len h
  rcases own_open h with ⟨rfl, rfl, rfl, hxs⟩ | ⟨g, cur, rfl, hg, hB, hcl, hnc, hcm, htk⟩
  · have hz : zs = [] := List.eq_nil_of_length_eq_zero hl
    subst hz
    exact (sh_slices_Sort_int_none none 0 w).mono fun e w' ⟨he, hw⟩ => ⟨he, by rw [hw, show sortI [] = [] by simp [sortI]]; exact h, by rw [hw]; exact Only.refl _ _⟩
  · obtain ⟨g', cap, hv, _, hlt, _, _, _, hH⟩ := holds_of_ownsRow (zs := zs) (enc := Value.int .i64) h (by simp)
    simp only [Value.slice.injEq, Option.some.injEq, Addr.mk.injEq, and_true, true_and] at hv
    obtain ⟨rfl, rfl⟩ := hv
    subst hl
    refine (sh_slices_Sort_int g 0 c zs w hH hlt (by omega)).mono fun e w' ⟨he, q, os, hw⟩ => ⟨he, ?_, ?_⟩
    · rw [hw]
      have h2 := ownsRow_putRow (ys := sortI zs) (q := q) h (sortI_len zs) (Nat.le_refl _)
      rw [List.take_of_length_le (by rw [sortI_len]; exact Nat.le_refl _)] at h2
      exact own_below h2 (bel_grow _ os)
    · rw [hw]
      exact (only_putRow w q g _).then_ (bel_grow _ os)
end Go.Proofs.Ytljiflbaknakaaa
