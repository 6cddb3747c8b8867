/- How the reference's field grows: plain facts. -/
import Derived.Test.YtjcmlloglnkbfaaNextTo
import Derived.Test.YtjcmlloglnkbfaaFieldF
namespace Go.Proofs.Ytjcmlloglnkbfaa
open Go.RowKit

theorem next_beside {m : MapV} (hM : isMapB m = true) {c x : Int} (hc : 0 ≤ c ∧ c < m.cost.length) : x ∈ nextL m c ↔ x ∈ besideL m.width m.height c ∧ m.cost.getD x.toNat 0 ≠ 0 := by
  obtain ⟨k1, k2, k3, k4⟩ := isMapB_size hM
  have h7 := hM
  unfold isMapB at h7
  simp only [Bool.and_eq_true, decide_eq_true_eq] at h7
  have hw := inB_true h7.1.1.1.1
  have hall := h7.2.2
  have hcw : 0 ≤ c ∧ c < m.width * m.height := by omega
  rw [mem_nextL]
  constructor
  · rintro ⟨h1, h2, h3⟩
    exact ⟨(beside_gap _ _ _ _ hw hcw (by omega)).1 h3, by omega⟩
  · rintro ⟨h1, h2⟩
    have h3 := beside_in _ _ _ _ hw hcw h1
    have h4 : x.toNat < m.cost.length := by omega
    have h5 : m.cost.getD x.toNat 0 = m.cost[x.toNat] := by rw [List.getD_eq_getElem?_getD, List.getElem?_eq_getElem h4]; rfl
    have h6 := inB_true (List.all_eq_true.1 hall _ (List.getElem_mem h4))
    rw [h5] at h2 ⊢
    exact ⟨by omega, by omega, (beside_gap _ _ _ _ hw hcw h3).2 h1⟩
/-- Of the field out the first i cells have been gone over, and of the cells lst beside the next one the first k. -/
structure Grow (m : MapV) (out lst : List Int) (i k : Nat) (L : List Int) : Prop where
  rise : L.Pairwise (· < ·)
  mem : ∀ x, x ∈ L ↔ (x ∈ out ∨ ∃ b ∈ out.take i, x ∈ nextL m b) ∨ (x ∈ lst.take k ∧ m.cost.getD x.toNat 0 ≠ 0)
section
variable {m : MapV} {out lst L : List Int} {i k : Nat}
theorem Grow.start (h : out.Pairwise (· < ·)) : Grow m out [] 0 0 out := ⟨h, fun x => by simp⟩
theorem Grow.list (h : Grow m out [] i 0 L) (lst : List Int) : Grow m out lst i 0 L := ⟨h.rise, fun x => by rw [h.mem]; simp⟩
theorem take_mem {α : Type} {l : List α} {k : Nat} (hk : k < l.length) {x : α} : x ∈ l.take (k + 1) ↔ x ∈ l.take k ∨ x = l[k] := by
  rw [List.take_succ_eq_append_getElem hk, List.mem_append, List.mem_singleton]
theorem Grow.skip0 (h : Grow m out lst i k L) (hk : k < lst.length) (hc : m.cost.getD lst[k].toNat 0 = 0) : Grow m out lst i (k + 1) L :=
  ⟨h.rise, fun x => by
    rw [h.mem, take_mem hk]
    constructor
    · rintro (h1 | ⟨h1, h2⟩)
      · exact .inl h1
      · exact .inr ⟨.inl h1, h2⟩
    · rintro (h1 | ⟨h1 | rfl, h2⟩)
      · exact .inl h1
      · exact .inr ⟨h1, h2⟩
      · exact absurd hc h2⟩
theorem Grow.skip1 (h : Grow m out lst i k L) (hk : k < lst.length) (hin : lst[k] ∈ L) : Grow m out lst i (k + 1) L :=
  ⟨h.rise, fun x => by
    rw [take_mem hk]
    constructor
    · intro hx
      rcases (h.mem x).1 hx with h1 | ⟨h1, h2⟩
      · exact .inl h1
      · exact .inr ⟨.inl h1, h2⟩
    · rintro (h1 | ⟨h1 | rfl, h2⟩)
      · exact (h.mem x).2 (.inl h1)
      · exact (h.mem x).2 (.inr ⟨h1, h2⟩)
      · exact hin⟩
theorem Grow.put (h : Grow m out lst i k L) (hk : k < lst.length) (hc : m.cost.getD lst[k].toNat 0 ≠ 0) : Grow m out lst i (k + 1) (putI L lst[k]) :=
  ⟨putI_sorted h.rise, fun x => by
    rw [putI_mem, h.mem, take_mem hk]
    constructor
    · rintro ((h1 | ⟨h1, h2⟩) | rfl)
      · exact .inl h1
      · exact .inr ⟨.inl h1, h2⟩
      · exact .inr ⟨.inr rfl, hc⟩
    · rintro (h1 | ⟨h1 | rfl, h2⟩)
      · exact .inl (.inl h1)
      · exact .inl (.inr ⟨h1, h2⟩)
      · exact .inr rfl⟩
theorem Grow.done (h : Grow m out lst i k L) (hk : lst.length ≤ k) (hi : i < out.length) (hl : ∀ x, x ∈ nextL m out[i] ↔ x ∈ lst ∧ m.cost.getD x.toNat 0 ≠ 0) : Grow m out [] (i + 1) 0 L :=
  ⟨h.rise, fun x => by
    rw [h.mem, List.take_of_length_le hk, ← hl x]
    constructor
    · rintro ((h1 | ⟨b, h1, h2⟩) | h1)
      · exact .inl (.inl h1)
      · exact .inl (.inr ⟨b, (take_mem hi).2 (.inl h1), h2⟩)
      · exact .inl (.inr ⟨_, (take_mem hi).2 (.inr rfl), h1⟩)
    · rintro ((h1 | ⟨b, h1, h2⟩) | ⟨h1, _⟩)
      · exact .inl (.inl h1)
      · rcases (take_mem hi).1 h1 with h3 | rfl
        · exact .inl (.inr ⟨b, h3, h2⟩)
        · exact .inr h2
      · simp at h1⟩
end
theorem Grow.field {m : MapV} {a : Int} {t i : Nat} {L : List Int} (h : Grow m (fieldL m.cost.length (nextL m) a t) [] i 0 L) (hi : (fieldL m.cost.length (nextL m) a t).length ≤ i) : L = fieldL m.cost.length (nextL m) a (t + 1) :=
  rising_ext h.rise (fieldL_rising _ _ _ _) fun x => by
    rw [h.mem, fieldL_succ_mem nextL_in, List.take_of_length_le hi]
    simp

end Go.Proofs.Ytjcmlloglnkbfaa
