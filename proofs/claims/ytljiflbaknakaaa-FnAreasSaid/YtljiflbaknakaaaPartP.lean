/- Connected parts of a grid, and how a search finds them: plain facts. No program is named here. -/
import Derived.Test.YtljiflbaknakaaaBfs
namespace Go.Proofs.Ytljiflbaknakaaa
open Classical

/-- c is reached from a -/
inductive Reach (nx : Int → List Int) (a : Int) : Int → Prop
  | here : Reach nx a a
  | step {b c : Int} : Reach nx a b → c ∈ nx b → Reach nx a c
theorem Reach.trans {nx : Int → List Int} {a b c : Int} (h : Reach nx a b) (k : Reach nx b c) : Reach nx a c := by
  induction k with
  | here => exact h
  | step _ h2 ih => exact ih.step h2
/-- the cells beside an open one: open ones, in the grid, and each beside the other -/
structure Near (N : Nat) (O : Int → Prop) (nx : Int → List Int) : Prop where
  rng : ∀ b, ∀ x ∈ nx b, 0 ≤ x ∧ x < N
  opn : ∀ b, ∀ x ∈ nx b, O x
  sym : ∀ b x, O b → (0 ≤ b ∧ b < N) → x ∈ nx b → b ∈ nx x
section
variable {N : Nat} {O : Int → Prop} {nx : Int → List Int} {a : Int}
theorem Reach.rng (hG : Near N O nx) (ha : 0 ≤ a ∧ a < N) {c : Int} (h : Reach nx a c) : 0 ≤ c ∧ c < N := by
  cases h with
  | here => exact ha
  | step _ h2 => exact hG.rng _ _ h2
theorem Reach.opn (hG : Near N O nx) (ha : O a) {c : Int} (h : Reach nx a c) : O c := by
  cases h with
  | here => exact ha
  | step _ h2 => exact hG.opn _ _ h2
end
/-- the cells that are reached from a, rising -/
noncomputable def partL (N : Nat) (nx : Int → List Int) (a : Int) : List Int := (cellsL N).filter fun c => decide (Reach nx a c)
theorem mem_partL {N : Nat} {nx : Int → List Int} {a c : Int} : c ∈ partL N nx a ↔ (0 ≤ c ∧ c < N) ∧ Reach nx a c := by
  unfold partL
  rw [List.mem_filter, mem_cellsL, decide_eq_true_eq]
theorem partL_rising (N : Nat) (nx : Int → List Int) (a : Int) : (partL N nx a).Pairwise (· < ·) := (cellsL_rising N).filter _
/-- the cells that the searches from the first k cells have reached -/
def SeenAt (O : Int → Prop) (nx : Int → List Int) (k : Nat) (c : Int) : Prop := ∃ a : Nat, a < k ∧ O (a : Int) ∧ Reach nx a c
def Taken (O : Int → Prop) (nx : Int → List Int) (k : Nat) : Prop := O (k : Int) ∧ ¬ SeenAt O nx k (k : Int)
theorem seen_step {O : Int → Prop} {nx : Int → List Int} {k : Nat} {x y : Int} (h : SeenAt O nx k x) (hy : y ∈ nx x) : SeenAt O nx k y := by
  obtain ⟨a, h1, h2, h3⟩ := h
  exact ⟨a, h1, h2, h3.step hy⟩
theorem seen_zero {O : Int → Prop} {nx : Int → List Int} {c : Int} : ¬ SeenAt O nx 0 c := fun ⟨_, h, _⟩ => absurd h (by omega)
theorem seen_taken {O : Int → Prop} {nx : Int → List Int} {k : Nat} {c : Int} (h : O (k : Int)) : SeenAt O nx (k + 1) c ↔ SeenAt O nx k c ∨ Reach nx k c := by
  constructor
  · rintro ⟨a, h1, h2, h3⟩
    rcases Nat.lt_or_ge a k with h4 | h4
    · exact .inl ⟨a, h4, h2, h3⟩
    · obtain rfl : a = k := by omega
      exact .inr h3
  · rintro (⟨a, h1, h2, h3⟩ | h3)
    · exact ⟨a, by omega, h2, h3⟩
    · exact ⟨k, by omega, h, h3⟩
theorem seen_skip {O : Int → Prop} {nx : Int → List Int} {k : Nat} {c : Int} (h : ¬ Taken O nx k) : SeenAt O nx (k + 1) c ↔ SeenAt O nx k c := by
  constructor
  · rintro ⟨a, h1, h2, h3⟩
    rcases Nat.lt_or_ge a k with h4 | h4
    · exact ⟨a, h4, h2, h3⟩
    · obtain rfl : a = k := by omega
      have h5 : SeenAt O nx a (a : Int) := Classical.byContradiction fun h6 => h ⟨h2, h6⟩
      obtain ⟨b, h6, h7, h8⟩ := h5
      exact ⟨b, h6, h7, h8.trans h3⟩
  · rintro ⟨a, h1, h2, h3⟩
    exact ⟨a, by omega, h2, h3⟩
/-- the parts that the first k cells begin -/
noncomputable def partsM (N : Nat) (O : Int → Prop) (nx : Int → List Int) : Nat → List (List Int)
  | 0 => []
  | k + 1 => if Taken O nx k then partsM N O nx k ++ [partL N nx k] else partsM N O nx k
def longer (b p : List Int) : List Int := if b.length < p.length then p else b
/-- the first one of the longest -/
def bestOf (l : List (List Int)) : List Int := l.foldl longer []
theorem bestOf_snoc (l : List (List Int)) (p : List Int) : bestOf (l ++ [p]) = longer (bestOf l) p := by
  unfold bestOf
  rw [List.foldl_append]; rfl
theorem bestOf_next {l : List (List Int)} {k : Nat} (hk : k < l.length) : bestOf (l.take (k + 1)) = longer (bestOf (l.take k)) l[k] := by
  rw [List.take_succ_eq_append_getElem hk, bestOf_snoc]
theorem partsM_taken {N : Nat} {O : Int → Prop} {nx : Int → List Int} {k : Nat} (h : Taken O nx k) : partsM N O nx (k + 1) = partsM N O nx k ++ [partL N nx k] := by rw [partsM, if_pos h]
theorem partsM_skip {N : Nat} {O : Int → Prop} {nx : Int → List Int} {k : Nat} (h : ¬ Taken O nx k) : partsM N O nx (k + 1) = partsM N O nx k := by rw [partsM, if_neg h]

theorem nodup_sub_len : ∀ {l m : List Int}, l.Nodup → (∀ x ∈ l, x ∈ m) → l.length ≤ m.length
  | [], _, _, _ => Nat.zero_le _
  | x :: l, m, hl, hs => by
    have h1 := List.nodup_cons.1 hl
    have hx := hs x (by simp)
    have ih := nodup_sub_len (l := l) (m := m.erase x) h1.2 fun y hy => (List.mem_erase_of_ne (by rintro rfl; exact h1.1 hy)).2 (hs y (by simp [hy]))
    have h2 := List.length_erase_of_mem hx
    have h3 : 0 < m.length := List.length_pos_of_mem hx
    simp only [List.length_cons]
    omega
theorem rising_nodup {l : List Int} (h : l.Pairwise (· < ·)) : l.Nodup := h.imp fun h e => by omega
theorem cellsL_len (N : Nat) : (cellsL N).length = N := by simp [cellsL]

/-- A search from a is under way: P has been found, its first i cells are gone over, and of the cells lst beside the next one the first j. S: what was there before. -/
structure Part (N : Nat) (O : Int → Prop) (nx : Int → List Int) (a : Int) (S : Int → Prop) (lst : List Int) (i j : Nat) (P : List Int) : Prop where
  nodup : P.Nodup
  sound : ∀ x ∈ P, (0 ≤ x ∧ x < N) ∧ Reach nx a x ∧ ¬ S x
  a0 : a ∈ P
  closed : ∀ x ∈ P.take i, ∀ y ∈ nx x, S y ∨ y ∈ P
  here : ∀ y ∈ lst.take j, O y → S y ∨ y ∈ P
section
variable {N : Nat} {O : Int → Prop} {nx : Int → List Int} {a : Int} {S : Int → Prop} {lst P : List Int} {i j : Nat}
theorem Part.start (ha : 0 ≤ a ∧ a < N) (hS : ¬ S a) : Part N O nx a S [] 0 0 [a] :=
  ⟨by simp, fun x hx => by rw [List.mem_singleton.1 hx]; exact ⟨ha, .here, hS⟩, by simp, by simp, by simp⟩
theorem Part.list (h : Part N O nx a S [] i 0 P) (lst : List Int) : Part N O nx a S lst i 0 P := ⟨h.nodup, h.sound, h.a0, h.closed, by simp⟩
theorem take_mem' {α : Type} {l : List α} {k : Nat} (hk : k < l.length) {x : α} : x ∈ l.take (k + 1) ↔ x ∈ l.take k ∨ x = l[k] := by
  rw [List.take_succ_eq_append_getElem hk, List.mem_append, List.mem_singleton]
theorem Part.old (h : Part N O nx a S lst i j P) (hj : j < lst.length) (ho : ¬ O lst[j] ∨ S lst[j] ∨ lst[j] ∈ P) : Part N O nx a S lst i (j + 1) P :=
  ⟨h.nodup, h.sound, h.a0, h.closed, fun y hy hO => by
    rcases (take_mem' hj).1 hy with h1 | rfl
    · exact h.here y h1 hO
    · rcases ho with h2 | h2
      · exact absurd hO h2
      · exact h2⟩
theorem Part.new (hG : Near N O nx) (h : Part N O nx a S lst i j P) (hj : j < lst.length) (hi : i < P.length) (hn : lst[j] ∈ nx P[i]) (hS : ¬ S lst[j]) (hP : lst[j] ∉ P) : Part N O nx a S lst i (j + 1) (P ++ [lst[j]]) :=
  ⟨List.nodup_append.2 ⟨h.nodup, by simp, fun x hx y hy => by rw [List.mem_singleton.1 hy]; exact fun e => hP (e ▸ hx)⟩, fun x hx => by
    rcases List.mem_append.1 hx with h1 | h1
    · exact h.sound x h1
    · rw [List.mem_singleton.1 h1]
      exact ⟨hG.rng _ _ hn, (h.sound _ (List.getElem_mem hi)).2.1.step hn, hS⟩, List.mem_append.2 (.inl h.a0), fun x hx y hy => by
    rw [List.take_append_of_le_length (by omega)] at hx
    rcases h.closed x hx y hy with h1 | h1
    · exact .inl h1
    · exact .inr (List.mem_append.2 (.inl h1)), fun y hy hO => by
    rcases (take_mem' hj).1 hy with h1 | rfl
    · rcases h.here y h1 hO with h2 | h2
      · exact .inl h2
      · exact .inr (List.mem_append.2 (.inl h2))
    · exact .inr (by simp)⟩
theorem Part.done (h : Part N O nx a S lst i j P) (hj : lst.length ≤ j) (hi : i < P.length) (hl : ∀ y ∈ nx P[i], y ∈ lst ∧ O y) : Part N O nx a S [] (i + 1) 0 P :=
  ⟨h.nodup, h.sound, h.a0, fun x hx y hy => by
    rcases (take_mem' hi).1 hx with h1 | rfl
    · exact h.closed x h1 y hy
    · obtain ⟨h2, h3⟩ := hl y hy
      exact h.here y (by rw [List.take_of_length_le hj]; exact h2) h3, by simp⟩
theorem Part.len (h : Part N O nx a S lst i j P) : P.length ≤ N := by
  have h1 := nodup_sub_len (m := cellsL N) h.nodup fun x hx => mem_cellsL.2 (h.sound x hx).1
  rwa [cellsL_len] at h1
theorem Part.all (hG : Near N O nx) (ha : O a) (hS : ∀ x, S x → ∀ y ∈ nx x, S y) (h : Part N O nx a S [] i 0 P) (hi : P.length ≤ i) (x : Int) : x ∈ P ↔ Reach nx a x := by
  refine ⟨fun hx => (h.sound x hx).2.1, fun hx => ?_⟩
  have hc := h.closed
  rw [List.take_of_length_le hi] at hc
  induction hx with
  | here => exact h.a0
  | @step b c h1 h2 ih =>
    rcases hc b ih c h2 with h3 | h3
    · obtain ⟨h4, h5, h6⟩ := h.sound b ih
      exact absurd (hS c h3 b (hG.sym b c (h5.opn hG ha) h4 h2)) h6
    · exact h3
theorem Part.part (hG : Near N O nx) (ha : O a) (hr : 0 ≤ a ∧ a < N) (hS : ∀ x, S x → ∀ y ∈ nx x, S y) (h : Part N O nx a S [] i 0 P) (hi : P.length ≤ i) (x : Int) : x ∈ P ↔ x ∈ partL N nx a := by
  rw [mem_partL, h.all hG ha hS hi]
  exact ⟨fun h => ⟨h.rng hG hr, h⟩, fun h => h.2⟩
end
theorem same_len {l m : List Int} (hl : l.Nodup) (hm : m.Nodup) (h : ∀ x, x ∈ l ↔ x ∈ m) : l.length = m.length :=
  Nat.le_antisymm (nodup_sub_len hl fun x hx => (h x).1 hx) (nodup_sub_len hm fun x hx => (h x).2 hx)
/-- numbers put to their places, one by one -/
def putsI (l : List Int) : List Int := l.foldl putI []
theorem putsI_next {l : List Int} {k : Nat} (hk : k < l.length) : putsI (l.take (k + 1)) = putI (putsI (l.take k)) l[k] := by
  unfold putsI
  rw [List.take_succ_eq_append_getElem hk, List.foldl_append]; rfl
theorem putsI_facts (zs : List Int) : ∀ l : List Int, l.Pairwise (· < ·) → (zs.foldl putI l).Pairwise (· < ·) ∧ ∀ x, x ∈ zs.foldl putI l ↔ x ∈ l ∨ x ∈ zs := by
  induction zs with
  | nil => exact fun l h => ⟨h, by simp⟩
  | cons z zs ih =>
    intro l h
    obtain ⟨h3, h4⟩ := ih _ (putI_sorted (n := z) h)
    refine ⟨h3, fun x => ?_⟩
    rw [List.foldl_cons, h4, putI_mem, List.mem_cons, or_assoc]
theorem putsI_mem {zs : List Int} {x : Int} : x ∈ putsI zs ↔ x ∈ zs := by
  have := (putsI_facts zs [] List.Pairwise.nil).2 x
  unfold putsI
  simpa using this
theorem putsI_rising (zs : List Int) : (putsI zs).Pairwise (· < ·) := (putsI_facts zs [] List.Pairwise.nil).1
theorem putsI_new {l : List Int} (hl : l.Nodup) {k : Nat} (hk : k < l.length) : l[k] ∉ putsI (l.take k) := fun h => by
  obtain ⟨j, hj, e⟩ := List.mem_take_iff_getElem.1 (putsI_mem.1 h)
  have := (List.pairwise_iff_getElem.1 hl) j k (by omega) hk (by omega)
  exact this e
theorem putsI_len (l : List Int) : (putsI l).length ≤ l.length := nodup_sub_len (rising_nodup (putsI_rising l)) fun _ hx => putsI_mem.1 hx
/-- The reference's best so far has the members of the program's. -/
structure Like (B M : List Int) : Prop where
  nodup : B.Nodup
  mem : ∀ x, x ∈ B ↔ x ∈ M
  rise : M.Pairwise (· < ·)
theorem Like.nil : Like [] [] := ⟨by simp, by simp, by simp⟩
theorem Like.len {B M : List Int} (h : Like B M) : B.length = M.length := same_len h.nodup (rising_nodup h.rise) h.mem
theorem Like.puts {B M : List Int} (h : Like B M) : putsI B = M := rising_ext (putsI_rising _) h.rise fun x => by rw [putsI_mem, h.mem]
theorem Like.longer {B M P Q : List Int} (h : Like B M) (hp : Like P Q) : Like (longer B P) (longer M Q) := by
  unfold Go.Proofs.Ytljiflbaknakaaa.longer
  rw [h.len, hp.len]
  split
  · exact hp
  · exact h
theorem Part.like {N : Nat} {O : Int → Prop} {nx : Int → List Int} {a : Int} {S : Int → Prop} {P : List Int} {i : Nat} (hG : Near N O nx) (ha : O a) (hr : 0 ≤ a ∧ a < N) (hS : ∀ x, S x → ∀ y ∈ nx x, S y) (h : Part N O nx a S [] i 0 P) (hi : P.length ≤ i) : Like P (partL N nx a) :=
  ⟨h.nodup, fun x => h.part hG ha hr hS hi x, partL_rising _ _ _⟩
theorem partL_len (N : Nat) (nx : Int → List Int) (a : Int) : (partL N nx a).length ≤ N := by
  unfold partL
  exact Nat.le_trans (List.length_filter_le _ _) (by rw [cellsL_len]; exact Nat.le_refl _)
theorem bestOf_len {N : Nat} : ∀ {l : List (List Int)}, (∀ p ∈ l, p.length ≤ N) → (bestOf l).length ≤ N := by
  intro l
  have : ∀ (l : List (List Int)) (b : List Int), b.length ≤ N → (∀ p ∈ l, p.length ≤ N) → (l.foldl longer b).length ≤ N := by
    intro l
    induction l with
    | nil => exact fun b h _ => h
    | cons p l ih =>
      intro b hb hp
      refine ih _ ?_ fun q hq => hp q (by simp [hq])
      unfold longer
      split
      · exact hp p (by simp)
      · exact hb
  exact this l [] (by simp)
theorem partsM_len {N : Nat} {O : Int → Prop} {nx : Int → List Int} : ∀ k, ∀ p ∈ partsM N O nx k, p.length ≤ N
  | 0, p, hp => by simp [partsM] at hp
  | k + 1, p, hp => by
    rw [partsM] at hp
    split at hp
    · rcases List.mem_append.1 hp with h | h
      · exact partsM_len k p h
      · rw [List.mem_singleton.1 h]; exact partL_len _ _ _
    · exact partsM_len k p hp
theorem partsM_count {N : Nat} {O : Int → Prop} {nx : Int → List Int} : ∀ k, (partsM N O nx k).length ≤ k
  | 0 => by simp [partsM]
  | k + 1 => by
    have := partsM_count (N := N) (O := O) (nx := nx) k
    rw [partsM]
    split <;> simp <;> omega

end Go.Proofs.Ytljiflbaknakaaa
