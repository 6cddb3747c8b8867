/- Merging in place, and stable sorting by it: plain facts. No program is named here. -/
import Derived.Test.YtjcmlloglnkbfaaSortP
namespace Go.Proofs.Ytjcmlloglnkbfaa
section
variable {α : Type}
/-- Two pieces of n elements, from s and from t on, have changed places. -/
def Swapped (d e : List α) (s t n : Nat) : Prop := ∀ i, e[i]? = if s ≤ i ∧ i < s + n then d[i - s + t]? else if t ≤ i ∧ i < t + n then d[i - t + s]? else d[i]?
theorem Swapped.zero (d : List α) (s t : Nat) : Swapped d d s t 0 := fun i => by rw [if_neg (by omega), if_neg (by omega)]
theorem Swapped.next {d e : List α} {s t n k : Nat} {x y : α} (h : Swapped d e s t k) (hk : k < n) (h1 : s + n ≤ t) (hx : e[s + k]? = some x) (hy : e[t + k]? = some y) : Swapped d ((e.set (s + k) y).set (t + k) x) s t (k + 1) := fun i => by
  have hls := (List.getElem?_eq_some_iff.1 hx).1
  have hlt := (List.getElem?_eq_some_iff.1 hy).1
  have hx' : d[s + k]? = some x := by rw [← hx, h (s + k), if_neg (by omega), if_neg (by omega)]
  have hy' : d[t + k]? = some y := by rw [← hy, h (t + k), if_neg (by omega), if_neg (by omega)]
  by_cases h3 : i = t + k
  · subst h3
    rw [List.getElem?_set_self (by rw [List.length_set]; exact hlt), if_neg (by omega), if_pos (by omega), ← hx']
    congr 1
    omega
  · rw [List.getElem?_set_ne (by omega)]
    by_cases h4 : i = s + k
    · subst h4
      rw [List.getElem?_set_self hls, if_pos (by omega), ← hy']
      congr 1
      omega
    · rw [List.getElem?_set_ne (by omega), h i]
      by_cases h5 : s ≤ i ∧ i < s + k
      · rw [if_pos h5, if_pos (by omega)]
      · rw [if_neg h5]
        by_cases h6 : t ≤ i ∧ i < t + k
        · rw [if_pos h6, if_neg (by omega), if_pos (by omega)]
        · rw [if_neg h6, if_neg (by omega), if_neg (by omega)]
/-- The piece from a to m and the piece from m to b have changed places. -/
def rotF (d : List α) (a m b i : Nat) : Option α := if a ≤ i ∧ i < a + (b - m) then d[i + (m - a)]? else if a + (b - m) ≤ i ∧ i < b then d[i - (b - m)]? else d[i]?
def Rotated (d e : List α) (a m b : Nat) : Prop := ∀ i, e[i]? = rotF d a m b i
theorem rot_left {e e' : List α} {i j m : Nat} (h : Swapped e e' (m - i) m j) (h1 : j < i) (h2 : i ≤ m) (x : Nat) : rotF e (m - i) m (m + j) x = rotF e' (m - (i - j)) m (m + j) x := by
  unfold rotF
  simp only [h _]
  by_cases c1 : m - i ≤ x ∧ x < m - i + (m + j - m)
  · rw [if_pos c1, if_neg (by omega), if_neg (by omega), if_pos (by omega)]
    congr 1; omega
  · rw [if_neg c1]
    by_cases c2 : m - i + (m + j - m) ≤ x ∧ x < m + j
    · rw [if_pos c2]
      by_cases c3 : m - (i - j) ≤ x ∧ x < m - (i - j) + (m + j - m)
      · rw [if_pos c3, if_neg (by omega), if_pos (by omega)]
        congr 1; omega
      · rw [if_neg c3, if_pos (by omega), if_neg (by omega), if_neg (by omega)]
    · rw [if_neg c2, if_neg (by omega), if_neg (by omega), if_neg (by omega), if_neg (by omega)]
theorem rot_right {e e' : List α} {i j m : Nat} (h : Swapped e e' (m - i) (m + j - i) i) (h1 : i < j) (h2 : i ≤ m) (x : Nat) : rotF e (m - i) m (m + j) x = rotF e' (m - i) m (m + (j - i)) x := by
  unfold rotF
  simp only [h _]
  by_cases c1 : m - i ≤ x ∧ x < m - i + (m + j - m)
  · rw [if_pos c1]
    by_cases c2 : m - i ≤ x ∧ x < m - i + (m + (j - i) - m)
    · rw [if_pos c2]
      by_cases c3 : m + j - i ≤ x + (m - (m - i)) ∧ x + (m - (m - i)) < m + j - i + i
      · omega
      · rw [if_neg (by omega), if_neg c3]
    · rw [if_neg c2]
      by_cases c4 : m - i + (m + (j - i) - m) ≤ x ∧ x < m + (j - i)
      · rw [if_pos c4, if_pos (by omega)]
        congr 1; omega
      · omega
  · rw [if_neg c1]
    by_cases c2 : m - i + (m + j - m) ≤ x ∧ x < m + j
    · rw [if_pos c2, if_neg (by omega)]
      by_cases c4 : m - i + (m + (j - i) - m) ≤ x ∧ x < m + (j - i)
      · rw [if_pos c4, if_pos (by omega)]
        congr 1; omega
      · rw [if_neg c4, if_neg (by omega), if_pos (by omega)]
        congr 1; omega
    · rw [if_neg c2, if_neg (by omega), if_neg (by omega), if_neg (by omega), if_neg (by omega)]
theorem rot_end {e e' : List α} {i m : Nat} (h : Swapped e e' (m - i) m i) (h2 : i ≤ m) (x : Nat) : e'[x]? = rotF e (m - i) m (m + i) x := by
  unfold rotF
  rw [h x]
  by_cases c1 : m - i ≤ x ∧ x < m - i + i
  · rw [if_pos c1, if_pos (by omega)]
    congr 1; omega
  · rw [if_neg c1]
    by_cases c2 : m ≤ x ∧ x < m + i
    · rw [if_pos c2, if_neg (by omega), if_pos (by omega)]
      congr 1; omega
    · rw [if_neg c2, if_neg (by omega), if_neg (by omega)]
theorem rot_none {d : List α} {a m b : Nat} (h : a = m ∨ b = m) (hb : a ≤ m ∧ m ≤ b) : Rotated d d a m b := fun x => by
  unfold rotF
  by_cases c1 : a ≤ x ∧ x < a + (b - m)
  · rw [if_pos c1]
    congr 1; omega
  · rw [if_neg c1]
    by_cases c2 : a + (b - m) ≤ x ∧ x < b
    · rw [if_pos c2]
      congr 1; omega
    · rw [if_neg c2]
/-- One element further up: places k and k + 1 have been exchanged. -/
theorem rot_up {d e : List α} {a k : Nat} {x y : α} (h : Rotated d e a (a + 1) (k + 1)) (hak : a ≤ k) (hx : e[k]? = some x) (hy : e[k + 1]? = some y) : Rotated d ((e.set k y).set (k + 1) x) a (a + 1) (k + 2) := fun i => by
  have hl1 := (List.getElem?_eq_some_iff.1 hx).1
  have hl2 := (List.getElem?_eq_some_iff.1 hy).1
  have hx' : d[a]? = some x := by
    rw [← hx, h k]
    unfold rotF
    rw [if_neg (by omega), if_pos (by omega)]
    congr 1; omega
  have hy' : d[k + 1]? = some y := by
    rw [← hy, h (k + 1)]
    unfold rotF
    rw [if_neg (by omega), if_neg (by omega)]
  unfold rotF
  by_cases c1 : i = k + 1
  · subst c1
    rw [List.getElem?_set_self (by rw [List.length_set]; exact hl2), if_neg (by omega), if_pos (by omega), ← hx']
    congr 1; omega
  · rw [List.getElem?_set_ne (by omega)]
    by_cases c2 : i = k
    · subst c2
      rw [List.getElem?_set_self hl1, if_pos (by omega), ← hy']
      congr 1; omega
    · rw [List.getElem?_set_ne (by omega), h i]
      unfold rotF
      by_cases c3 : a ≤ i ∧ i < a + (k + 1 - (a + 1))
      · rw [if_pos c3, if_pos (by omega)]
      · rw [if_neg c3, if_neg (by omega), if_neg (by omega), if_neg (by omega)]
/-- One element further down: places k and k + 1 have been exchanged. -/
theorem rot_down {d e : List α} {k m : Nat} {x y : α} (h : Rotated d e (k + 1) m (m + 1)) (hkm : k < m) (hx : e[k]? = some x) (hy : e[k + 1]? = some y) : Rotated d ((e.set (k + 1) x).set k y) k m (m + 1) := fun i => by
  have hl1 := (List.getElem?_eq_some_iff.1 hx).1
  have hl2 := (List.getElem?_eq_some_iff.1 hy).1
  have hx' : d[k]? = some x := by
    rw [← hx, h k]
    unfold rotF
    rw [if_neg (by omega), if_neg (by omega)]
  have hy' : d[m]? = some y := by
    rw [← hy, h (k + 1)]
    unfold rotF
    rw [if_pos (by omega)]
    congr 1; omega
  unfold rotF
  by_cases c1 : i = k
  · subst c1
    rw [List.getElem?_set_self (by rw [List.length_set]; exact hl1), if_pos (by omega), ← hy']
    congr 1; omega
  · rw [List.getElem?_set_ne (by omega)]
    by_cases c2 : i = k + 1
    · subst c2
      rw [List.getElem?_set_self hl2, if_neg (by omega), if_pos (by omega), ← hx']
      congr 1; omega
    · rw [List.getElem?_set_ne (by omega), h i]
      unfold rotF
      by_cases c3 : k + 1 ≤ i ∧ i < k + 1 + (m + 1 - m)
      · omega
      · rw [if_neg c3]
        by_cases c4 : k + 1 + (m + 1 - m) ≤ i ∧ i < m + 1
        · rw [if_pos c4, if_neg (by omega), if_pos (by omega)]
        · rw [if_neg c4, if_neg (by omega), if_neg (by omega)]
end

section
variable {α : Type} (R C : α → α → Prop)
def SortedIn (d : List α) (a b : Nat) : Prop := ∀ i j x y, a ≤ i → i < j → j < b → d[i]? = some x → d[j]? = some y → R x y
def CrossIn (d : List α) (a m b : Nat) : Prop := ∀ i j x y, a ≤ i → i < m → m ≤ j → j < b → d[i]? = some x → d[j]? = some y → C x y
structure Ready (d : List α) (a m b : Nat) : Prop where
  left : SortedIn R d a m
  right : SortedIn R d m b
  cross : CrossIn C d a m b
/-- The piece from a to b has been sorted; nothing else has turned. -/
structure Merged (d e : List α) (a b : Nat) : Prop where
  perm : e.Perm d
  out : ∀ i, ¬ (a ≤ i ∧ i < b) → e[i]? = d[i]?
  src : ∀ i x, a ≤ i → i < b → e[i]? = some x → ∃ j, a ≤ j ∧ j < b ∧ d[j]? = some x
  sorted : SortedIn R e a b
variable {R C}
theorem rot_src {d e : List α} {a m b i : Nat} {x : α} (h : Rotated d e a m b) (hab : a ≤ m ∧ m ≤ b) (hi : e[i]? = some x) : (¬ (a ≤ i ∧ i < b) ∧ d[i]? = some x) ∨ (a ≤ i ∧ i < a + (b - m) ∧ d[i + (m - a)]? = some x) ∨ (a + (b - m) ≤ i ∧ i < b ∧ d[i - (b - m)]? = some x) := by
  rw [h i] at hi
  unfold rotF at hi
  split at hi
  · rename_i c; exact .inr (.inl ⟨c.1, c.2, hi⟩)
  · split at hi
    · rename_i c; exact .inr (.inr ⟨c.1, c.2, hi⟩)
    · exact .inl ⟨by omega, hi⟩
/-- A rotation that brings the two pieces to their places: all is sorted. -/
theorem merged_rot {d e : List α} {a s m t b : Nat} (hp : e.Perm d) (h : Rotated d e s m t) (hb : a ≤ s ∧ s ≤ m ∧ m ≤ t ∧ t ≤ b) (hr : SortedIn R d a m) (hr2 : SortedIn R d m b)
    (h1 : ∀ i j x y, a ≤ i → i < s → m ≤ j → j < b → d[i]? = some x → d[j]? = some y → R x y) (h2 : ∀ i j x y, m ≤ i → i < t → s ≤ j → j < m → d[i]? = some x → d[j]? = some y → R x y) (h3 : ∀ i j x y, a ≤ i → i < m → t ≤ j → j < b → d[i]? = some x → d[j]? = some y → R x y) : Merged R d e a b := by
  refine ⟨hp, fun i hi => ?_, fun i x ha hb' hx => ?_, fun i j x y ha hij hjb hx hy => ?_⟩
  · rw [h i]; unfold rotF; rw [if_neg (by omega), if_neg (by omega)]
  · rcases rot_src h ⟨hb.2.1, hb.2.2.1⟩ hx with ⟨_, k⟩ | ⟨_, _, k⟩ | ⟨_, _, k⟩
    · exact ⟨_, ha, hb', k⟩
    · exact ⟨_, by omega, by omega, k⟩
    · exact ⟨_, by omega, by omega, k⟩
  · rcases rot_src h ⟨hb.2.1, hb.2.2.1⟩ hx with ⟨ci, ki⟩ | ⟨ci, ci', ki⟩ | ⟨ci, ci', ki⟩ <;> rcases rot_src h ⟨hb.2.1, hb.2.2.1⟩ hy with ⟨cj, kj⟩ | ⟨cj, cj', kj⟩ | ⟨cj, cj', kj⟩
    · by_cases c1 : j < m
      · exact hr _ _ _ _ ha hij c1 ki kj
      · by_cases c2 : i < m
        · by_cases c3 : i < s
          · exact h1 _ _ _ _ ha c3 (by omega) hjb ki kj
          · exact h3 _ _ _ _ ha c2 (by omega) hjb ki kj
        · exact hr2 _ _ _ _ (by omega) hij hjb ki kj
    · exact h1 _ _ _ _ ha (by omega) (by omega) (by omega) ki kj
    · exact hr _ _ _ _ ha (by omega) (by omega) ki kj
    · by_cases c : j < b
      · exact hr2 _ _ _ _ (by omega) (by omega) hjb ki kj
      · omega
    · exact hr2 _ _ _ _ (by omega) (by omega) (by omega) ki kj
    · exact h2 _ _ _ _ (by omega) (by omega) (by omega) (by omega) ki kj
    · exact h3 _ _ _ _ (by omega) (by omega) (by omega) hjb ki kj
    · omega
    · exact hr _ _ _ _ (by omega) (by omega) (by omega) ki kj
/-- A rotation in the middle: two merges remain, and what they merge stands in order. -/
theorem ready_rot {d e : List α} {a s m t b mid : Nat} (hR : Ready R C d a m b) (h : Rotated d e s m t) (hb : a ≤ s ∧ s ≤ m ∧ m ≤ t ∧ t ≤ b) (hmid : s + t = mid + m) (ht : ∀ x y z, R x y → R y z → R x z)
    (h1 : s = a ∨ t = b ∨ ∃ x y, a < s ∧ d[s - 1]? = some x ∧ d[t]? = some y ∧ R x y) (h2 : s = m ∨ t = m ∨ ∃ x y, d[s]? = some x ∧ d[t - 1]? = some y ∧ R y x) :
    Ready R C e a s mid ∧ Ready R C e mid t b ∧ ∀ i j x y, a ≤ i → i < mid → mid ≤ j → j < b → e[i]? = some x → e[j]? = some y → R x y := by
  have hmm : mid = s + (t - m) := by omega
  have gl : ∀ i x, a ≤ i → i < s → e[i]? = some x → d[i]? = some x := fun i x c1 c2 hx => by
    rcases rot_src h ⟨hb.2.1, hb.2.2.1⟩ hx with ⟨_, k⟩ | ⟨_, _, k⟩ | ⟨_, _, k⟩
    · exact k
    · omega
    · omega
  have gm : ∀ i x, s ≤ i → i < mid → e[i]? = some x → d[i + (m - s)]? = some x := fun i x c1 c2 hx => by
    rcases rot_src h ⟨hb.2.1, hb.2.2.1⟩ hx with ⟨c, k⟩ | ⟨_, _, k⟩ | ⟨c, _, k⟩
    · omega
    · exact k
    · omega
  have gn : ∀ i x, mid ≤ i → i < t → e[i]? = some x → d[i - (t - m)]? = some x := fun i x c1 c2 hx => by
    rcases rot_src h ⟨hb.2.1, hb.2.2.1⟩ hx with ⟨c, k⟩ | ⟨_, c, k⟩ | ⟨_, _, k⟩
    · omega
    · omega
    · exact k
  have gr : ∀ i x, t ≤ i → i < b → e[i]? = some x → d[i]? = some x := fun i x c1 c2 hx => by
    rcases rot_src h ⟨hb.2.1, hb.2.2.1⟩ hx with ⟨_, k⟩ | ⟨_, _, k⟩ | ⟨_, _, k⟩
    · exact k
    · omega
    · omega
  refine ⟨⟨fun i j x y c1 c2 c3 hx hy => hR.left _ _ _ _ c1 c2 (by omega) (gl _ _ c1 (by omega) hx) (gl _ _ (by omega) c3 hy), fun i j x y c1 c2 c3 hx hy => hR.right _ _ _ _ (by omega) (by omega) (by omega) (gm _ _ c1 (by omega) hx) (gm _ _ (by omega) c3 hy), fun i j x y c1 c2 c3 c4 hx hy => hR.cross _ _ _ _ c1 (by omega) (by omega) (by omega) (gl _ _ c1 c2 hx) (gm _ _ c3 c4 hy)⟩,
    ⟨fun i j x y c1 c2 c3 hx hy => hR.left _ _ _ _ (by omega) (by omega) (by omega) (gn _ _ c1 (by omega) hx) (gn _ _ (by omega) c3 hy), fun i j x y c1 c2 c3 hx hy => hR.right _ _ _ _ (by omega) c2 c3 (gr _ _ c1 (by omega) hx) (gr _ _ (by omega) c3 hy), fun i j x y c1 c2 c3 c4 hx hy => hR.cross _ _ _ _ (by omega) (by omega) (by omega) c4 (gn _ _ c1 c2 hx) (gr _ _ c3 c4 hy)⟩, fun i j x y c1 c2 c3 c4 hx hy => ?_⟩
  by_cases ci : i < s
  · have hx' := gl _ _ c1 ci hx
    by_cases cj : j < t
    · exact hR.left _ _ _ _ c1 (by omega) (by omega) hx' (gn _ _ c3 cj hy)
    · have hy' := gr _ _ (by omega) c4 hy
      rcases h1 with h1 | h1 | ⟨u, v, _, hu, hv, huv⟩
      · omega
      · omega
      · have e1 : R x v := by
          by_cases e : i = s - 1
          · subst e; rw [hu] at hx'; injection hx' with hx'; subst hx'; exact huv
          · exact ht _ _ _ (hR.left _ _ _ _ c1 (by omega) (by omega) hx' hu) huv
        by_cases e : j = t
        · subst e; rw [hv] at hy'; injection hy' with hy'; subst hy'; exact e1
        · exact ht _ _ _ e1 (hR.right _ _ _ _ (by omega) (by omega) c4 hv hy')
  · have hx' := gm _ _ (by omega) c2 hx
    by_cases cj : j < t
    · have hy' := gn _ _ c3 cj hy
      rcases h2 with h2 | h2 | ⟨u, v, hu, hv, huv⟩
      · omega
      · omega
      · have e1 : R x u := by
          by_cases e : i + (m - s) = t - 1
          · rw [e, hv] at hx'; injection hx' with hx'; subst hx'; exact huv
          · exact ht _ _ _ (hR.right _ _ _ _ (by omega) (by omega) (by omega) hx' hv) huv
        by_cases e : j - (t - m) = s
        · rw [e, hu] at hy'; injection hy' with hy'; subst hy'; exact e1
        · exact ht _ _ _ e1 (hR.left _ _ _ _ (by omega) (by omega) (by omega) hu hy')
    · exact hR.right _ _ _ _ (by omega) (by omega) c4 hx' (gr _ _ (by omega) c4 hy)
/-- The two merges done, all is. -/
theorem merged_two {d e e1 e2 : List α} {a s m t b mid : Nat} (hp : e.Perm d) (h : Rotated d e s m t) (hb : a ≤ s ∧ s ≤ m ∧ m ≤ t ∧ t ≤ b) (hmid : s + t = mid + m) (h1 : Merged R e e1 a mid) (h2 : Merged R e1 e2 mid b)
    (hc : ∀ i j x y, a ≤ i → i < mid → mid ≤ j → j < b → e[i]? = some x → e[j]? = some y → R x y) : Merged R d e2 a b := by
  have hsrc : ∀ i x, a ≤ i → i < b → e[i]? = some x → ∃ j, a ≤ j ∧ j < b ∧ d[j]? = some x := fun i x c1 c2 hx => by
    rcases rot_src h ⟨hb.2.1, hb.2.2.1⟩ hx with ⟨_, k⟩ | ⟨_, _, k⟩ | ⟨_, _, k⟩
    · exact ⟨_, c1, c2, k⟩
    · exact ⟨_, by omega, by omega, k⟩
    · exact ⟨_, by omega, by omega, k⟩
  have g1 : ∀ i x, a ≤ i → i < mid → e2[i]? = some x → ∃ j, a ≤ j ∧ j < mid ∧ e[j]? = some x := fun i x c1 c2 hx => by
    rw [h2.out i (by omega)] at hx
    exact h1.src _ _ c1 c2 hx
  have g2 : ∀ i x, mid ≤ i → i < b → e2[i]? = some x → ∃ j, mid ≤ j ∧ j < b ∧ e[j]? = some x := fun i x c1 c2 hx => by
    obtain ⟨j, d1, d2, d3⟩ := h2.src _ _ c1 c2 hx
    rw [h1.out j (by omega)] at d3
    exact ⟨j, d1, d2, d3⟩
  refine ⟨(h2.perm.trans h1.perm).trans hp, fun i hi => ?_, fun i x c1 c2 hx => ?_, fun i j x y c1 c2 c3 hx hy => ?_⟩
  · rw [h2.out i (by omega), h1.out i (by omega), h i]; unfold rotF; rw [if_neg (by omega), if_neg (by omega)]
  · by_cases c : i < mid
    · obtain ⟨j, d1, d2, d3⟩ := g1 _ _ c1 c hx
      exact hsrc j x d1 (by omega) d3
    · obtain ⟨j, d1, d2, d3⟩ := g2 _ _ (by omega) c2 hx
      exact hsrc j x (by omega) d2 d3
  · by_cases cj : j < mid
    · rw [h2.out i (by omega)] at hx
      rw [h2.out j (by omega)] at hy
      exact h1.sorted _ _ _ _ c1 c2 cj hx hy
    · by_cases ci : i < mid
      · obtain ⟨i', d1, d2, d3⟩ := g1 _ _ c1 ci hx
        obtain ⟨j', d4, d5, d6⟩ := g2 _ _ (by omega) c3 hy
        exact hc _ _ _ _ d1 d2 d4 d5 d3 d6
      · exact h2.sorted _ _ _ _ (by omega) c2 c3 hx hy
theorem merged_none {d : List α} {a b : Nat} (h : SortedIn R d a b) : Merged R d d a b := ⟨.refl _, fun _ _ => rfl, fun i _ c1 c2 hx => ⟨i, c1, c2, hx⟩, h⟩
/-- Where one of the two pieces is empty there is nothing to merge. -/
theorem Ready.empty_left {d : List α} {a m b : Nat} (h : Ready R C d a m b) (e : a = m) : SortedIn R d a b := e ▸ h.right
theorem Ready.empty_right {d : List α} {a m b : Nat} (h : Ready R C d a m b) (e : m = b) : SortedIn R d a b := e ▸ h.left
theorem Ready.same {d e : List α} {a m b : Nat} (h : Ready R C d a m b) (hab : a ≤ m ∧ m ≤ b) (he : ∀ i, a ≤ i → i < b → e[i]? = d[i]?) : Ready R C e a m b :=
  ⟨fun i j x y c1 c2 c3 hx hy => h.left i j x y c1 c2 c3 ((he i c1 (by omega)).symm.trans hx) ((he j (by omega) (by omega)).symm.trans hy), fun i j x y c1 c2 c3 hx hy => h.right i j x y c1 c2 c3 ((he i (by omega) (by omega)).symm.trans hx) ((he j (by omega) (by omega)).symm.trans hy),
    fun i j x y c1 c2 c3 c4 hx hy => h.cross i j x y c1 c2 c3 c4 ((he i c1 (by omega)).symm.trans hx) ((he j (by omega) c4).symm.trans hy)⟩
/-- One element on the left. -/
theorem merged_left {d e : List α} {a b i : Nat} (hR : Ready R C d a (a + 1) b) (hp : e.Perm d) (h : Rotated d e a (a + 1) i) (hi : a + 1 ≤ i ∧ i ≤ b) (ht : ∀ x y z, R x y → R y z → R x z)
    (h1 : i = a + 1 ∨ ∃ x y, d[i - 1]? = some x ∧ d[a]? = some y ∧ R x y) (h2 : i = b ∨ ∃ x y, d[i]? = some x ∧ d[a]? = some y ∧ R y x) : Merged R d e a b := by
  refine merged_rot hp h ⟨Nat.le_refl _, by omega, hi.1, hi.2⟩ hR.left hR.right (fun i' j' _ _ c1 c2 _ _ _ _ => by omega) (fun i' j' x y c1 c2 c3 c4 hx hy => ?_) (fun i' j' x y c1 c2 c3 c4 hx hy => ?_)
  · obtain rfl : j' = a := by omega
    rcases h1 with h1 | ⟨u, v, hu, hv, huv⟩
    · omega
    · rw [hv] at hy
      injection hy with hy
      subst hy
      by_cases e : i' = i - 1
      · subst e; rw [hu] at hx; injection hx with hx; subst hx; exact huv
      · exact ht _ _ _ (hR.right _ _ _ _ c1 (by omega) (by omega) hx hu) huv
  · obtain rfl : i' = a := by omega
    rcases h2 with h2 | ⟨u, v, hu, hv, huv⟩
    · omega
    · rw [hv] at hx
      injection hx with hx
      subst hx
      by_cases e : j' = i
      · subst e; rw [hu] at hy; injection hy with hy; subst hy; exact huv
      · exact ht _ _ _ huv (hR.right _ _ _ _ (by omega) (by omega) c4 hu hy)
/-- One element on the right. -/
theorem merged_right {d e : List α} {a m i : Nat} (hR : Ready R C d a m (m + 1)) (hp : e.Perm d) (h : Rotated d e i m (m + 1)) (hi : a ≤ i ∧ i ≤ m) (ht : ∀ x y z, R x y → R y z → R x z)
    (h1 : i = a ∨ ∃ x y, d[i - 1]? = some x ∧ d[m]? = some y ∧ R x y) (h2 : i = m ∨ ∃ x y, d[i]? = some x ∧ d[m]? = some y ∧ R y x) : Merged R d e a (m + 1) := by
  refine merged_rot hp h ⟨hi.1, hi.2, by omega, Nat.le_refl _⟩ hR.left hR.right (fun i' j' x y c1 c2 c3 c4 hx hy => ?_) (fun i' j' x y c1 c2 c3 c4 hx hy => ?_) (fun i' j' x y _ _ _ _ _ _ => by omega)
  · obtain rfl : j' = m := by omega
    rcases h1 with h1 | ⟨u, v, hu, hv, huv⟩
    · omega
    · rw [hv] at hy
      injection hy with hy
      subst hy
      by_cases e : i' = i - 1
      · subst e; rw [hu] at hx; injection hx with hx; subst hx; exact huv
      · exact ht _ _ _ (hR.left _ _ _ _ c1 (by omega) (by omega) hx hu) huv
  · obtain rfl : i' = m := by omega
    rcases h2 with h2 | ⟨u, v, hu, hv, huv⟩
    · omega
    · rw [hv] at hx
      injection hx with hx
      subst hx
      by_cases e : j' = i
      · subst e; rw [hu] at hy; injection hy with hy; subst hy; exact huv
      · exact ht _ _ _ huv (hR.left _ _ _ _ (by omega) (by omega) c4 hu hy)
/-- Two orders of the same elements are one. -/
theorem sorted_unique : ∀ {l r : List α}, l.Perm r → (∀ x y, R x y → ¬ R y x) → l.Pairwise R → r.Pairwise R → l = r
  | [], r, hp, _, _, _ => (List.nil_perm.1 hp).symm ▸ rfl
  | x :: l, [], hp, _, _, _ => absurd hp.length_eq (by simp)
  | x :: l, y :: r, hp, hR, hl, hr => by
    have hx : x ∈ y :: r := hp.mem_iff.1 (by simp)
    have hy : y ∈ x :: l := hp.mem_iff.2 (by simp)
    have e : x = y := by
      rcases List.mem_cons.1 hx with e | h1
      · exact e
      · rcases List.mem_cons.1 hy with e | h2
        · exact e.symm
        · exact absurd ((List.pairwise_cons.1 hr).1 x h1) (hR _ _ ((List.pairwise_cons.1 hl).1 y h2))
    subst e
    rw [sorted_unique (List.perm_cons x |>.1 hp) hR (List.pairwise_cons.1 hl).2 (List.pairwise_cons.1 hr).2]
theorem pairwise_of {d : List α} (h : SortedIn R d 0 d.length) : d.Pairwise R := List.pairwise_iff_getElem.2 fun i j hi hj hij => h i j _ _ (Nat.zero_le _) hij hj (List.getElem?_eq_getElem hi) (List.getElem?_eq_getElem hj)
/-- Stable insertion keeps a strict order. -/
theorem posR_spec (lt : α → α → Bool) (P : List α) (e : α) : ∀ k, k ≤ P.length → (∀ i, posR lt P e k ≤ i → i < k → ∃ p, P[i]? = some p ∧ lt e p = true) ∧ (0 < posR lt P e k → posR lt P e k ≤ k → ∃ p, P[posR lt P e k - 1]? = some p ∧ lt e p = false)
  | 0, _ => ⟨fun i h1 h2 => by omega, fun h _ => by simp [posR] at h⟩
  | k + 1, hk => by
    have hkl : k < P.length := by omega
    obtain ⟨h1, h2⟩ := posR_spec lt P e k (by omega)
    cases hc : lt e P[k] with
    | true =>
      rw [posR_yes lt hkl hc]
      refine ⟨fun i c1 c2 => ?_, fun c1 _ => h2 c1 (posR_le lt P e k)⟩
      by_cases c : i = k
      · subst c; exact ⟨_, List.getElem?_eq_getElem hkl, hc⟩
      · exact h1 i c1 (by omega)
    | false =>
      rw [posR_no lt hkl hc]
      exact ⟨fun i c1 c2 => by omega, fun _ _ => ⟨P[k], by simp, hc⟩⟩
theorem insR_sorted {lt : α → α → Bool} {P : List α} {e : α} (ht : ∀ x y z, R x y → R y z → R x z) (hP : P.Pairwise R) (hy : ∀ p ∈ P, lt e p = true → R e p) (hn : ∀ p ∈ P, lt e p = false → R p e) : (insR lt P e).Pairwise R := by
  obtain ⟨h1, h2⟩ := posR_spec lt P e P.length (Nat.le_refl _)
  have hle := posR_le lt P e P.length
  have hpw := List.pairwise_iff_getElem.1 hP
  unfold insR
  generalize posR lt P e P.length = k at *
  rw [List.pairwise_append]
  refine ⟨hP.sublist (List.take_sublist _ _), List.pairwise_cons.2 ⟨fun p hp => ?_, hP.sublist (List.drop_sublist _ _)⟩, fun a ha b hb => ?_⟩
  · obtain ⟨i, hi, rfl⟩ := List.getElem_of_mem hp
    rw [List.length_drop] at hi
    obtain ⟨q, hq, hl⟩ := h1 (k + i) (by omega) (by omega)
    rw [List.getElem_drop]
    rw [List.getElem?_eq_getElem (by omega)] at hq
    injection hq with hq
    rw [hq]
    exact hy q (hq ▸ List.getElem_mem _) hl
  · obtain ⟨i, hi, rfl⟩ := List.getElem_of_mem ha
    rw [List.length_take] at hi
    have hik : i < k := by omega
    have hRe : R (P[i]'(by omega)) e := by
      obtain ⟨q, hq, hl⟩ := h2 (by omega) hle
      rw [List.getElem?_eq_getElem (by omega)] at hq
      injection hq with hq
      have hqe : R q e := hn q (hq ▸ List.getElem_mem _) hl
      by_cases c : i = k - 1
      · subst c; rw [hq]; exact hqe
      · exact ht _ _ _ (hq ▸ hpw i (k - 1) (by omega) (by omega) (by omega)) hqe
    rw [List.getElem_take]
    rcases List.mem_cons.1 hb with rfl | hb
    · exact hRe
    · obtain ⟨j, hj, rfl⟩ := List.getElem_of_mem hb
      rw [List.length_drop] at hj
      rw [List.getElem_drop]
      exact hpw i (k + j) (by omega) (by omega) (by omega)
theorem sortR_sorted {lt : α → α → Bool} {C : α → α → Prop} (ht : ∀ x y z, R x y → R y z → R x z) (hc : ∀ x y, C x y → (lt y x = true → R y x) ∧ (lt y x = false → R x y)) : ∀ (n : Nat) (xs : List α), xs.length = n → xs.Pairwise C → (sortR lt xs).Pairwise R
  | 0, xs, hl, _ => by
    rw [List.eq_nil_of_length_eq_zero hl]; exact List.Pairwise.nil
  | n + 1, xs, hl, hp => by
    obtain ⟨l, x, rfl⟩ : ∃ l x, xs = l ++ [x] := ⟨xs.dropLast, xs.getLast (by intro e; rw [e] at hl; cases hl), (List.dropLast_concat_getLast _).symm⟩
    rw [sortR_snoc]
    rw [List.pairwise_append] at hp
    have hx : ∀ p ∈ sortR lt l, C p x := fun p hp' => hp.2.2 p ((sortR_mem lt).1 hp') x (by simp)
    exact insR_sorted ht (sortR_sorted ht hc n l (by simpa using hl) hp.1) (fun p hp' h => (hc p x (hx p hp')).1 h) (fun p hp' h => (hc p x (hx p hp')).2 h)
end

end Go.Proofs.Ytjcmlloglnkbfaa
