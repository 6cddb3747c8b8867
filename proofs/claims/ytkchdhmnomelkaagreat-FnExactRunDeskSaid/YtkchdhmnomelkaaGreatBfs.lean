/- A search by rings: what it marks, and the fields it yields. No program is named here. -/
import Derived.Test.YtkchdhmnomelkaaGreatGrid
namespace Go.Proofs.YtkchdhmnomelkaaGreat
/-- the cells of numbers 0 .. N-1 -/
def cellsL (N : Nat) : List Int := (List.range N).map fun i : Nat => (i : Int)
theorem mem_cellsL {N : Nat} {c : Int} : c ∈ cellsL N ↔ 0 ≤ c ∧ c < N := by
  unfold cellsL
  rw [List.mem_map]
  constructor
  · rintro ⟨i, hi, rfl⟩
    have := List.mem_range.1 hi
    omega
  · rintro ⟨h1, h2⟩
    exact ⟨c.toNat, List.mem_range.2 (by omega), by omega⟩
/-- the cells within s steps of a -/
def ballB (N : Nat) (nx : Int → List Int) (a : Int) : Nat → Int → Bool
  | 0, c => decide (c = a)
  | s + 1, c => ballB N nx a s c || (cellsL N).any fun b => ballB N nx a s b && (nx b).contains c
def dAt (D : List Int) (c : Int) : Int := D.getD c.toNat 0
structure Bfs (N : Nat) (nx : Int → List Int) (a : Int) (D Q : List Int) : Prop where
  len : D.length = N
  qin : ∀ q ∈ Q, (0 ≤ q ∧ q < N) ∧ 0 ≤ dAt D q
  rng : ∀ c : Int, 0 ≤ c → c < N → -1 ≤ dAt D c
  a0 : dAt D a = 0
  sound : ∀ c : Int, 0 ≤ c → c < N → 0 ≤ dAt D c → ballB N nx a (dAt D c).toNat c = true
  sorted : Q.Pairwise fun x y => dAt D x ≤ dAt D y
  top : ∀ q ∈ Q, ∀ c : Int, 0 ≤ c → c < N → dAt D c ≤ dAt D q + 1
  closed : ∀ c : Int, 0 ≤ c → c < N → 0 ≤ dAt D c → c ∈ Q ∨ ∀ k ∈ nx c, 0 ≤ dAt D k ∧ dAt D k ≤ dAt D c + 1
def unmarked (D : List Int) : Nat := (D.filter fun x => decide (x < 0)).length
/-- within the round of q: the first j cells beside q are marked -/
structure BfsIn (N : Nat) (nx : Int → List Int) (a : Int) (q : Int) (j : Nat) (D Q : List Int) : Prop where
  inv : Bfs N nx a D (q :: Q)
  done : ∀ k ∈ (nx q).take j, 0 ≤ dAt D k ∧ dAt D k ≤ dAt D q + 1

theorem dAt_set_self {D : List Int} {c x : Int} (h0 : 0 ≤ c) (h : c < D.length) : dAt (D.set c.toNat x) c = x := by
  unfold dAt
  rw [List.getD_eq_getElem?_getD, List.getElem?_set_self (by omega)]; rfl
theorem dAt_set_ne {D : List Int} {c d x : Int} (hc : 0 ≤ c) (hd : 0 ≤ d) (h : d ≠ c) : dAt (D.set c.toNat x) d = dAt D d := by
  unfold dAt
  rw [List.getD_eq_getElem?_getD, List.getElem?_set_ne (by omega), List.getD_eq_getElem?_getD]
theorem unmarked_set : ∀ {D : List Int} {i : Nat} {x : Int}, (h : i < D.length) → D[i] < 0 → 0 ≤ x → unmarked (D.set i x) + 1 = unmarked D
  | y :: D, 0, x, _, hy, hx => by
    simp only [List.getElem_cons_zero] at hy
    simp only [unmarked, List.set_cons_zero, List.filter_cons]
    rw [if_neg (by simp; omega), if_pos (by simpa using hy)]
    simp
  | y :: D, i + 1, x, h, hy, hx => by
    have ih := unmarked_set (D := D) (i := i) (x := x) (by simpa using h) (by simpa using hy) hx
    unfold unmarked at ih ⊢
    simp only [List.set_cons_succ, List.filter_cons]
    split
    · simp only [List.length_cons]; omega
    · exact ih
theorem dAt_get {D : List Int} {c : Int} (h : c.toNat < D.length) : dAt D c = D[c.toNat] := by
  unfold dAt
  rw [List.getD_eq_getElem?_getD, List.getElem?_eq_getElem h]; rfl

theorem bfs_start {N : Nat} {nx : Int → List Int} {a : Int} (h0 : 0 ≤ a) (h : a < N) : Bfs N nx a ((List.replicate N (-1 : Int)).set a.toNat 0) [a] := by
  have hs : dAt ((List.replicate N (-1 : Int)).set a.toNat 0) a = 0 := dAt_set_self h0 (by simpa using h)
  have hn : ∀ c : Int, 0 ≤ c → c < N → c ≠ a → dAt ((List.replicate N (-1 : Int)).set a.toNat 0) c = -1 := by
    intro c hc hcN hne
    rw [dAt_set_ne h0 hc hne, dAt_get (by simp; omega)]
    simp
  refine ⟨by simp, fun q hq => ?_, fun c h1 h2 => ?_, hs, fun c h1 h2 h3 => ?_, List.pairwise_singleton _ _, fun q hq c h1 h2 => ?_, fun c h1 h2 h3 => ?_⟩
  · obtain rfl := List.mem_singleton.1 hq
    exact ⟨⟨h0, h⟩, by omega⟩
  · by_cases e : c = a
    · subst e; omega
    · rw [hn c h1 h2 e]; omega
  · by_cases e : c = a
    · subst e; rw [hs]; simp [ballB]
    · rw [hn c h1 h2 e] at h3; omega
  · obtain rfl := List.mem_singleton.1 hq
    by_cases e : c = q
    · subst e; omega
    · rw [hn c h1 h2 e]; omega
  · by_cases e : c = a
    · exact .inl (by simp [e])
    · rw [hn c h1 h2 e] at h3; omega

theorem bfsIn_start {N : Nat} {nx : Int → List Int} {a q : Int} {D Q : List Int} (h : Bfs N nx a D (q :: Q)) : BfsIn N nx a q 0 D Q := ⟨h, by simp⟩
theorem bfsIn_end {N : Nat} {nx : Int → List Int} {a q : Int} {D Q : List Int} {j : Nat} (h : BfsIn N nx a q j D Q) (hj : (nx q).length ≤ j) : Bfs N nx a D Q := by
  have hd := h.done
  rw [List.take_of_length_le hj] at hd
  have i := h.inv
  refine ⟨i.len, fun x hx => i.qin x (by simp [hx]), i.rng, i.a0, i.sound, i.sorted.of_cons, fun x hx => i.top x (by simp [hx]), fun c h1 h2 h3 => ?_⟩
  rcases i.closed c h1 h2 h3 with h4 | h4
  · rcases List.mem_cons.1 h4 with rfl | h4
    · exact .inr hd
    · exact .inl h4
  · exact .inr h4
/-- a cell that is marked already -/
theorem bfsIn_old {N : Nat} {nx : Int → List Int} {a q k : Int} {D Q : List Int} {j : Nat} (h : BfsIn N nx a q j D Q) (hj : j < (nx q).length) (hk : (nx q)[j] = k) (hr : 0 ≤ k ∧ k < N) (hD : 0 ≤ dAt D k) : BfsIn N nx a q (j + 1) D Q := by
  refine ⟨h.inv, fun x hx => ?_⟩
  rw [List.take_succ_eq_append_getElem hj, hk, List.mem_append] at hx
  rcases hx with hx | hx
  · exact h.done x hx
  · obtain rfl := List.mem_singleton.1 hx
    exact ⟨hD, h.inv.top q (by simp) x hr.1 hr.2⟩
/-- a cell that is not marked -/
theorem bfsIn_new {N : Nat} {nx : Int → List Int} {a q k : Int} {D Q : List Int} {j : Nat} (hnx : ∀ b, ∀ x ∈ nx b, 0 ≤ x ∧ x < N) (h : BfsIn N nx a q j D Q) (hj : j < (nx q).length) (hk : (nx q)[j] = k) (hD : dAt D k < 0) :
    BfsIn N nx a q (j + 1) (D.set k.toNat (dAt D q + 1)) (Q ++ [k]) ∧ unmarked (D.set k.toNat (dAt D q + 1)) + (Q ++ [k]).length = unmarked D + Q.length := by
  have i := h.inv
  have hkm : k ∈ nx q := by rw [← hk]; exact List.getElem_mem hj
  obtain ⟨k0, kN⟩ := hnx q k hkm
  obtain ⟨⟨q0, qN⟩, qD⟩ := i.qin q (by simp)
  have hl := i.len
  have hs : dAt (D.set k.toNat (dAt D q + 1)) k = dAt D q + 1 := dAt_set_self k0 (by omega)
  have hn : ∀ c : Int, 0 ≤ c → c ≠ k → dAt (D.set k.toNat (dAt D q + 1)) c = dAt D c := fun c hc hne => dAt_set_ne k0 hc hne
  have hqk : q ≠ k := by rintro rfl; omega
  have hmark : ∀ c : Int, 0 ≤ c → 0 ≤ dAt D c → dAt (D.set k.toNat (dAt D q + 1)) c = dAt D c := fun c hc hd => hn c hc (by rintro rfl; omega)
  have hqq := hn q q0 hqk
  have hsort := List.pairwise_cons.1 i.sorted
  have htop := i.top q (by simp)
  have hb : ballB N nx a ((dAt D q).toNat + 1) k = true := by
    have h1 := i.sound q q0 qN qD
    simp only [ballB, Bool.or_eq_true, List.any_eq_true, Bool.and_eq_true]
    exact .inr ⟨q, mem_cellsL.2 ⟨q0, qN⟩, h1, by simpa using hkm⟩
  have hQ : ∀ x ∈ q :: Q, 0 ≤ x ∧ x ≠ k := fun x hx => by
    obtain ⟨⟨h1, _⟩, h2⟩ := i.qin x hx
    exact ⟨h1, by rintro rfl; omega⟩
  refine ⟨⟨⟨by rw [List.length_set]; exact hl, fun x hx => ?_, fun c h1 h2 => ?_, ?_, fun c h1 h2 h3 => ?_, ?_, fun x hx c h1 h2 => ?_, fun c h1 h2 h3 => ?_⟩, fun x hx => ?_⟩, ?_⟩
  · rw [← List.cons_append, List.mem_append] at hx
    rcases hx with hx | hx
    · obtain ⟨h1, h2⟩ := hQ x hx
      rw [hn x h1 h2]; exact i.qin x hx
    · obtain rfl := List.mem_singleton.1 hx
      exact ⟨⟨k0, kN⟩, by omega⟩
  · by_cases e : c = k
    · subst e; omega
    · rw [hn c h1 e]; exact i.rng c h1 h2
  · have ha := i.a0
    by_cases e : a = k
    · subst e; omega
    · by_cases ha0 : 0 ≤ a
      · rw [hn a ha0 e]; exact ha
      · unfold dAt at ha ⊢
        by_cases e0 : k.toNat = a.toNat
        · have : k = 0 := by omega
          subst this
          have : dAt D 0 = 0 := by unfold dAt; rw [e0]; exact ha
          omega
        · rw [List.getD_eq_getElem?_getD, List.getElem?_set_ne e0, ← List.getD_eq_getElem?_getD]; exact ha
  · by_cases e : c = k
    · subst e
      rw [hs, show (dAt D q + 1).toNat = (dAt D q).toNat + 1 by omega]; exact hb
    · rw [hn c h1 e] at h3 ⊢; exact i.sound c h1 h2 h3
  · rw [← List.cons_append, List.pairwise_append]
    refine ⟨i.sorted.imp_of_mem fun {x y} hx hy hxy => ?_, List.pairwise_singleton _ _, fun x hx y hy => ?_⟩
    · rw [hn x (hQ x hx).1 (hQ x hx).2, hn y (hQ y hy).1 (hQ y hy).2]; exact hxy
    · obtain rfl := List.mem_singleton.1 hy
      rw [hn x (hQ x hx).1 (hQ x hx).2, hs]
      obtain ⟨⟨x0, xN⟩, _⟩ := i.qin x hx
      exact htop x x0 xN
  · have hc' : dAt (D.set k.toNat (dAt D q + 1)) c ≤ dAt D q + 1 := by
      by_cases e : c = k
      · subst e; omega
      · rw [hn c h1 e]; exact htop c h1 h2
    rw [← List.cons_append, List.mem_append] at hx
    rcases hx with hx | hx
    · rw [hn x (hQ x hx).1 (hQ x hx).2]
      rcases List.mem_cons.1 hx with rfl | hx
      · exact hc'
      · have := hsort.1 x hx; omega
    · obtain rfl := List.mem_singleton.1 hx
      omega
  · by_cases e : c = k
    · subst e; exact .inl (by simp)
    · rw [hn c h1 e] at h3
      rcases i.closed c h1 h2 h3 with h4 | h4
      · refine .inl ?_
        rw [← List.cons_append, List.mem_append]; exact .inl h4
      · refine .inr fun x hx => ?_
        obtain ⟨h5, h6⟩ := h4 x hx
        rw [hmark x (hnx c x hx).1 h5, hn c h1 e]; exact ⟨h5, h6⟩
  · rw [List.take_succ_eq_append_getElem hj, hk, List.mem_append] at hx
    rcases hx with hx | hx
    · obtain ⟨h5, h6⟩ := h.done x hx
      rw [hmark x (hnx q x (List.mem_of_mem_take hx)).1 h5, hqq]; exact ⟨h5, h6⟩
    · obtain rfl := List.mem_singleton.1 hx
      rw [hs, hqq]; omega
  · have h7 := unmarked_set (D := D) (i := k.toNat) (x := dAt D q + 1) (by omega) (by rw [← dAt_get (by omega)]; exact hD) (by omega)
    rw [List.length_append]; simp; omega
theorem ballB_in {N : Nat} {nx : Int → List Int} {a : Int} (hnx : ∀ b, ∀ x ∈ nx b, 0 ≤ x ∧ x < N) (h0 : 0 ≤ a ∧ a < N) : ∀ (s : Nat) (c : Int), ballB N nx a s c = true → 0 ≤ c ∧ c < N
  | 0, c, h => by simp only [ballB, decide_eq_true_eq] at h; subst h; exact h0
  | s + 1, c, h => by
    simp only [ballB, Bool.or_eq_true, List.any_eq_true, Bool.and_eq_true] at h
    rcases h with h | ⟨b, _, _, h⟩
    · exact ballB_in hnx h0 s c h
    · exact hnx b c (by simpa using h)
theorem ballB_mono {N : Nat} {nx : Int → List Int} {a c : Int} {s t : Nat} (h : ballB N nx a s c = true) (hst : s ≤ t) : ballB N nx a t c = true := by
  induction t with
  | zero => obtain rfl : s = 0 := by omega
            exact h
  | succ t ih =>
    by_cases e : s = t + 1
    · subst e; exact h
    · simp only [ballB, Bool.or_eq_true]
      exact .inl (ih (by omega))
theorem bfs_end {N : Nat} {nx : Int → List Int} {a : Int} {D : List Int} (h : Bfs N nx a D []) (c : Int) (hc : 0 ≤ c ∧ c < N) (s : Nat) : ballB N nx a s c = decide (0 ≤ dAt D c ∧ dAt D c ≤ s) := by
  rw [Bool.eq_iff_iff, decide_eq_true_eq]
  constructor
  · intro hb
    induction s generalizing c with
    | zero =>
      simp only [ballB, decide_eq_true_eq] at hb
      subst hb
      have := h.a0; omega
    | succ s ih =>
      simp only [ballB, Bool.or_eq_true, List.any_eq_true, Bool.and_eq_true] at hb
      rcases hb with hb | ⟨b, hb1, hb2, hb3⟩
      · have := ih c hc hb; omega
      · have hbr := mem_cellsL.1 hb1
        have h1 := ih b hbr hb2
        rcases h.closed b hbr.1 hbr.2 h1.1 with h2 | h2
        · simp at h2
        · have := h2 c (by simpa using hb3); omega
  · rintro ⟨h1, h2⟩
    exact ballB_mono (h.sound c hc.1 hc.2 h1) (by omega)
/-- a number put to its place, once -/
def putI : List Int → Int → List Int
  | [], n => [n]
  | x :: l, n => if x < n then x :: putI l n else if x = n then x :: l else n :: x :: l
theorem putI_mem {n c : Int} : ∀ {l : List Int}, c ∈ putI l n ↔ c ∈ l ∨ c = n
  | [] => by simp [putI]
  | x :: l => by
    simp only [putI]
    split
    · rw [List.mem_cons, putI_mem (l := l), List.mem_cons, or_assoc]
    · split
      · rename_i h; subst h
        rw [List.mem_cons]
        constructor
        · intro h; exact .inl h
        · rintro (h | h)
          · exact h
          · exact .inl h
      · simp only [List.mem_cons]
        constructor
        · rintro (h | h | h)
          · exact .inr h
          · exact .inl (.inl h)
          · exact .inl (.inr h)
        · rintro ((h | h) | h)
          · exact .inr (.inl h)
          · exact .inr (.inr h)
          · exact .inl h
theorem putI_sorted {n : Int} : ∀ {l : List Int}, l.Pairwise (· < ·) → (putI l n).Pairwise (· < ·)
  | [], _ => List.pairwise_singleton _ _
  | x :: l, h => by
    have h1 := List.pairwise_cons.1 h
    simp only [putI]
    split
    · refine List.pairwise_cons.2 ⟨fun y hy => ?_, putI_sorted h1.2⟩
      rcases putI_mem.1 hy with hy | hy
      · exact h1.1 y hy
      · omega
    · split
      · exact h
      · refine List.pairwise_cons.2 ⟨fun y hy => ?_, h⟩
        rcases List.mem_cons.1 hy with hy | hy
        · omega
        · have := h1.1 y hy; omega
/-- the walk's form: the first place that is not before n -/
theorem putI_at {n : Int} : ∀ {l : List Int} {k : Nat}, k ≤ l.length → (∀ (j : Nat) (_ : j < l.length), j < k → l[j] < n) → (∀ (hk : k < l.length), n ≤ l[k]) →
    putI l n = if l[k]? = some n then l else l.take k ++ n :: l.drop k
  | [], k, hk, _, _ => by
    obtain rfl : k = 0 := by simpa using hk
    simp [putI]
  | x :: l, 0, _, _, h2 => by
    have h3 : n ≤ x := h2 (by simp)
    simp only [putI, if_neg (show ¬ x < n by omega), List.getElem?_cons_zero, Option.some.injEq, List.take_zero, List.nil_append, List.drop_zero]
  | x :: l, k + 1, hk, h1, h2 => by
    have h3 : x < n := h1 0 (by simp) (by omega)
    have ih := putI_at (n := n) (l := l) (k := k) (by simpa using hk) (fun j hj hjk => h1 (j + 1) (by simpa using hj) (by omega)) (fun hk => h2 (by simpa using hk))
    simp only [putI, if_pos h3, ih, List.getElem?_cons_succ, List.take_succ_cons, List.drop_succ_cons, List.cons_append]
    split <;> rfl
theorem putI_len {n : Int} : ∀ {l : List Int}, (putI l n).length ≤ l.length + 1
  | [] => by simp [putI]
  | x :: l => by
    have := putI_len (n := n) (l := l)
    simp only [putI]
    split
    · simpa using this
    · split <;> simp
/-- rising lists of the same members are the same -/
theorem rising_ext : ∀ {l m : List Int}, l.Pairwise (· < ·) → m.Pairwise (· < ·) → (∀ x, x ∈ l ↔ x ∈ m) → l = m
  | [], [], _, _, _ => rfl
  | [], y :: m, _, _, h => by have := (h y).2 (by simp); simp at this
  | x :: l, [], _, _, h => by have := (h x).1 (by simp); simp at this
  | x :: l, y :: m, hl, hm, h => by
    have h1 := List.pairwise_cons.1 hl
    have h2 := List.pairwise_cons.1 hm
    have hxy : x = y := by
      rcases List.mem_cons.1 ((h x).1 (by simp)) with e | e
      · exact e
      · rcases List.mem_cons.1 ((h y).2 (by simp)) with e' | e'
        · exact e'.symm
        · have := h1.1 y e'; have := h2.1 x e; omega
    subst hxy
    rw [rising_ext h1.2 h2.2 fun z => ?_]
    constructor
    · intro hz
      rcases List.mem_cons.1 ((h z).1 (by simp [hz])) with e | e
      · subst e; have := h1.1 z hz; omega
      · exact e
    · intro hz
      rcases List.mem_cons.1 ((h z).2 (by simp [hz])) with e | e
      · subst e; have := h2.1 z hz; omega
      · exact e
theorem cellsL_rising (N : Nat) : (cellsL N).Pairwise (· < ·) := by
  unfold cellsL
  rw [List.pairwise_map]
  exact List.pairwise_lt_range.imp fun h => by omega
theorem filter_sub {α : Type} {p q : α → Bool} : ∀ {l : List α}, (∀ x ∈ l, p x = true → q x = true) → (l.filter p).length ≤ (l.filter q).length ∧ ((l.filter q).length ≤ (l.filter p).length → ∀ x ∈ l, p x = q x)
  | [], _ => by simp
  | x :: l, h => by
    obtain ⟨h1, h2⟩ := filter_sub (p := p) (q := q) (l := l) fun y hy => h y (by simp [hy])
    have hx := h x (by simp)
    cases hp : p x <;> cases hq : q x
    · simp only [List.filter_cons, hp, hq, Bool.false_eq_true, if_false]
      refine ⟨h1, fun h3 y hy => ?_⟩
      rcases List.mem_cons.1 hy with rfl | hy
      · rw [hp, hq]
      · exact h2 h3 y hy
    · simp only [List.filter_cons, hp, hq, Bool.false_eq_true, if_false, if_true, List.length_cons]
      exact ⟨by omega, fun h3 => absurd h3 (by omega)⟩
    · rw [hp, hq] at hx; exact absurd (hx rfl) (by decide)
    · simp only [List.filter_cons, hp, hq, if_true, List.length_cons]
      refine ⟨by omega, fun h3 y hy => ?_⟩
      rcases List.mem_cons.1 hy with rfl | hy
      · rw [hp, hq]
      · exact h2 (by omega) y hy
/-- the cells within s steps, rising -/
def fieldL (N : Nat) (nx : Int → List Int) (a : Int) (s : Nat) : List Int := (cellsL N).filter (ballB N nx a s)
theorem fieldL_rising (N : Nat) (nx : Int → List Int) (a : Int) (s : Nat) : (fieldL N nx a s).Pairwise (· < ·) := (cellsL_rising N).filter _
theorem fieldL_len (N : Nat) (nx : Int → List Int) (a : Int) (s : Nat) : (fieldL N nx a s).length ≤ N := by
  unfold fieldL
  exact Nat.le_trans (List.length_filter_le _ _) (by simp [cellsL])
theorem mem_fieldL {N : Nat} {nx : Int → List Int} {a : Int} {s : Nat} {c : Int} : c ∈ fieldL N nx a s ↔ (0 ≤ c ∧ c < N) ∧ ballB N nx a s c = true := by
  unfold fieldL
  rw [List.mem_filter, mem_cellsL]
theorem fieldL_zero {N : Nat} {nx : Int → List Int} {a : Int} (h : 0 ≤ a ∧ a < N) : fieldL N nx a 0 = [a] :=
  rising_ext (fieldL_rising _ _ _ _) (List.pairwise_singleton _ _) fun x => by
    rw [mem_fieldL, List.mem_singleton]
    simp only [ballB, decide_eq_true_eq]
    constructor
    · exact fun h => h.2
    · rintro rfl; exact ⟨h, rfl⟩
theorem fieldL_succ_mem {N : Nat} {nx : Int → List Int} {a : Int} (hnx : ∀ b, ∀ x ∈ nx b, 0 ≤ x ∧ x < N) {s : Nat} {c : Int} : c ∈ fieldL N nx a (s + 1) ↔ c ∈ fieldL N nx a s ∨ ∃ b ∈ fieldL N nx a s, c ∈ nx b := by
  simp only [mem_fieldL, ballB, Bool.or_eq_true, List.any_eq_true, Bool.and_eq_true, mem_cellsL, List.contains_iff_mem]
  constructor
  · rintro ⟨h1, h2 | ⟨b, h2, h3, h4⟩⟩
    · exact .inl ⟨h1, h2⟩
    · exact .inr ⟨b, ⟨h2, h3⟩, h4⟩
  · rintro (⟨h1, h2⟩ | ⟨b, ⟨h2, h3⟩, h4⟩)
    · exact ⟨h1, .inl h2⟩
    · exact ⟨hnx b c h4, .inr ⟨b, h2, h3, h4⟩⟩
/-- a field that does not grow in one step grows no more -/
theorem fieldL_stop {N : Nat} {nx : Int → List Int} {a : Int} {s : Nat} (h : (fieldL N nx a (s + 1)).length ≤ (fieldL N nx a s).length) {t : Nat} (ht : s ≤ t) : fieldL N nx a t = fieldL N nx a s := by
  have h1 : ∀ c ∈ cellsL N, ballB N nx a s c = ballB N nx a (s + 1) c := (filter_sub (p := ballB N nx a s) (q := ballB N nx a (s + 1)) fun x _ hx => ballB_mono hx (by omega)).2 h
  have h2 : ∀ u, ∀ c ∈ cellsL N, ballB N nx a (s + u) c = ballB N nx a s c := by
    intro u
    induction u with
    | zero => exact fun _ _ => rfl
    | succ u ih =>
      intro c hc
      have h3 := h1 c hc
      rw [h3, ← Nat.add_assoc]
      simp only [ballB]
      rw [ih c hc]
      congr 1
      rw [Bool.eq_iff_iff, List.any_eq_true, List.any_eq_true]
      constructor
      · rintro ⟨b, hb, h4⟩
        exact ⟨b, hb, by rwa [ih b hb] at h4⟩
      · rintro ⟨b, hb, h4⟩
        exact ⟨b, hb, by rwa [ih b hb]⟩
  unfold fieldL
  refine List.filter_congr fun c hc => ?_
  have := h2 (t - s) c hc
  rwa [show s + (t - s) = t by omega] at this

end Go.Proofs.YtkchdhmnomelkaaGreat
