/- Joined texts of this proof: Bfs, Copy, Nest2, Nest3, NewC, EntT. -/
import Derived.Test.YtflpcdffmpfdpaaGreatDoorP02
namespace Go.Proofs.YtflpcdffmpfdpaaGreatDoor
/-- the cells of numbers 0 .. N-1 -/
def cellsL (N : Nat) : List Int := (List.range N).map fun i : Nat => (i : Int)
theorem mem_cellsL {N : Nat} {c : Int} : c ∈ cellsL N ↔ 0 ≤ c ∧ c < N := by
  unfold cellsL
  rw [List.mem_map]
  constructor
  · rintro ⟨i, hi, rfl⟩
    have := List.mem_range.1 hi
    omega
  · rintro ⟨h1, h2⟩
    exact ⟨c.toNat, List.mem_range.2 (by omega), by omega⟩
/-- the cells within s steps of a -/
def ballB (N : Nat) (nx : Int → List Int) (a : Int) : Nat → Int → Bool
  | 0, c => decide (c = a)
  | s + 1, c => ballB N nx a s c || (cellsL N).any fun b => ballB N nx a s b && (nx b).contains c
def dAt (D : List Int) (c : Int) : Int := D.getD c.toNat 0
structure Bfs (N : Nat) (nx : Int → List Int) (a : Int) (D Q : List Int) : Prop where
  len : D.length = N
  qin : ∀ q ∈ Q, (0 ≤ q ∧ q < N) ∧ 0 ≤ dAt D q
  rng : ∀ c : Int, 0 ≤ c → c < N → -1 ≤ dAt D c
  a0 : dAt D a = 0
  sound : ∀ c : Int, 0 ≤ c → c < N → 0 ≤ dAt D c → ballB N nx a (dAt D c).toNat c = true
  sorted : Q.Pairwise fun x y => dAt D x ≤ dAt D y
  top : ∀ q ∈ Q, ∀ c : Int, 0 ≤ c → c < N → dAt D c ≤ dAt D q + 1
  closed : ∀ c : Int, 0 ≤ c → c < N → 0 ≤ dAt D c → c ∈ Q ∨ ∀ k ∈ nx c, 0 ≤ dAt D k ∧ dAt D k ≤ dAt D c + 1
def unmarked (D : List Int) : Nat := (D.filter fun x => decide (x < 0)).length
/-- within the round of q: the first j cells beside q are marked -/
structure BfsIn (N : Nat) (nx : Int → List Int) (a : Int) (q : Int) (j : Nat) (D Q : List Int) : Prop where
  inv : Bfs N nx a D (q :: Q)
  done : ∀ k ∈ (nx q).take j, 0 ≤ dAt D k ∧ dAt D k ≤ dAt D q + 1

theorem dAt_set_self {D : List Int} {c x : Int} (h0 : 0 ≤ c) (h : c < D.length) : dAt (D.set c.toNat x) c = x := by
  unfold dAt
  rw [List.getD_eq_getElem?_getD, List.getElem?_set_self (by omega)]; rfl
theorem dAt_set_ne {D : List Int} {c d x : Int} (hc : 0 ≤ c) (hd : 0 ≤ d) (h : d ≠ c) : dAt (D.set c.toNat x) d = dAt D d := by
  unfold dAt
  rw [List.getD_eq_getElem?_getD, List.getElem?_set_ne (by omega), List.getD_eq_getElem?_getD]
theorem unmarked_set : ∀ {D : List Int} {i : Nat} {x : Int}, (h : i < D.length) → D[i] < 0 → 0 ≤ x → unmarked (D.set i x) + 1 = unmarked D
  | y :: D, 0, x, _, hy, hx => by
    simp only [List.getElem_cons_zero] at hy
    simp only [unmarked, List.set_cons_zero, List.filter_cons]
    rw [if_neg (by simp; omega), if_pos (by simpa using hy)]
    simp
  | y :: D, i + 1, x, h, hy, hx => by
    have ih := unmarked_set (D := D) (i := i) (x := x) (by simpa using h) (by simpa using hy) hx
    unfold unmarked at ih ⊢
    simp only [List.set_cons_succ, List.filter_cons]
    split
    · simp only [List.length_cons]; omega
    · exact ih
theorem dAt_get {D : List Int} {c : Int} (h : c.toNat < D.length) : dAt D c = D[c.toNat] := by
  unfold dAt
  rw [List.getD_eq_getElem?_getD, List.getElem?_eq_getElem h]; rfl

/-- a cell that is marked already -/
theorem bfsIn_old {N : Nat} {nx : Int → List Int} {a q k : Int} {D Q : List Int} {j : Nat} (h : BfsIn N nx a q j D Q) (hj : j < (nx q).length) (hk : (nx q)[j] = k) (hr : 0 ≤ k ∧ k < N) (hD : 0 ≤ dAt D k) : BfsIn N nx a q (j + 1) D Q := by
  refine ⟨h.inv, fun x hx => ?_⟩
  rw [List.take_succ_eq_append_getElem hj, hk, List.mem_append] at hx
  rcases hx with hx | hx
  · exact h.done x hx
  · obtain rfl := List.mem_singleton.1 hx
    exact ⟨hD, h.inv.top q (by simp) x hr.1 hr.2⟩
/-- a cell that is not marked -/
theorem bfsIn_new {N : Nat} {nx : Int → List Int} {a q k : Int} {D Q : List Int} {j : Nat} (hnx : ∀ b, ∀ x ∈ nx b, 0 ≤ x ∧ x < N) (h : BfsIn N nx a q j D Q) (hj : j < (nx q).length) (hk : (nx q)[j] = k) (hD : dAt D k < 0) :
    BfsIn N nx a q (j + 1) (D.set k.toNat (dAt D q + 1)) (Q ++ [k]) ∧ unmarked (D.set k.toNat (dAt D q + 1)) + (Q ++ [k]).length = unmarked D + Q.length := by
  have i := h.inv
  have hkm : k ∈ nx q := by rw [← hk]; exact List.getElem_mem hj
  obtain ⟨k0, kN⟩ := hnx q k hkm
  obtain ⟨⟨q0, qN⟩, qD⟩ := i.qin q (by simp)
  have hl := i.len
  have hs : dAt (D.set k.toNat (dAt D q + 1)) k = dAt D q + 1 := dAt_set_self k0 (by omega)
  have hn : ∀ c : Int, 0 ≤ c → c ≠ k → dAt (D.set k.toNat (dAt D q + 1)) c = dAt D c := fun c hc hne => dAt_set_ne k0 hc hne
  have hqk : q ≠ k := by rintro rfl; omega
  have hmark : ∀ c : Int, 0 ≤ c → 0 ≤ dAt D c → dAt (D.set k.toNat (dAt D q + 1)) c = dAt D c := fun c hc hd => hn c hc (by rintro rfl; omega)
  have hqq := hn q q0 hqk
  have hsort := List.pairwise_cons.1 i.sorted
  have htop := i.top q (by simp)
  have hb : ballB N nx a ((dAt D q).toNat + 1) k = true := by
    have h1 := i.sound q q0 qN qD
    simp only [ballB, Bool.or_eq_true, List.any_eq_true, Bool.and_eq_true]
    exact .inr ⟨q, mem_cellsL.2 ⟨q0, qN⟩, h1, by simpa using hkm⟩
  have hQ : ∀ x ∈ q :: Q, 0 ≤ x ∧ x ≠ k := fun x hx => by
    obtain ⟨⟨h1, _⟩, h2⟩ := i.qin x hx
    exact ⟨h1, by rintro rfl; omega⟩
  refine ⟨⟨⟨by rw [List.length_set]; exact hl, fun x hx => ?_, fun c h1 h2 => ?_, ?_, fun c h1 h2 h3 => ?_, ?_, fun x hx c h1 h2 => ?_, fun c h1 h2 h3 => ?_⟩, fun x hx => ?_⟩, ?_⟩
  · rw [← List.cons_append, List.mem_append] at hx
    rcases hx with hx | hx
    · obtain ⟨h1, h2⟩ := hQ x hx
      rw [hn x h1 h2]; exact i.qin x hx
    · obtain rfl := List.mem_singleton.1 hx
      exact ⟨⟨k0, kN⟩, by omega⟩
  · by_cases e : c = k
    · subst e; omega
    · rw [hn c h1 e]; exact i.rng c h1 h2
  · have ha := i.a0
    by_cases e : a = k
    · subst e; omega
    · by_cases ha0 : 0 ≤ a
      · rw [hn a ha0 e]; exact ha
      · unfold dAt at ha ⊢
        by_cases e0 : k.toNat = a.toNat
        · have : k = 0 := by omega
          subst this
          have : dAt D 0 = 0 := by unfold dAt; rw [e0]; exact ha
          omega
        · rw [List.getD_eq_getElem?_getD, List.getElem?_set_ne e0, ← List.getD_eq_getElem?_getD]; exact ha
  · by_cases e : c = k
    · subst e
      rw [hs, show (dAt D q + 1).toNat = (dAt D q).toNat + 1 by omega]; exact hb
    · rw [hn c h1 e] at h3 ⊢; exact i.sound c h1 h2 h3
  · rw [← List.cons_append, List.pairwise_append]
    refine ⟨i.sorted.imp_of_mem fun {x y} hx hy hxy => ?_, List.pairwise_singleton _ _, fun x hx y hy => ?_⟩
    · rw [hn x (hQ x hx).1 (hQ x hx).2, hn y (hQ y hy).1 (hQ y hy).2]; exact hxy
    · obtain rfl := List.mem_singleton.1 hy
      rw [hn x (hQ x hx).1 (hQ x hx).2, hs]
      obtain ⟨⟨x0, xN⟩, _⟩ := i.qin x hx
      exact htop x x0 xN
  · have hc' : dAt (D.set k.toNat (dAt D q + 1)) c ≤ dAt D q + 1 := by
      by_cases e : c = k
      · subst e; omega
      · rw [hn c h1 e]; exact htop c h1 h2
    rw [← List.cons_append, List.mem_append] at hx
    rcases hx with hx | hx
    · rw [hn x (hQ x hx).1 (hQ x hx).2]
      rcases List.mem_cons.1 hx with rfl | hx
      · exact hc'
      · have := hsort.1 x hx; omega
    · obtain rfl := List.mem_singleton.1 hx
      omega
  · by_cases e : c = k
    · subst e; exact .inl (by simp)
    · rw [hn c h1 e] at h3
      rcases i.closed c h1 h2 h3 with h4 | h4
      · refine .inl ?_
        rw [← List.cons_append, List.mem_append]; exact .inl h4
      · refine .inr fun x hx => ?_
        obtain ⟨h5, h6⟩ := h4 x hx
        rw [hmark x (hnx c x hx).1 h5, hn c h1 e]; exact ⟨h5, h6⟩
  · rw [List.take_succ_eq_append_getElem hj, hk, List.mem_append] at hx
    rcases hx with hx | hx
    · obtain ⟨h5, h6⟩ := h.done x hx
      rw [hmark x (hnx q x (List.mem_of_mem_take hx)).1 h5, hqq]; exact ⟨h5, h6⟩
    · obtain rfl := List.mem_singleton.1 hx
      rw [hs, hqq]; omega
  · have h7 := unmarked_set (D := D) (i := k.toNat) (x := dAt D q + 1) (by omega) (by rw [← dAt_get (by omega)]; exact hD) (by omega)
    rw [List.length_append]; simp; omega
theorem ballB_mono {N : Nat} {nx : Int → List Int} {a c : Int} {s t : Nat} (h : ballB N nx a s c = true) (hst : s ≤ t) : ballB N nx a t c = true := by
  induction t with
  | zero => obtain rfl : s = 0 := by omega
            exact h
  | succ t ih =>
    by_cases e : s = t + 1
    · subst e; exact h
    · simp only [ballB, Bool.or_eq_true]
      exact .inl (ih (by omega))
/-- a number put to its place, once -/
def putI : List Int → Int → List Int
  | [], n => [n]
  | x :: l, n => if x < n then x :: putI l n else if x = n then x :: l else n :: x :: l
/-- the walk's form: the first place that is not before n -/
theorem putI_at {n : Int} : ∀ {l : List Int} {k : Nat}, k ≤ l.length → (∀ (j : Nat) (_ : j < l.length), j < k → l[j] < n) → (∀ (hk : k < l.length), n ≤ l[k]) →
    putI l n = if l[k]? = some n then l else l.take k ++ n :: l.drop k
  | [], k, hk, _, _ => by
    obtain rfl : k = 0 := by simpa using hk
    simp [putI]
  | x :: l, 0, _, _, h2 => by
    have h3 : n ≤ x := h2 (by simp)
    simp only [putI, if_neg (show ¬ x < n by omega), List.getElem?_cons_zero, Option.some.injEq, List.take_zero, List.nil_append, List.drop_zero]
  | x :: l, k + 1, hk, h1, h2 => by
    have h3 : x < n := h1 0 (by simp) (by omega)
    have ih := putI_at (n := n) (l := l) (k := k) (by simpa using hk) (fun j hj hjk => h1 (j + 1) (by simpa using hj) (by omega)) (fun hk => h2 (by simpa using hk))
    simp only [putI, if_pos h3, ih, List.getElem?_cons_succ, List.take_succ_cons, List.drop_succ_cons, List.cons_append]
    split <;> rfl
/-- rising lists of the same members are the same -/
theorem rising_ext : ∀ {l m : List Int}, l.Pairwise (· < ·) → m.Pairwise (· < ·) → (∀ x, x ∈ l ↔ x ∈ m) → l = m
  | [], [], _, _, _ => rfl
  | [], y :: m, _, _, h => by have := (h y).2 (by simp); simp at this
  | x :: l, [], _, _, h => by have := (h x).1 (by simp); simp at this
  | x :: l, y :: m, hl, hm, h => by
    have h1 := List.pairwise_cons.1 hl
    have h2 := List.pairwise_cons.1 hm
    have hxy : x = y := by
      rcases List.mem_cons.1 ((h x).1 (by simp)) with e | e
      · exact e
      · rcases List.mem_cons.1 ((h y).2 (by simp)) with e' | e'
        · exact e'.symm
        · have := h1.1 y e'; have := h2.1 x e; omega
    subst hxy
    rw [rising_ext h1.2 h2.2 fun z => ?_]
    constructor
    · intro hz
      rcases List.mem_cons.1 ((h z).1 (by simp [hz])) with e | e
      · subst e; have := h1.1 z hz; omega
      · exact e
    · intro hz
      rcases List.mem_cons.1 ((h z).2 (by simp [hz])) with e | e
      · subst e; have := h2.1 z hz; omega
      · exact e
theorem filter_sub {α : Type} {p q : α → Bool} : ∀ {l : List α}, (∀ x ∈ l, p x = true → q x = true) → (l.filter p).length ≤ (l.filter q).length ∧ ((l.filter q).length ≤ (l.filter p).length → ∀ x ∈ l, p x = q x)
  | [], _ => by simp
  | x :: l, h => by
    obtain ⟨h1, h2⟩ := filter_sub (p := p) (q := q) (l := l) fun y hy => h y (by simp [hy])
    have hx := h x (by simp)
    cases hp : p x <;> cases hq : q x
    · simp only [List.filter_cons, hp, hq, Bool.false_eq_true, if_false]
      refine ⟨h1, fun h3 y hy => ?_⟩
      rcases List.mem_cons.1 hy with rfl | hy
      · rw [hp, hq]
      · exact h2 h3 y hy
    · simp only [List.filter_cons, hp, hq, Bool.false_eq_true, if_false, if_true, List.length_cons]
      exact ⟨by omega, fun h3 => absurd h3 (by omega)⟩
    · rw [hp, hq] at hx; exact absurd (hx rfl) (by decide)
    · simp only [List.filter_cons, hp, hq, if_true, List.length_cons]
      refine ⟨by omega, fun h3 y hy => ?_⟩
      rcases List.mem_cons.1 hy with rfl | hy
      · rw [hp, hq]
      · exact h2 (by omega) y hy
/-- the cells within s steps, rising -/
def fieldL (N : Nat) (nx : Int → List Int) (a : Int) (s : Nat) : List Int := (cellsL N).filter (ballB N nx a s)
/-- a field that does not grow in one step grows no more -/
theorem fieldL_stop {N : Nat} {nx : Int → List Int} {a : Int} {s : Nat} (h : (fieldL N nx a (s + 1)).length ≤ (fieldL N nx a s).length) {t : Nat} (ht : s ≤ t) : fieldL N nx a t = fieldL N nx a s := by
  have h1 : ∀ c ∈ cellsL N, ballB N nx a s c = ballB N nx a (s + 1) c := (filter_sub (p := ballB N nx a s) (q := ballB N nx a (s + 1)) fun x _ hx => ballB_mono hx (by omega)).2 h
  have h2 : ∀ u, ∀ c ∈ cellsL N, ballB N nx a (s + u) c = ballB N nx a s c := by
    intro u
    induction u with
    | zero => exact fun _ _ => rfl
    | succ u ih =>
      intro c hc
      have h3 := h1 c hc
      rw [h3, ← Nat.add_assoc]
      simp only [ballB]
      rw [ih c hc]
      congr 1
      rw [Bool.eq_iff_iff, List.any_eq_true, List.any_eq_true]
      constructor
      · rintro ⟨b, hb, h4⟩
        exact ⟨b, hb, by rwa [ih b hb] at h4⟩
      · rintro ⟨b, hb, h4⟩
        exact ⟨b, hb, by rwa [ih b hb]⟩
  unfold fieldL
  refine List.filter_congr fun c hc => ?_
  have := h2 (t - s) c hc
  rwa [show s + (t - s) = t by omega] at this

end Go.Proofs.YtflpcdffmpfdpaaGreatDoor

namespace Go.Proofs.YtflpcdffmpfdpaaGreatDoor
open Go.RowKit

end Go.Proofs.YtflpcdffmpfdpaaGreatDoor

namespace Go.Proofs.YtflpcdffmpfdpaaGreatDoor
open Go.RowKit

section
variable {α : Type} {sh : Sh α} {w w' : World} {S : Nat → Prop} {n c t ti g : Nat} {A : Option Addr} {rs : List (Hd α)} {xs : List α}
theorem MineR.count (h : MineR sh w S t ti A n c rs) : rs.length = n := h.outer.sees.count sh.pos sh.len
theorem MineR.next (h : MineR sh w S t ti A n c rs) (hb : Below w.heap.size w w') : MineR sh w' S t ti A n c rs := ⟨h.outer.next hb, h.inners.next hb, h.apart⟩
theorem MineR.wide {T : Nat → Prop} (h : MineR sh w S t ti A n c rs) (hS : ∀ b, S b → T b) : MineR sh w T t ti A n c rs := ⟨h.outer.wide hS, h.inners.wide hS, h.apart⟩
theorem MineR.only {T : Nat → Prop} (h : MineR sh w S t ti A n c rs) (ho : Only T w w') (hS : ∀ b, S b → T b → False) : MineR sh w' S t ti A n c rs := ⟨h.outer.only ho hS, h.inners.only ho hS, h.apart⟩
theorem MineR.made (h : MineR sh w S t ti A n c rs) : MineN sh w S t ti A n c (rs.map Hd.x) := ⟨rs, rfl, h⟩
theorem MineR.sees (h : MineR sh w S t ti A n c rs) : SeesN sh w 0 A n (rs.map Hd.x) := h.made.sees
/-- Its block is known whole. -/
theorem MineR.block (h : MineR sh w S t ti A n c rs) (hn : 0 < n) : ∃ (g : Nat) (cur : List Value), A = some ⟨g, 0, none⟩ ∧ S g ∧ Blk w g t cur ∧ cur.length = c * sh.s ∧ n * sh.s ≤ cur.length ∧ ∀ (k j : Nat) (hk : k < rs.length), j < sh.s → cur[k * sh.s + j]? = (sh.enc rs[k])[j]? := by
  have hl := h.count
  rcases own_open h.outer.own with ⟨_, h0, _, _⟩ | ⟨g, cur, rfl, _, hB, hcl, hnc, _, htk⟩
  · omega
  · refine ⟨g, cur, rfl, h.outer.top g rfl, hB, hcl, by rw [hcl]; exact Nat.mul_le_mul_right _ hnc, fun k j hk hj => ?_⟩
    have h1 := heads_get (sh := sh) rs k j hk hj
    have h2 : k * sh.s + j < n * sh.s := by
      have : (k + 1) * sh.s ≤ n * sh.s := Nat.mul_le_mul_right _ (by omega)
      rw [Nat.succ_mul] at this
      omega
    rw [← h1, ← htk, List.getElem?_take, if_pos h2]
/-- One element's cells have turned; its slice is as it was. -/
theorem MineR.turn {cur cs' : List Value} {k : Nat} (h : MineR sh w S t ti (some ⟨g, 0, none⟩) n c rs) (hB : Blk w g t cur) (hk : k < rs.length) (y : α) (hy : sh.inner y = sh.inner rs[k].x)
    (ho : Only (fun b => b = g) w w') (hB' : Blk w' g t cs') (hl : cs'.length = cur.length) (hin : ∀ j, j < sh.s → cs'[k * sh.s + j]? = (sh.enc ⟨y, rs[k].A, rs[k].n, rs[k].c⟩)[j]?) (hout : ∀ j, ¬ (k * sh.s ≤ j ∧ j < k * sh.s + sh.s) → cs'[j]? = cur[j]?) :
    MineR sh w' S t ti (some ⟨g, 0, none⟩) n c (rs.set k ⟨y, rs[k].A, rs[k].n, rs[k].c⟩) := by
  have hlen := h.count
  rcases own_open h.outer.own with ⟨h0, _⟩ | ⟨g', cur', e, _, hB2, hcl, hnc, hcm, htk⟩
  · cases h0
  · injection e with e
    injection e with e1 _ _
    subst e1
    have ec : cur' = cur := by
      have h3 := hB.symm.trans hB2
      simp only [Option.some.injEq, Obj.cells.injEq, and_true] at h3
      exact (List.toArray_inj h3).symm
    subst ec
    have hin' := h.inners.onlyA ho (fun r hr b h1 h2 => h.apart r hr b h1 (by simp [OwnB, Value.ownBlock]; exact h2.symm))
    refine ⟨⟨own_shut (Nat.zero_le _) hB' (hl.trans hcl) hnc hcm ?_, h.outer.top⟩, hin'.set hk y (Only.refl _ _) ?_, fun r hr b hb hb2 => ?_⟩
    · rw [← hlen] at htk ⊢
      exact heads_set hk _ htk hin hout
    · have := (hin'.each rs[k] (List.getElem_mem hk)).exact_
      rw [hy]; exact this
    · rcases List.mem_or_eq_of_mem_set hr with hr | rfl
      · exact h.apart r hr b hb hb2
      · exact h.apart rs[k] (List.getElem_mem hk) b hb hb2
end

end Go.Proofs.YtflpcdffmpfdpaaGreatDoor

namespace Go.Proofs.YtflpcdffmpfdpaaGreatDoor
open Go.RowKit

section
variable {α : Type} {sh : Sh α} {w w1 w2 w3 w' : World} {S : Nat → Prop} {n c t ti g : Nat} {A : Option Addr} {rs : List (Hd α)} {xs : List α}
theorem Mine.inn {B t s n c : Nat} {A : Option Addr} {cs : List Value} (h : Mine w (fun b => B ≤ b) t s A n c cs) : Mine w (In B w.heap.size) t s A n c cs := ⟨h.own, fun b hb => ⟨h.top b hb, h.lt b hb⟩⟩
theorem MineR.inn {B : Nat} (h : MineR sh w (fun b => B ≤ b) t ti A n c rs) : MineR sh w (In B w.heap.size) t ti A n c rs :=
  ⟨h.outer.inn, ⟨fun r hr => (h.inners.each r hr).inn, h.inners.pair⟩, h.apart⟩
/-- One element more: its slice in a block of its own, from g on; the outer slice grown. -/
theorem nest_snoc {B g g0 : Nat} {D : Nat → Prop} {A2 B1 : Option Addr} {m d : Nat} {x : α}
    (hin : Inners sh w1 (In B g) ti rs) (hap : ∀ r ∈ rs, ∀ b, OwnB r.A b → ¬ OwnB A b) (hg : ∀ b, OwnB A b → b < g)
    (ho : w1.ownsRow g0 ti sh.is (.slice B1 m d) m (sh.inner x)) (hD : ∀ b, D b → g ≤ b ∧ b < g0) (hg0 : g ≤ g0) (h2 : Only D w1 w2) (h3 : Only (OwnB A) w2 w3) (hat : ∀ b, OwnB A2 b → OwnB A b ∨ w2.heap.size ≤ b) (hB : B ≤ g) (hg1 : g ≤ w1.heap.size) :
    Inners sh w3 (In B w3.heap.size) ti (rs ++ [⟨x, B1, m, d⟩]) ∧ ∀ r ∈ rs ++ [(⟨x, B1, m, d⟩ : Hd α)], ∀ b, OwnB r.A b → ¬ OwnB A2 b := by
  have z2 := h2.size
  have z3 := h3.size
  have i3 := (hin.only h2 (fun b h4 h5 => by have := h4.2; have := hD b h5; omega)).onlyA h3 hap
  have m2 : Mine w3 (In g0 w1.heap.size) ti sh.is B1 m d (sh.inner x) := ((Mine.of ho).only h2 (fun b h4 h5 => by have := h4.1; have := hD b h5; omega)).only h3 (fun b h4 h5 => by have := h4.1; have := hg b h5; omega)
  refine ⟨(i3.snoc m2 (fun b h4 h5 => by have := h4.2; have := h5.1; omega)).wide fun b h4 => ?_, fun r hr b hb hb2 => ?_⟩
  · rcases h4 with h4 | h4
    · exact ⟨h4.1, by have := h4.2; omega⟩
    · exact ⟨by have := h4.1; omega, by have := h4.2; omega⟩
  · rcases List.mem_append.1 hr with hr | hr
    · have h5 := (hin.each r hr).top b hb
      rcases hat b hb2 with h6 | h6
      · exact hap r hr b hb h6
      · have := h5.2; omega
    · obtain rfl := List.mem_singleton.1 hr
      have h5 := own_top ho hb
      rcases hat b hb2 with h6 | h6
      · have := hg b h6; omega
      · omega
theorem set_flatMap {β γ : Type} (f : β → List γ) : ∀ (l : List β) (k : Nat) (y : β) (hk : k < l.length), f y = f l[k] → (l.set k y).flatMap f = l.flatMap f
  | [], _, _, hk, _ => absurd hk (by simp)
  | x :: l, 0, y, _, h => by simp only [List.set_cons_zero, List.flatMap_cons]; rw [h]; rfl
  | x :: l, k + 1, y, hk, h => by simp only [List.set_cons_succ, List.flatMap_cons]; rw [set_flatMap f l k y (by simpa using hk) (by simpa using h)]
/-- The cells of one element's slice have turned. -/
theorem MineR.within {k : Nat} (h : MineR sh w S t ti A n c rs) (hk : k < rs.length) (y : α) (he : sh.enc ⟨y, rs[k].A, rs[k].n, rs[k].c⟩ = sh.enc rs[k]) (ho : Only (OwnB rs[k].A) w w') (hm : Mine w' (OwnB rs[k].A) ti sh.is rs[k].A rs[k].n rs[k].c (sh.inner y)) :
    MineR sh w' S t ti A n c (rs.set k ⟨y, rs[k].A, rs[k].n, rs[k].c⟩) := by
  refine ⟨?_, h.inners.set hk y ho hm, fun r hr b hb hb2 => ?_⟩
  · rw [set_flatMap _ _ _ _ hk he]
    exact (h.outer.exact_.only ho (fun b h1 h2 => h.apart rs[k] (List.getElem_mem hk) b h2 h1)).wide fun b hb => h.outer.top b hb
  · rcases List.mem_or_eq_of_mem_set hr with hr | rfl
    · exact h.apart r hr b hb hb2
    · exact h.apart rs[k] (List.getElem_mem hk) b hb hb2
/-- One element's slice is exchanged for another one of the call's own, in a block of its own. -/
theorem MineR.swap {cur cs' : List Value} {k : Nat} {r : Hd α} {D : Nat → Prop} (h : MineR sh w S t ti (some ⟨g, 0, none⟩) n c rs) (hB : Blk w g t cur) (hk : k < rs.length)
    (ho : Only (fun b => b = g) w w') (hB' : Blk w' g t cs') (hl : cs'.length = cur.length) (hin : ∀ j, j < sh.s → cs'[k * sh.s + j]? = (sh.enc r)[j]?) (hout : ∀ j, ¬ (k * sh.s ≤ j ∧ j < k * sh.s + sh.s) → cs'[j]? = cur[j]?)
    (hr : Mine w' D ti sh.is r.A r.n r.c (sh.inner r.x)) (hD : ∀ b, D b → S b) (hDg : ¬ D g) (hDi : ∀ r' ∈ rs, ∀ b, OwnB r'.A b → ¬ D b) :
    MineR sh w' S t ti (some ⟨g, 0, none⟩) n c (rs.set k r) := by
  have hlen := h.count
  rcases own_open h.outer.own with ⟨h0, _⟩ | ⟨g', cur', e, _, hB2, hcl, hnc, hcm, htk⟩
  · cases h0
  · injection e with e
    injection e with e1 _ _
    subst e1
    have ec : cur' = cur := by
      have h3 := hB.symm.trans hB2
      simp only [Option.some.injEq, Obj.cells.injEq, and_true] at h3
      exact (List.toArray_inj h3).symm
    subst ec
    have hin' := h.inners.onlyA ho (fun r hr b h1 h2 => h.apart r hr b h1 (by simp [OwnB, Value.ownBlock]; exact h2.symm))
    have hp := List.pairwise_iff_getElem.1 h.inners.pair
    refine ⟨⟨own_shut (Nat.zero_le _) hB' (hl.trans hcl) hnc hcm ?_, h.outer.top⟩, ⟨fun r' hr' => ?_, List.pairwise_iff_getElem.2 fun i j hi hj hij b hb hb' => ?_⟩, fun r' hr' b hb hb2 => ?_⟩
    · rw [← hlen] at htk ⊢
      exact heads_set hk _ htk hin hout
    · rcases List.mem_or_eq_of_mem_set hr' with hr' | rfl
      · exact hin'.each r' hr'
      · exact hr.wide hD
    · rw [List.length_set] at hi hj
      rw [List.getElem_set] at hb hb'
      by_cases hki : k = i
      · subst hki
        rw [if_pos rfl] at hb
        rw [if_neg (by omega)] at hb'
        exact hDi rs[j] (List.getElem_mem hj) b hb' (hr.top b hb)
      · rw [if_neg hki] at hb
        by_cases hkj : k = j
        · subst hkj
          rw [if_pos rfl] at hb'
          exact hDi rs[i] (List.getElem_mem hi) b hb (hr.top b hb')
        · rw [if_neg hkj] at hb'
          exact hp i j hi hj hij b hb hb'
    · rcases List.mem_or_eq_of_mem_set hr' with hr' | rfl
      · exact h.apart r' hr' b hb hb2
      · simp only [OwnB, Value.ownBlock, Option.some.injEq] at hb2
        subst hb2
        exact hDg (hr.top _ hb)
end

end Go.Proofs.YtflpcdffmpfdpaaGreatDoor

namespace Go.Proofs.YtflpcdffmpfdpaaGreatDoor
open Go.RowKit

theorem punch_all (xs : List Punch) : (xs.flatMap Punch.enc).all Value.oneCell' = true := by
  rw [List.all_eq_true]
  intro v hv
  obtain ⟨x, _, h⟩ := List.mem_flatMap.1 hv
  simp only [Punch.enc, List.mem_cons, List.not_mem_nil, or_false] at h
  rcases h with rfl | rfl <;> rfl
/-- A card, its punches in memory of the call's own. -/
def GivesCard (w : World) (x : Card) (n : Nat) (e : Ending) (w' : World) : Prop :=
  ∃ B d, e = .returned (.agg #[.int .i64 x.number, .int .i64 x.start, .int .i64 x.finish, .slice B n d]) ∧ w'.ownsRow w.heap.size 188 2 (.slice B n d) n (x.punches.flatMap Punch.enc) ∧ Below w.heap.size w w'
/-- Cards in memory of the call's own. -/
def GivesCards (w : World) (xs : List Card) (e : Ending) (w' : World) : Prop :=
  ∃ A c, e = .returned (.slice A xs.length c) ∧ MineN cardSh w' (In w.heap.size w'.heap.size) 106 188 A xs.length c xs ∧ Below w.heap.size w w'

set_option maxRecDepth 100000 in
set_option maxHeartbeats 1000000 in
theorem newCard_any (A : Option Addr) (n c lo : Nat) (x : Card) (w : World) (hx : Sees w lo 2 A n (x.punches.flatMap Punch.enc)) (hn : n ≤ 1048576) :
    Calls Tryz.prog 131 #[.agg #[.int .i64 x.number, .int .i64 x.start, .int .i64 x.finish, .slice A n c]] w (GivesCard w x n) := by
  have K0 : Below w.heap.size w (((w.alloc (.cells #[.int .i64 x.number, .int .i64 x.start, .int .i64 x.finish, .slice A n c] 106)).alloc (.cells #[.int .i64 0, .int .i64 0, .int .i64 0, .slice none 0 0] 106)).alloc (.cells #[] 188)) := (((Below.refl w.heap.size w).alloc (Nat.le_refl _) _).alloc (by simp) _).alloc (by simp; omega) _
  have P0 : Blk (((w.alloc (.cells #[.int .i64 x.number, .int .i64 x.start, .int .i64 x.finish, .slice A n c] 106)).alloc (.cells #[.int .i64 0, .int .i64 0, .int .i64 0, .slice none 0 0] 106)).alloc (.cells #[] 188)) w.heap.size 106 [.int .i64 x.number, .int .i64 x.start, .int .i64 x.finish, .slice A n c] := ((Blk.at_ rfl).alloc _).alloc _
  have R0 : Blk (((w.alloc (.cells #[.int .i64 x.number, .int .i64 x.start, .int .i64 x.finish, .slice A n c] 106)).alloc (.cells #[.int .i64 0, .int .i64 0, .int .i64 0, .slice none 0 0] 106)).alloc (.cells #[] 188)) (w.heap.size + 1) 106 [.int .i64 0, .int .i64 0, .int .i64 0, .slice none 0 0] := (Blk.at_ (by simp)).alloc _
  have hown := own_empty_at (w := ((w.alloc (.cells #[.int .i64 x.number, .int .i64 x.start, .int .i64 x.finish, .slice A n c] 106)).alloc (.cells #[.int .i64 0, .int .i64 0, .int .i64 0, .slice none 0 0] 106))) (g := w.heap.size + 1 + 1) 188 2 (by simp)
  have hx0 := hx.next K0
  have z0 : (((w.alloc (.cells #[.int .i64 x.number, .int .i64 x.start, .int .i64 x.finish, .slice A n c] 106)).alloc (.cells #[.int .i64 0, .int .i64 0, .int .i64 0, .slice none 0 0] 106)).alloc (.cells #[] 188)).heap.size = w.heap.size + 1 + 1 + 1 := by simp
  have Z0 := Lib.hid z0
  clear z0
  go_enter Tryz.func131, Tryz.ntmps131
  go_wp2_with (at_builtin; go_loud (refine wpList_cat rfl _ _ _ rfl Tryz.underlying104 info_impl_Punch rfl (by decide) rfl hown rfl hx0 (punch_all _) (by omega) (by omega) (by decide) (by have := Z0.out; omega) ?_); intro A1 c1 w1 o1 h1 b1 q1; have P1 := P0.only h1 (own_not hown (by omega)); have R1 := R0.only h1 (own_not hown (by omega)); have pc := P1.cell; have pf := P1.frozen; have rc := R1.cell; have rf := R1.frozen)
  simp only [Nat.zero_add, List.nil_append] at o1 ⊢
  have K1 : Below w.heap.size w w1 := K0.trans (b1.mono (by omega))
  have RF := ((((R1.far (p := ⟨w.heap.size, 3, none⟩) (by simp) (.slice A1 n c1)).set_ 0 (.int .i64 x.number)).set_ 1 (.int .i64 x.start)).set_ 2 (.int .i64 x.finish)).set_ 3 (.slice A1 n c1)
  have E := (((((Only.refl (fun b => b = w.heap.size ∨ b = w.heap.size + 1) w1).setCell (p := ⟨w.heap.size, 3, none⟩) (.inl rfl) (.slice A1 n c1)).setCell (p := ⟨w.heap.size + 1, 0, none⟩) (.inr rfl) (.int .i64 x.number)).setCell (p := ⟨w.heap.size + 1, 1, none⟩) (.inr rfl) (.int .i64 x.start)).setCell (p := ⟨w.heap.size + 1, 2, none⟩) (.inr rfl) (.int .i64 x.finish)).setCell (p := ⟨w.heap.size + 1, 3, none⟩) (.inr rfl) (.slice A1 n c1)
  have oF := own_only o1 E (fun b hb h => by have := (own_top o1 hb).1; omega)
  have zF := E.size
  have z1 := K1.size
  refine bodyPost_ret (results_cell_row rfl _ _ (w.heap.size + 1) _ _ (0, 0) _ rfl RF Tryz.underlying106 rfl (by kernel_rfl)) rfl ⟨A1, c1, rfl, own_base oF (by omega), ?_⟩
  exact K1.trans (E.below (fun k hk => by rcases hk with hk | hk <;> omega) (by omega))

set_option maxRecDepth 100000 in
set_option maxHeartbeats 2000000 in
theorem l12Own_any (A : Option Addr) (n c lo : Nat) (x : Card) (w : World) (hx : Sees w lo 2 A n (x.punches.flatMap Punch.enc)) (hn : n ≤ 1048576) :
    Calls Tryz.prog 118 #[.agg #[.int .i64 x.number, .int .i64 x.start, .int .i64 x.finish, .slice A n c]] w (GivesCard w x n) := by
  have K0 : Below w.heap.size w (((w.alloc (.cells #[.int .i64 x.number, .int .i64 x.start, .int .i64 x.finish, .slice A n c] 106)).alloc (.cells #[.int .i64 0, .int .i64 0, .int .i64 0, .slice none 0 0] 106)).alloc (.cells #[] 188)).drew := bel_quiet ((((Below.refl w.heap.size w).alloc (Nat.le_refl _) _).alloc (by simp) _).alloc (by simp; omega) _) (Quiet.one _)
  have P0 : Blk (((w.alloc (.cells #[.int .i64 x.number, .int .i64 x.start, .int .i64 x.finish, .slice A n c] 106)).alloc (.cells #[.int .i64 0, .int .i64 0, .int .i64 0, .slice none 0 0] 106)).alloc (.cells #[] 188)).drew w.heap.size 106 [.int .i64 x.number, .int .i64 x.start, .int .i64 x.finish, .slice A n c] := (((Blk.at_ rfl).alloc _).alloc _ : Blk (((w.alloc (.cells #[.int .i64 x.number, .int .i64 x.start, .int .i64 x.finish, .slice A n c] 106)).alloc (.cells #[.int .i64 0, .int .i64 0, .int .i64 0, .slice none 0 0] 106)).alloc (.cells #[] 188)) w.heap.size 106 [.int .i64 x.number, .int .i64 x.start, .int .i64 x.finish, .slice A n c])
  have R0 : Blk (((w.alloc (.cells #[.int .i64 x.number, .int .i64 x.start, .int .i64 x.finish, .slice A n c] 106)).alloc (.cells #[.int .i64 0, .int .i64 0, .int .i64 0, .slice none 0 0] 106)).alloc (.cells #[] 188)).drew (w.heap.size + 1) 106 [.int .i64 0, .int .i64 0, .int .i64 0, .slice none 0 0] := ((Blk.at_ (by simp)).alloc _ : Blk (((w.alloc (.cells #[.int .i64 x.number, .int .i64 x.start, .int .i64 x.finish, .slice A n c] 106)).alloc (.cells #[.int .i64 0, .int .i64 0, .int .i64 0, .slice none 0 0] 106)).alloc (.cells #[] 188)) (w.heap.size + 1) 106 [.int .i64 0, .int .i64 0, .int .i64 0, .slice none 0 0])
  have hown := own_below (own_empty_at (w := ((w.alloc (.cells #[.int .i64 x.number, .int .i64 x.start, .int .i64 x.finish, .slice A n c] 106)).alloc (.cells #[.int .i64 0, .int .i64 0, .int .i64 0, .slice none 0 0] 106))) (g := w.heap.size + 1 + 1) 188 2 (by simp)) ((Quiet.one _).below _)
  have hx0 := hx.next K0
  have z0 : (((w.alloc (.cells #[.int .i64 x.number, .int .i64 x.start, .int .i64 x.finish, .slice A n c] 106)).alloc (.cells #[.int .i64 0, .int .i64 0, .int .i64 0, .slice none 0 0] 106)).alloc (.cells #[] 188)).drew.heap.size = w.heap.size + 1 + 1 + 1 := by show (((w.alloc (.cells #[.int .i64 x.number, .int .i64 x.start, .int .i64 x.finish, .slice A n c] 106)).alloc (.cells #[.int .i64 0, .int .i64 0, .int .i64 0, .slice none 0 0] 106)).alloc (.cells #[] 188)).heap.size = _; simp
  have Z0 := Lib.hid z0
  have pc0 := P0.cell
  clear z0
  go_enter Tryz.func118, Tryz.ntmps118
  go_wp2_with fail
  refine wp_region_held_drew (S := fun w' => w'.cell? ⟨w.heap.size, 0, none⟩ = some (.int .i64 x.number) ∧ w'.cell? ⟨w.heap.size, 1, none⟩ = some (.int .i64 x.start) ∧ w'.cell? ⟨w.heap.size, 2, none⟩ = some (.int .i64 x.finish) ∧ w'.cell? ⟨w.heap.size, 3, none⟩ = some (.slice A n c)) (by kernel_rfl) (by (try dsimp only); go_keep) (fun hH => ?_)
  refine wQ 0 ?_
  refine wQ 1 ?_
  refine wQ 2 ?_
  refine wQ 3 ?_
  refine wQ 4 ?_
  refine wQ 5 ?_
  refine wQ 7 ?_
  refine wQ 8 ?_
  refine wR (rs := [6]) (by kernel_rfl) (by simp) ?_
  refine aC rfl (fun K hK => ?_) aN
  go_simp
  refine hK.out _ _ (by (try dsimp only); go_keep) (fun hH => ?_)
  clear hK K
  try simp only [Act.put, pX]
  refine wR (rs := [9]) (by kernel_rfl) (by simp) ?_
  refine aC rfl (fun K hK => ?_) aN
  refine step_cat rfl _ _ _ (by rfl) Tryz.underlying104 info_impl_Punch rfl (by decide) (by rfl) hown (by rfl) (m := n) hx0 (punch_all _) (by omega) (by omega) (by decide) (by have := Z0.out; omega) ?_
  intro A1 c1 w1 o1 h1 b1 q1
  have P1 := P0.only h1 (own_not hown (by omega))
  have R1 := R0.only h1 (own_not hown (by omega))
  clear pc0
  have pc := P1.cell
  have rc := R1.cell
  have rf := R1.frozen
  simp only [Nat.zero_add, List.nil_append] at o1
  (try simp only [Nat.zero_add])
  refine hK.out _ _ (by (try dsimp only); go_keep) (fun hH => ?_)
  clear hK K
  try simp only [Act.put, pX]
  refine wQ 10 ?_
  refine wR (rs := [11]) (by kernel_rfl) (by simp) ?_
  refine aC rfl (fun K hK => ?_) aN
  go_simp
  refine hK.out _ _ (by (try dsimp only); go_keep) (fun hH => ?_)
  clear hK K
  try simp only [Act.put, pX]
  refine wD (by kernel_rfl) ?_ _
  go_wp2_with fail
  have K1 : Below w.heap.size w w1 := K0.trans (b1.mono (by omega))
  have RF := (((R1.set_ 0 (.int .i64 x.number)).set_ 1 (.int .i64 x.start)).set_ 2 (.int .i64 x.finish)).set_ 3 (.slice A1 n c1)
  have E := ((((Only.refl (fun b => b = w.heap.size + 1) w1).setCell (p := ⟨w.heap.size + 1, 0, none⟩) rfl (.int .i64 x.number)).setCell (p := ⟨w.heap.size + 1, 1, none⟩) rfl (.int .i64 x.start)).setCell (p := ⟨w.heap.size + 1, 2, none⟩) rfl (.int .i64 x.finish)).setCell (p := ⟨w.heap.size + 1, 3, none⟩) rfl (.slice A1 n c1)
  have oF := own_only o1 E (fun b hb h => by have := (own_top o1 hb).1; omega)
  have zF := E.size
  have z1 := K1.size
  refine bodyPost_ret (results_cell_row rfl _ _ (w.heap.size + 1) _ _ (0, 0) _ rfl RF Tryz.underlying106 rfl (by kernel_rfl)) rfl ⟨A1, c1, rfl, own_base oF (by omega), ?_⟩
  exact K1.trans (E.below (fun k hk => by omega) (by omega))

end Go.Proofs.YtflpcdffmpfdpaaGreatDoor

namespace Go.Proofs.YtflpcdffmpfdpaaGreatDoor
open Go.RowKit

theorem Sees.elem5 {α : Type} {w : World} {lo n k : Nat} {A : Option Addr} {ds : List α} {enc : α → List Value} {f0 f1 f2 f3 f4 : α → Value} (h : Sees w lo 5 A n (ds.flatMap enc)) (he : ∀ x, enc x = [f0 x, f1 x, f2 x, f3 x, f4 x]) (hk : k < n) :
    ∃ b off, A = some ⟨b, off, none⟩ ∧ ∃ hx : k < ds.length, w.cell? ⟨b, off + k * 5, none⟩ = some (f0 ds[k]) ∧ w.cell? ⟨b, off + k * 5 + 1, none⟩ = some (f1 ds[k]) ∧ w.cell? ⟨b, off + k * 5 + 2, none⟩ = some (f2 ds[k]) ∧ w.cell? ⟨b, off + k * 5 + 3, none⟩ = some (f3 ds[k]) ∧ w.cell? ⟨b, off + k * 5 + 4, none⟩ = some (f4 ds[k]) := by
  obtain ⟨b, off, e, hx, hc⟩ := h.elem (by decide) (fun x => by rw [he]; rfl) hk
  exact ⟨b, off, e, hx, hc 0 _ (by rw [he]; rfl), hc 1 _ (by rw [he]; rfl), hc 2 _ (by rw [he]; rfl), hc 3 _ (by rw [he]; rfl), hc 4 _ (by rw [he]; rfl)⟩
structure Entrant where
  state : Int
  number : Int
  start : Int
  finish : Int
  punches : List Punch
deriving DecidableEq
def entrantSh : Sh Entrant := ⟨fun r => [(.int .i64 r.x.state), (.int .i64 r.x.number), (.int .i64 r.x.start), (.int .i64 r.x.finish), (.slice r.A r.n r.c)], 5, 2, fun x => (x.punches.flatMap Punch.enc), by decide, fun _ => rfl⟩
def Entrant.cnt (x : Entrant) : Nat := x.punches.length
/-- how many marks it takes -/
def Entrant.wt (x : Entrant) : Nat := x.punches.length * 2 + 4
def Entrant.mark (k : Int) (x : Entrant) : Entrant := ⟨k, k + 1, k + 1 + 1, k + 1 + 1 + 1, (marksOf Punch.mark 2 (k + 1 + 1 + 1 + 1) x.punches.length)⟩
theorem info_impl_Entrant : (Tryz.prog.info? 108).map (fun i => (i.zero, i.size, i.bytes)) = some (some (.agg #[.int .i64 0, .int .i64 0, .int .i64 0, .int .i64 0, .slice none 0 0]), 5, 56) := by kernel_rfl
theorem SeesEntrant.elem {w : World} {lo n k : Nat} {A : Option Addr} {xs : List Entrant} (h : SeesN entrantSh w lo A n xs) (hk : k < n) :
    ∃ (b off : Nat) (B : Option Addr) (m d : Nat), A = some ⟨b, off, none⟩ ∧ ∃ hkx : k < xs.length, w.cell? ⟨b, off + k * 5, none⟩ = some (.int .i64 xs[k].state) ∧ w.cell? ⟨b, off + k * 5 + 1, none⟩ = some (.int .i64 xs[k].number) ∧ w.cell? ⟨b, off + k * 5 + 2, none⟩ = some (.int .i64 xs[k].start) ∧ w.cell? ⟨b, off + k * 5 + 3, none⟩ = some (.int .i64 xs[k].finish) ∧ w.cell? ⟨b, off + k * 5 + 4, none⟩ = some (.slice B m d) ∧ Sees w lo 2 B m (xs[k].punches.flatMap Punch.enc) := by
  obtain ⟨rs, rfl, h2, h3⟩ := h
  obtain ⟨b, off, rfl, hkx, c0, c1, c2, c3, c4⟩ := Sees.elem5 (enc := entrantSh.enc) h2 (fun _ => rfl) hk
  have hx : (rs.map Hd.x)[k]'(by simpa using hkx) = rs[k].x := by simp
  refine ⟨b, off, rs[k].A, rs[k].n, rs[k].c, rfl, by simpa using hkx, ?_, ?_, ?_, ?_, ?_, ?_⟩
  · rw [c0, hx]
  · rw [c1, hx]
  · rw [c2, hx]
  · rw [c3, hx]
  · rw [c4]
  · rw [hx]; exact h3 rs[k] (List.getElem_mem hkx)

/-- the card of an entrant -/
def Entrant.card (x : Entrant) : Card := ⟨x.number, x.start, x.finish, x.punches⟩
theorem eqEntrant_any (A B : Option Addr) (n n' c c' lo lo' : Nat) (x y : Entrant) (w : World) (hx : Sees w lo 2 A n (x.punches.flatMap Punch.enc)) (hy : Sees w lo' 2 B n' (y.punches.flatMap Punch.enc)) (he : x = y) (hn : n ≤ 1048576) :
    Calls Tryz.prog 143 #[.agg #[.int .i64 x.state, .int .i64 x.number, .int .i64 x.start, .int .i64 x.finish, .slice A n c], .agg #[.int .i64 y.state, .int .i64 y.number, .int .i64 y.start, .int .i64 y.finish, .slice B n' c']] w fun e w' => e = .returned (.bool true) ∧ Below w.heap.size w w' := by
  subst he
  go_enter Tryz.func143, Tryz.ntmps143
  go_wp2_with fail
  have K0 : Below w.heap.size w _ := ((Below.refl w.heap.size w).alloc (Nat.le_refl _) (.cells #[.int .i64 x.state, .int .i64 x.number, .int .i64 x.start, .int .i64 x.finish, .slice A n c] 108)).alloc (by simp) (.cells #[.int .i64 x.state, .int .i64 x.number, .int .i64 x.start, .int .i64 x.finish, .slice B n' c'] 108)
  refine (eqCard_any _ _ _ _ c c' _ _ x.card x.card _ (hx.next K0) (hy.next K0) rfl hn).mono ?_
  rintro e w1 ⟨rfl, b1⟩
  have K1 := bel_then K0 b1
  go_wp2_with fail
  go_ret
  exact ⟨rfl, K1⟩
set_option maxRecDepth 100000 in
theorem eqEntrantS_any (A A' : Option Addr) (n n' c c' lo lo' : Nat) (xs ys : List Entrant) (w : World) (hx : SeesN entrantSh w lo A n xs) (hy : SeesN entrantSh w lo' A' n' ys) (he : xs = ys) (hn : n ≤ 140737488355328) (hi : ∀ x ∈ xs, x.cnt ≤ 1048576) :
    Calls Tryz.prog 100 #[.slice A n c, .slice A' n' c'] w fun e w' => e = .returned (.bool true) ∧ Below w.heap.size w w' := by
  subst he
  have hl := hx.count
  have hl' := hy.count
  obtain rfl : n = n' := by omega
  go_enter Tryz.func100, Tryz.ntmps100
  go_wp2_with fail
  go_loopw [5] (fun v wr => ∃ k : Nat, k ≤ n ∧ v = .int .i64 k ∧ Below w.heap.size w wr) (fun v _ => n - (intOf v).toNat)
  case atStart => exact ⟨0, Nat.zero_le _, rfl, Below.refl _ _⟩
  case round =>
    obtain ⟨k, hk, rfl, hb⟩ := hrel
    by_cases hlt : k < n
    · obtain ⟨b, off, B0, m, cc0, rfl, hkx, c0, c1, c2, c3, c4, hxi⟩ := SeesEntrant.elem (hx.next hb) hlt
      obtain ⟨b', off', B0', m', cc1, rfl, hky, d0, d1, d2, d3, d4, hyi⟩ := SeesEntrant.elem (hy.next hb) hlt
      have hm : m ≤ 1048576 := by
        have h1 := hi xs[k] (List.getElem_mem hkx)
        have h2 := hxi.count (by decide) (fun _ => rfl)
        unfold Entrant.cnt at h1
        omega
      have hb' := bel_quiet hb (Quiet.one wr)
      replace hxi := hxi.quiet (Quiet.one wr)
      replace hyi := hyi.quiet (Quiet.one wr)
      go_wp2_with fail
      refine wp_region_still_tail 8 (by kernel_rfl) (by kernel_rfl) ?_
      simp only [List.take_succ_cons, List.take_zero, List.drop_succ_cons, List.drop_zero]
      change wpStill _ _ wr.drew _ _ _
      repeat still_step
      refine wpStill_nil ?_
      change wpList _ _ _ _ _ wr.drew
      generalize wr.drew = w2 at *
      go_wp2_with fail
      refine (eqEntrant_any _ _ _ _ cc0 cc1 _ _ xs[k] xs[k] _ hxi hyi rfl hm).mono ?_
      rintro e w1 ⟨rfl, hb1⟩
      go_wp2_with fail
      go_roundw
      case rel => exact ⟨k + 1, by omega, by go_num, bel_then hb' hb1⟩
      case measure => simp [intOf]; omega
    · go_wp2_with fail
      go_ret
      exact ⟨rfl, hb⟩

set_option maxRecDepth 100000 in
set_option maxHeartbeats 1000000 in
theorem heldEntrantS_any (lo n c : Nat) (A : Option Addr) (xs : List Entrant) (k0 : Int) (w : World) (hx : SeesN entrantSh w lo A n (marksN Entrant.mark Entrant.wt k0 xs)) (h0 : 0 ≤ k0) (h1 : k0 + wtN Entrant.wt xs ≤ 1000000000) (hn : n ≤ 1048576) :
    Calls Tryz.prog 102 #[.slice A n c, .int .i64 k0] w fun e w' => e = .returned (.int .i64 (k0 + wtN Entrant.wt xs)) ∧ Quiet w w' := by
  have hl := hx.count
  rw [marksN_length] at hl
  go_enter Tryz.func102, Tryz.ntmps102
  go_wp2_with fail
  go_loopw [1, 5] (fun q v wr => ∃ k : Nat, k ≤ n ∧ q = .int .i64 (k0 + wtN Entrant.wt (xs.take k)) ∧ v = .int .i64 k ∧ Quiet w wr) (fun _ v _ => n - (intOf v).toNat)
  case atStart => exact ⟨0, Nat.zero_le _, by simp [wtN], rfl, Quiet.refl _⟩
  case round =>
    obtain ⟨k, hk, rfl, rfl, hq⟩ := hrel
    by_cases hlt : k < n
    · obtain ⟨b, off, B0, m, cc0, rfl, hkx, c0, c1, c2, c3, c4, hxi⟩ := SeesEntrant.elem (hx.quiet hq) hlt
      have hkx' : k < xs.length := by omega
      have hwa := wtN_at Entrant.wt hkx'
      have hwn := Lib.hid (wtN_next Entrant.wt hkx')
      simp only [marksN_get _ _ _ hkx', Entrant.mark] at c0 c1 c2 c3 c4 hxi
      have hm : m = xs[k].punches.length := by
        have h2 := hxi.count (by decide) (fun _ => rfl)
        simp only [marksOf_length] at h2
        omega
      have hw1 : Entrant.wt xs[k] = m * 2 + 4 := by unfold Entrant.wt; rw [hm]
      rw [← hm] at hxi
      clear hm
      generalize hK : k0 + (wtN Entrant.wt (xs.take k) : Int) = K at *
      have hK1 := Lib.hid hK
      have hb1 : 0 ≤ K ∧ K ≤ 1000000000 - (m * 2 + 4) := by omega
      clear hK
      go_wp2_with fail
      refine (heldPunchS_any _ _ _ _ _ _ hxi (by omega) (by omega) (by omega)).mono ?_
      rintro e w1 ⟨rfl, q1⟩

      have hnn : ¬ (K + 1 + 1 + 1 + 1 + ↑m * 2 < 0) := by omega
      have hq1 := hq.trans q1
      go_wp2_with fail
      go_roundw
      case rel => exact ⟨k + 1, by omega, by have e1 := hwn.out; have e2 := hK1.out; congr 1; omega, by go_num, hq1⟩
      case measure => simp [intOf]; omega
    · obtain rfl : k = n := by omega
      rw [List.take_of_length_le (by omega)]
      go_wp2_with fail
      go_ret
      exact ⟨rfl, hq⟩

end Go.Proofs.YtflpcdffmpfdpaaGreatDoor
