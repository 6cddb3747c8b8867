/- Slices whose elements each hold one slice: how they read, and how they lie in memory of a call's own. -/
import Derived.Test.YtkchdhmnomelkaaGreatS0
namespace Go.Proofs.YtkchdhmnomelkaaGreat
open Go.RowKit

/-- An element, and the header of its slice. -/
structure Hd (α : Type) where
  x : α
  A : Option Addr
  n : Nat
  c : Nat
/-- How an element lies: its cells (s of them), its slice's cells (is of them an element). -/
structure Sh (α : Type) where
  enc : Hd α → List Value
  s : Nat
  is : Nat
  inner : α → List Value
  pos : 0 < s
  len : ∀ r, (enc r).length = s
section
variable {α : Type} {sh : Sh α} {w w' : World} {lo s n c t ti : Nat} {A : Option Addr} {xs : List α} {S T : Nat → Prop}
def SeesN (sh : Sh α) (w : World) (lo : Nat) (A : Option Addr) (n : Nat) (xs : List α) : Prop :=
  ∃ rs : List (Hd α), rs.map Hd.x = xs ∧ Sees w lo sh.s A n (rs.flatMap sh.enc) ∧ ∀ r ∈ rs, Sees w lo sh.is r.A r.n (sh.inner r.x)
theorem SeesN.next (h : SeesN sh w lo A n xs) (hb : Below w.heap.size w w') : SeesN sh w' lo A n xs := by
  obtain ⟨rs, h1, h2, h3⟩ := h
  exact ⟨rs, h1, h2.next hb, fun r hr => (h3 r hr).next hb⟩
theorem SeesN.below {C : Nat} (h : SeesN sh w lo A n xs) (hb : Below C w w') (hC : w.heap.size ≤ C) : SeesN sh w' lo A n xs := by
  obtain ⟨rs, h1, h2, h3⟩ := h
  exact ⟨rs, h1, h2.below hb hC, fun r hr => (h3 r hr).below hb hC⟩
theorem SeesN.quiet (h : SeesN sh w lo A n xs) (hq : Quiet w w') : SeesN sh w' lo A n xs := h.next (hq.below _)
theorem SeesN.count (h : SeesN sh w lo A n xs) : xs.length = n := by
  obtain ⟨rs, rfl, h2, _⟩ := h
  rw [List.length_map]
  exact h2.count sh.pos sh.len
/-- Slices of elements that a call owns: no two of them in one block, all of them in S. -/
structure Inners (sh : Sh α) (w : World) (S : Nat → Prop) (ti : TypeId) (rs : List (Hd α)) : Prop where
  each : ∀ r ∈ rs, Mine w S ti sh.is r.A r.n r.c (sh.inner r.x)
  pair : rs.Pairwise fun r r' => ∀ b, OwnB r.A b → ¬ OwnB r'.A b
theorem Inners.nil (S : Nat → Prop) : Inners sh w S ti [] := ⟨by simp, List.Pairwise.nil⟩
theorem Inners.next {rs : List (Hd α)} (h : Inners sh w S ti rs) (hb : Below w.heap.size w w') : Inners sh w' S ti rs := ⟨fun r hr => (h.each r hr).next hb, h.pair⟩
theorem Inners.only {rs : List (Hd α)} (h : Inners sh w S ti rs) (ho : Only T w w') (hS : ∀ b, S b → T b → False) : Inners sh w' S ti rs := ⟨fun r hr => (h.each r hr).only ho hS, h.pair⟩
theorem Inners.wide {rs : List (Hd α)} (h : Inners sh w S ti rs) (hS : ∀ b, S b → T b) : Inners sh w T ti rs := ⟨fun r hr => (h.each r hr).wide hS, h.pair⟩
theorem Inners.snoc {rs : List (Hd α)} (h : Inners sh w S ti rs) {x : α} {A : Option Addr} {n c : Nat} (hm : Mine w T ti sh.is A n c (sh.inner x)) (hST : ∀ b, S b → T b → False) : Inners sh w (fun b => S b ∨ T b) ti (rs ++ [⟨x, A, n, c⟩]) := by
  refine ⟨fun r hr => ?_, ?_⟩
  · rcases List.mem_append.1 hr with hr | hr
    · exact (h.each r hr).wide fun b hb => .inl hb
    · obtain rfl := List.mem_singleton.1 hr
      exact hm.wide fun b hb => .inr hb
  · rw [List.pairwise_append]
    refine ⟨h.pair, List.pairwise_singleton _ _, fun r hr r' hr' b hb hb' => ?_⟩
    obtain rfl := List.mem_singleton.1 hr'
    exact hST b ((h.each r hr).top b hb) (hm.top b hb')
/-- A slice of such elements in memory of a call's own. -/
structure MineR (sh : Sh α) (w : World) (S : Nat → Prop) (t ti : TypeId) (A : Option Addr) (n c : Nat) (rs : List (Hd α)) : Prop where
  outer : Mine w S t sh.s A n c (rs.flatMap sh.enc)
  inners : Inners sh w S ti rs
  apart : ∀ r ∈ rs, ∀ b, OwnB r.A b → ¬ OwnB A b
def MineN (sh : Sh α) (w : World) (S : Nat → Prop) (t ti : TypeId) (A : Option Addr) (n c : Nat) (xs : List α) : Prop :=
  ∃ rs : List (Hd α), rs.map Hd.x = xs ∧ MineR sh w S t ti A n c rs
theorem MineN.next (h : MineN sh w S t ti A n c xs) (hb : Below w.heap.size w w') : MineN sh w' S t ti A n c xs := by
  obtain ⟨rs, h1, h2⟩ := h
  exact ⟨rs, h1, h2.outer.next hb, h2.inners.next hb, h2.apart⟩
theorem MineN.only (h : MineN sh w S t ti A n c xs) (ho : Only T w w') (hS : ∀ b, S b → T b → False) : MineN sh w' S t ti A n c xs := by
  obtain ⟨rs, h1, h2⟩ := h
  exact ⟨rs, h1, h2.outer.only ho hS, h2.inners.only ho hS, h2.apart⟩
theorem MineN.wide (h : MineN sh w S t ti A n c xs) (hS : ∀ b, S b → T b) : MineN sh w T t ti A n c xs := by
  obtain ⟨rs, h1, h2⟩ := h
  exact ⟨rs, h1, h2.outer.wide hS, h2.inners.wide hS, h2.apart⟩
theorem MineN.sees (h : MineN sh w S t ti A n c xs) : SeesN sh w 0 A n xs := by
  obtain ⟨rs, h1, h2⟩ := h
  exact ⟨rs, h1, h2.outer.sees, fun r hr => (h2.inners.each r hr).sees⟩
theorem MineN.nil (w : World) (S : Nat → Prop) (t ti : TypeId) : MineN sh w S t ti none 0 0 [] :=
  ⟨[], rfl, ⟨World.ownsRow_nil _ _ _ _, fun b hb => by simp [OwnB, Value.ownBlock] at hb⟩, Inners.nil _, by simp⟩
theorem MineN.count (h : MineN sh w S t ti A n c xs) : xs.length = n := h.sees.count
end

/-- The marks of a list: each element's, from where the one before it ended. -/
def marksN {α : Type} (f : Int → α → α) (wt : α → Nat) : Int → List α → List α
  | _, [] => []
  | k, x :: l => f k x :: marksN f wt (k + wt x) l
def wtN {α : Type} (wt : α → Nat) : List α → Nat
  | [] => 0
  | x :: l => wt x + wtN wt l
theorem wtN_append {α : Type} (wt : α → Nat) (l m : List α) : wtN wt (l ++ m) = wtN wt l + wtN wt m := by
  induction l with
  | nil => simp [wtN]
  | cons x l ih => simp only [List.cons_append, wtN, ih]; omega
theorem wtN_next {α : Type} (wt : α → Nat) {xs : List α} {k : Nat} (hk : k < xs.length) : wtN wt (xs.take (k + 1)) = wtN wt (xs.take k) + wt xs[k] := by
  rw [List.take_succ_eq_append_getElem hk, wtN_append]; simp [wtN]
theorem wtN_take {α : Type} (wt : α → Nat) (xs : List α) (k : Nat) : wtN wt (xs.take k) ≤ wtN wt xs := by
  conv => rhs; rw [← List.take_append_drop k xs, wtN_append]
  omega
theorem wtN_at {α : Type} (wt : α → Nat) {xs : List α} {k : Nat} (hk : k < xs.length) : wtN wt (xs.take k) + wt xs[k] ≤ wtN wt xs := by
  rw [← wtN_next wt hk]; exact wtN_take _ _ _
theorem marksN_append {α : Type} (f : Int → α → α) (wt : α → Nat) : ∀ (k : Int) (l m : List α), marksN f wt k (l ++ m) = marksN f wt k l ++ marksN f wt (k + wtN wt l) m
  | k, [], m => by simp [marksN, wtN]
  | k, x :: l, m => by
    simp only [List.cons_append, marksN, wtN, marksN_append f wt (k + wt x) l m]
    rw [show k + ↑(wt x) + ↑(wtN wt l) = k + ↑(wt x + wtN wt l) by omega]
theorem marksN_length {α : Type} (f : Int → α → α) (wt : α → Nat) : ∀ (k : Int) (l : List α), (marksN f wt k l).length = l.length
  | _, [] => rfl
  | _, _ :: l => by simp [marksN, marksN_length f wt _ l]
theorem marksN_next {α : Type} (f : Int → α → α) (wt : α → Nat) (k0 : Int) {xs : List α} {k : Nat} (hk : k < xs.length) : marksN f wt k0 (xs.take (k + 1)) = marksN f wt k0 (xs.take k) ++ [f (k0 + wtN wt (xs.take k)) xs[k]] := by
  rw [List.take_succ_eq_append_getElem hk, marksN_append]; rfl
theorem marksN_get {α : Type} (f : Int → α → α) (wt : α → Nat) (k0 : Int) {xs : List α} {k : Nat} (hk : k < xs.length) (h : k < (marksN f wt k0 xs).length) : (marksN f wt k0 xs)[k] = f (k0 + wtN wt (xs.take k)) xs[k] := by
  have e : marksN f wt k0 xs = marksN f wt k0 (xs.take k) ++ f (k0 + wtN wt (xs.take k)) xs[k] :: marksN f wt (k0 + wtN wt (xs.take k) + wt xs[k]) (xs.drop (k + 1)) := by
    conv => lhs; rw [← List.take_append_drop k xs, List.drop_eq_getElem_cons hk, marksN_append]
    rfl
  have hl : (marksN f wt k0 (xs.take k)).length = k := by rw [marksN_length, List.length_take]; omega
  simp only [e]
  rw [List.getElem_append_right (by omega)]
  simp [hl]

theorem setMany_take {α : Type} (vs cs : List α) (i : Nat) (h : i + vs.length ≤ cs.length) : (setMany cs i vs).take (i + vs.length) = cs.take i ++ vs := by
  refine List.ext_getElem? fun j => ?_
  rw [List.getElem?_take]
  by_cases hj : j < i + vs.length
  · rw [if_pos hj, setMany_get _ _ _ _ h]
    by_cases h1 : i ≤ j
    · rw [if_pos ⟨h1, hj⟩, List.getElem?_append_right (by rw [List.length_take]; omega)]
      congr 1
      rw [List.length_take]; omega
    · rw [if_neg (by omega), List.getElem?_append_left (by rw [List.length_take]; omega), List.getElem?_take, if_pos (by omega)]
  · rw [if_neg hj, List.getElem?_eq_none (by simp; omega)]
section
variable {α : Type} {sh : Sh α} {w w' : World} {lo s n c t ti : Nat} {A : Option Addr} {xs : List α} {S T : Nat → Prop} {rs : List (Hd α)}
theorem heads_get (rs : List (Hd α)) (k j : Nat) (hk : k < rs.length) (hj : j < sh.s) : (rs.flatMap sh.enc)[k * sh.s + j]? = (sh.enc rs[k])[j]? :=
  flatMap_get rs (fun x _ => sh.len x) k j hk hj
theorem heads_len (rs : List (Hd α)) : (rs.flatMap sh.enc).length = rs.length * sh.s := flatMap_len rs (fun x _ => sh.len x)
/-- One element's cells have turned. -/
theorem heads_set {cs cs' : List Value} {k : Nat} (hk : k < rs.length) (r : Hd α) (h : cs.take (rs.length * sh.s) = rs.flatMap sh.enc)
    (hin : ∀ j, j < sh.s → cs'[k * sh.s + j]? = (sh.enc r)[j]?) (hout : ∀ j, ¬ (k * sh.s ≤ j ∧ j < k * sh.s + sh.s) → cs'[j]? = cs[j]?) : cs'.take (rs.length * sh.s) = (rs.set k r).flatMap sh.enc := by
  have hpos := sh.pos
  refine List.ext_getElem? fun j => ?_
  rw [List.getElem?_take]
  by_cases hj : j < rs.length * sh.s
  · rw [if_pos hj]
    have hq : j / sh.s < rs.length := Nat.div_lt_of_lt_mul (by rw [Nat.mul_comm]; exact hj)
    have hr : j % sh.s < sh.s := Nat.mod_lt _ hpos
    have hjj : j / sh.s * sh.s + j % sh.s = j := by rw [Nat.mul_comm]; exact Nat.div_add_mod j sh.s
    have e2 := heads_get (sh := sh) (rs.set k r) (j / sh.s) (j % sh.s) (by rw [List.length_set]; exact hq) hr
    rw [hjj] at e2
    rw [e2]
    by_cases hjk : j / sh.s = k
    · have e3 := hin (j % sh.s) hr
      rw [← hjk, hjj] at e3
      rw [e3]
      subst hjk
      simp
    · have hne : ¬ (k * sh.s ≤ j ∧ j < k * sh.s + sh.s) := by
        rintro ⟨h1, h2⟩
        apply hjk
        rw [Nat.div_eq_of_lt_le h1 (by rw [Nat.succ_mul]; exact h2)]
      have e4 := heads_get (sh := sh) rs (j / sh.s) (j % sh.s) hq hr
      rw [hjj, ← h, List.getElem?_take, if_pos hj] at e4
      rw [hout j hne, e4]
      congr 2
      rw [List.getElem_set_ne (fun e => hjk e.symm)]
  · rw [if_neg hj, List.getElem?_eq_none (by rw [heads_len, List.length_set]; omega)]
theorem Inners.set (h : Inners sh w S ti rs) {k : Nat} (hk : k < rs.length) (y : α) (ho : Only (OwnB rs[k].A) w w') (hm : Mine w' (OwnB rs[k].A) ti sh.is rs[k].A rs[k].n rs[k].c (sh.inner y)) : Inners sh w' S ti (rs.set k ⟨y, rs[k].A, rs[k].n, rs[k].c⟩) := by
  have hp := List.pairwise_iff_getElem.1 h.pair
  refine ⟨fun r hr => ?_, List.pairwise_iff_getElem.2 fun i j hi hj hij b hb hb' => ?_⟩
  · obtain ⟨i, hi, rfl⟩ := List.getElem_of_mem hr
    rw [List.length_set] at hi
    rw [List.getElem_set]
    by_cases hik : k = i
    · simp only [if_pos hik]
      exact hm.wide fun b hb => (h.each rs[k] (List.getElem_mem hk)).top b hb
    · simp only [if_neg hik]
      refine ((h.each rs[i] (List.getElem_mem hi)).exact_.only ho fun b hb hb' => ?_).wide fun b hb => (h.each rs[i] (List.getElem_mem hi)).top b hb
      rcases Nat.lt_or_gt_of_ne hik with hl | hl
      · exact hp k i hk hi hl b hb' hb
      · exact hp i k hi hk hl b hb hb'
  · rw [List.length_set] at hi hj
    have hA : ∀ (i : Nat) (hi : i < rs.length) (hi' : i < (rs.set k ⟨y, rs[k].A, rs[k].n, rs[k].c⟩).length), (rs.set k ⟨y, rs[k].A, rs[k].n, rs[k].c⟩)[i].A = rs[i].A := by
      intro i hi hi'
      rw [List.getElem_set]
      by_cases hik : k = i
      · subst hik; simp
      · simp [hik]
    rw [hA i hi] at hb
    rw [hA j hj] at hb'
    exact hp i j hi hj hij b hb hb'
theorem Inners.onlyA (h : Inners sh w S ti rs) (ho : Only T w w') (hS : ∀ r ∈ rs, ∀ b, OwnB r.A b → T b → False) : Inners sh w' S ti rs :=
  ⟨fun r hr => ((h.each r hr).exact_.only ho (hS r hr)).wide fun b hb => (h.each r hr).top b hb, h.pair⟩
theorem set_mid {β : Type} (A B : List β) (x y : β) (k : Nat) (h : A.length = k) : (A ++ x :: B).set k y = (A ++ [y]) ++ B := by
  subst h
  rw [List.set_append_right _ _ (Nat.le_refl _)]
  simp
theorem heads_apart {g k : Nat} {y : α} (hk : k < rs.length) (h : ∀ r ∈ rs, ¬ OwnB r.A g) : ∀ r ∈ rs.set k ⟨y, rs[k].A, rs[k].n, rs[k].c⟩, ¬ OwnB r.A g := by
  intro r hr
  rcases List.mem_or_eq_of_mem_set hr with hr | rfl
  · exact h r hr
  · exact h rs[k] (List.getElem_mem hk)
theorem heads_marks {f : Int → α → α} {wt : α → Nat} {k0 : Int} {k : Nat} (hk : k < rs.length) (hkx : k < xs.length) (h : rs.map Hd.x = marksN f wt k0 (xs.take k) ++ xs.drop k) :
    (rs.set k ⟨f (k0 + wtN wt (xs.take k)) xs[k], rs[k].A, rs[k].n, rs[k].c⟩).map Hd.x = marksN f wt k0 (xs.take (k + 1)) ++ xs.drop (k + 1) := by
  rw [List.map_set, h, List.drop_eq_getElem_cons hkx, set_mid _ _ _ _ k (by rw [marksN_length, List.length_take]; omega), marksN_next _ _ _ hkx]
end

end Go.Proofs.YtkchdhmnomelkaaGreat
