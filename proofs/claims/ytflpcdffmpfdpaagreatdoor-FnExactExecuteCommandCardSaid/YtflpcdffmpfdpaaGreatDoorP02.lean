/- Joined texts of this proof: Nest, PunchT, CardT, Own, Grid. -/
import Derived.Laws.AppendOwnNone
import Derived.Test.YtflpcdffmpfdpaaGreatDoorP01
namespace Go.Proofs.YtflpcdffmpfdpaaGreatDoor
open Go.RowKit

/-- An element, and the header of its slice. -/
structure Hd (α : Type) where
  x : α
  A : Option Addr
  n : Nat
  c : Nat
/-- How an element lies: its cells (s of them), its slice's cells (is of them an element). -/
structure Sh (α : Type) where
  enc : Hd α → List Value
  s : Nat
  is : Nat
  inner : α → List Value
  pos : 0 < s
  len : ∀ r, (enc r).length = s
section
variable {α : Type} {sh : Sh α} {w w' : World} {lo s n c t ti : Nat} {A : Option Addr} {xs : List α} {S T : Nat → Prop}
def SeesN (sh : Sh α) (w : World) (lo : Nat) (A : Option Addr) (n : Nat) (xs : List α) : Prop :=
  ∃ rs : List (Hd α), rs.map Hd.x = xs ∧ Sees w lo sh.s A n (rs.flatMap sh.enc) ∧ ∀ r ∈ rs, Sees w lo sh.is r.A r.n (sh.inner r.x)
theorem SeesN.next (h : SeesN sh w lo A n xs) (hb : Below w.heap.size w w') : SeesN sh w' lo A n xs := by
  obtain ⟨rs, h1, h2, h3⟩ := h
  exact ⟨rs, h1, h2.next hb, fun r hr => (h3 r hr).next hb⟩
theorem SeesN.below {C : Nat} (h : SeesN sh w lo A n xs) (hb : Below C w w') (hC : w.heap.size ≤ C) : SeesN sh w' lo A n xs := by
  obtain ⟨rs, h1, h2, h3⟩ := h
  exact ⟨rs, h1, h2.below hb hC, fun r hr => (h3 r hr).below hb hC⟩
theorem SeesN.quiet (h : SeesN sh w lo A n xs) (hq : Quiet w w') : SeesN sh w' lo A n xs := h.next (hq.below _)
theorem SeesN.count (h : SeesN sh w lo A n xs) : xs.length = n := by
  obtain ⟨rs, rfl, h2, _⟩ := h
  rw [List.length_map]
  exact h2.count sh.pos sh.len
/-- Slices of elements that a call owns: no two of them in one block, all of them in S. -/
structure Inners (sh : Sh α) (w : World) (S : Nat → Prop) (ti : TypeId) (rs : List (Hd α)) : Prop where
  each : ∀ r ∈ rs, Mine w S ti sh.is r.A r.n r.c (sh.inner r.x)
  pair : rs.Pairwise fun r r' => ∀ b, OwnB r.A b → ¬ OwnB r'.A b
theorem Inners.nil (S : Nat → Prop) : Inners sh w S ti [] := ⟨by simp, List.Pairwise.nil⟩
theorem Inners.next {rs : List (Hd α)} (h : Inners sh w S ti rs) (hb : Below w.heap.size w w') : Inners sh w' S ti rs := ⟨fun r hr => (h.each r hr).next hb, h.pair⟩
theorem Inners.only {rs : List (Hd α)} (h : Inners sh w S ti rs) (ho : Only T w w') (hS : ∀ b, S b → T b → False) : Inners sh w' S ti rs := ⟨fun r hr => (h.each r hr).only ho hS, h.pair⟩
theorem Inners.wide {rs : List (Hd α)} (h : Inners sh w S ti rs) (hS : ∀ b, S b → T b) : Inners sh w T ti rs := ⟨fun r hr => (h.each r hr).wide hS, h.pair⟩
theorem Inners.snoc {rs : List (Hd α)} (h : Inners sh w S ti rs) {x : α} {A : Option Addr} {n c : Nat} (hm : Mine w T ti sh.is A n c (sh.inner x)) (hST : ∀ b, S b → T b → False) : Inners sh w (fun b => S b ∨ T b) ti (rs ++ [⟨x, A, n, c⟩]) := by
  refine ⟨fun r hr => ?_, ?_⟩
  · rcases List.mem_append.1 hr with hr | hr
    · exact (h.each r hr).wide fun b hb => .inl hb
    · obtain rfl := List.mem_singleton.1 hr
      exact hm.wide fun b hb => .inr hb
  · rw [List.pairwise_append]
    refine ⟨h.pair, List.pairwise_singleton _ _, fun r hr r' hr' b hb hb' => ?_⟩
    obtain rfl := List.mem_singleton.1 hr'
    exact hST b ((h.each r hr).top b hb) (hm.top b hb')
/-- A slice of such elements in memory of a call's own. -/
structure MineR (sh : Sh α) (w : World) (S : Nat → Prop) (t ti : TypeId) (A : Option Addr) (n c : Nat) (rs : List (Hd α)) : Prop where
  outer : Mine w S t sh.s A n c (rs.flatMap sh.enc)
  inners : Inners sh w S ti rs
  apart : ∀ r ∈ rs, ∀ b, OwnB r.A b → ¬ OwnB A b
def MineN (sh : Sh α) (w : World) (S : Nat → Prop) (t ti : TypeId) (A : Option Addr) (n c : Nat) (xs : List α) : Prop :=
  ∃ rs : List (Hd α), rs.map Hd.x = xs ∧ MineR sh w S t ti A n c rs
theorem MineN.next (h : MineN sh w S t ti A n c xs) (hb : Below w.heap.size w w') : MineN sh w' S t ti A n c xs := by
  obtain ⟨rs, h1, h2⟩ := h
  exact ⟨rs, h1, h2.outer.next hb, h2.inners.next hb, h2.apart⟩
theorem MineN.only (h : MineN sh w S t ti A n c xs) (ho : Only T w w') (hS : ∀ b, S b → T b → False) : MineN sh w' S t ti A n c xs := by
  obtain ⟨rs, h1, h2⟩ := h
  exact ⟨rs, h1, h2.outer.only ho hS, h2.inners.only ho hS, h2.apart⟩
theorem MineN.wide (h : MineN sh w S t ti A n c xs) (hS : ∀ b, S b → T b) : MineN sh w T t ti A n c xs := by
  obtain ⟨rs, h1, h2⟩ := h
  exact ⟨rs, h1, h2.outer.wide hS, h2.inners.wide hS, h2.apart⟩
theorem MineN.sees (h : MineN sh w S t ti A n c xs) : SeesN sh w 0 A n xs := by
  obtain ⟨rs, h1, h2⟩ := h
  exact ⟨rs, h1, h2.outer.sees, fun r hr => (h2.inners.each r hr).sees⟩
theorem MineN.nil (w : World) (S : Nat → Prop) (t ti : TypeId) : MineN sh w S t ti none 0 0 [] :=
  ⟨[], rfl, ⟨World.ownsRow_nil _ _ _ _, fun b hb => by simp [OwnB, Value.ownBlock] at hb⟩, Inners.nil _, by simp⟩
theorem MineN.count (h : MineN sh w S t ti A n c xs) : xs.length = n := h.sees.count
end

/-- The marks of a list: each element's, from where the one before it ended. -/
def marksN {α : Type} (f : Int → α → α) (wt : α → Nat) : Int → List α → List α
  | _, [] => []
  | k, x :: l => f k x :: marksN f wt (k + wt x) l
def wtN {α : Type} (wt : α → Nat) : List α → Nat
  | [] => 0
  | x :: l => wt x + wtN wt l
theorem wtN_append {α : Type} (wt : α → Nat) (l m : List α) : wtN wt (l ++ m) = wtN wt l + wtN wt m := by
  induction l with
  | nil => simp [wtN]
  | cons x l ih => simp only [List.cons_append, wtN, ih]; omega
theorem wtN_next {α : Type} (wt : α → Nat) {xs : List α} {k : Nat} (hk : k < xs.length) : wtN wt (xs.take (k + 1)) = wtN wt (xs.take k) + wt xs[k] := by
  rw [List.take_succ_eq_append_getElem hk, wtN_append]; simp [wtN]
theorem wtN_take {α : Type} (wt : α → Nat) (xs : List α) (k : Nat) : wtN wt (xs.take k) ≤ wtN wt xs := by
  conv => rhs; rw [← List.take_append_drop k xs, wtN_append]
  omega
theorem wtN_at {α : Type} (wt : α → Nat) {xs : List α} {k : Nat} (hk : k < xs.length) : wtN wt (xs.take k) + wt xs[k] ≤ wtN wt xs := by
  rw [← wtN_next wt hk]; exact wtN_take _ _ _
theorem marksN_append {α : Type} (f : Int → α → α) (wt : α → Nat) : ∀ (k : Int) (l m : List α), marksN f wt k (l ++ m) = marksN f wt k l ++ marksN f wt (k + wtN wt l) m
  | k, [], m => by simp [marksN, wtN]
  | k, x :: l, m => by
    simp only [List.cons_append, marksN, wtN, marksN_append f wt (k + wt x) l m]
    rw [show k + ↑(wt x) + ↑(wtN wt l) = k + ↑(wt x + wtN wt l) by omega]
theorem marksN_length {α : Type} (f : Int → α → α) (wt : α → Nat) : ∀ (k : Int) (l : List α), (marksN f wt k l).length = l.length
  | _, [] => rfl
  | _, _ :: l => by simp [marksN, marksN_length f wt _ l]
theorem marksN_next {α : Type} (f : Int → α → α) (wt : α → Nat) (k0 : Int) {xs : List α} {k : Nat} (hk : k < xs.length) : marksN f wt k0 (xs.take (k + 1)) = marksN f wt k0 (xs.take k) ++ [f (k0 + wtN wt (xs.take k)) xs[k]] := by
  rw [List.take_succ_eq_append_getElem hk, marksN_append]; rfl
theorem marksN_get {α : Type} (f : Int → α → α) (wt : α → Nat) (k0 : Int) {xs : List α} {k : Nat} (hk : k < xs.length) (h : k < (marksN f wt k0 xs).length) : (marksN f wt k0 xs)[k] = f (k0 + wtN wt (xs.take k)) xs[k] := by
  have e : marksN f wt k0 xs = marksN f wt k0 (xs.take k) ++ f (k0 + wtN wt (xs.take k)) xs[k] :: marksN f wt (k0 + wtN wt (xs.take k) + wt xs[k]) (xs.drop (k + 1)) := by
    conv => lhs; rw [← List.take_append_drop k xs, List.drop_eq_getElem_cons hk, marksN_append]
    rfl
  have hl : (marksN f wt k0 (xs.take k)).length = k := by rw [marksN_length, List.length_take]; omega
  simp only [e]
  rw [List.getElem_append_right (by omega)]
  simp [hl]

theorem setMany_take {α : Type} (vs cs : List α) (i : Nat) (h : i + vs.length ≤ cs.length) : (setMany cs i vs).take (i + vs.length) = cs.take i ++ vs := by
  refine List.ext_getElem? fun j => ?_
  rw [List.getElem?_take]
  by_cases hj : j < i + vs.length
  · rw [if_pos hj, setMany_get _ _ _ _ h]
    by_cases h1 : i ≤ j
    · rw [if_pos ⟨h1, hj⟩, List.getElem?_append_right (by rw [List.length_take]; omega)]
      congr 1
      rw [List.length_take]; omega
    · rw [if_neg (by omega), List.getElem?_append_left (by rw [List.length_take]; omega), List.getElem?_take, if_pos (by omega)]
  · rw [if_neg hj, List.getElem?_eq_none (by simp; omega)]
section
variable {α : Type} {sh : Sh α} {w w' : World} {lo s n c t ti : Nat} {A : Option Addr} {xs : List α} {S T : Nat → Prop} {rs : List (Hd α)}
theorem heads_get (rs : List (Hd α)) (k j : Nat) (hk : k < rs.length) (hj : j < sh.s) : (rs.flatMap sh.enc)[k * sh.s + j]? = (sh.enc rs[k])[j]? :=
  flatMap_get rs (fun x _ => sh.len x) k j hk hj
theorem heads_len (rs : List (Hd α)) : (rs.flatMap sh.enc).length = rs.length * sh.s := flatMap_len rs (fun x _ => sh.len x)
/-- One element's cells have turned. -/
theorem heads_set {cs cs' : List Value} {k : Nat} (hk : k < rs.length) (r : Hd α) (h : cs.take (rs.length * sh.s) = rs.flatMap sh.enc)
    (hin : ∀ j, j < sh.s → cs'[k * sh.s + j]? = (sh.enc r)[j]?) (hout : ∀ j, ¬ (k * sh.s ≤ j ∧ j < k * sh.s + sh.s) → cs'[j]? = cs[j]?) : cs'.take (rs.length * sh.s) = (rs.set k r).flatMap sh.enc := by
  have hpos := sh.pos
  refine List.ext_getElem? fun j => ?_
  rw [List.getElem?_take]
  by_cases hj : j < rs.length * sh.s
  · rw [if_pos hj]
    have hq : j / sh.s < rs.length := Nat.div_lt_of_lt_mul (by rw [Nat.mul_comm]; exact hj)
    have hr : j % sh.s < sh.s := Nat.mod_lt _ hpos
    have hjj : j / sh.s * sh.s + j % sh.s = j := by rw [Nat.mul_comm]; exact Nat.div_add_mod j sh.s
    have e2 := heads_get (sh := sh) (rs.set k r) (j / sh.s) (j % sh.s) (by rw [List.length_set]; exact hq) hr
    rw [hjj] at e2
    rw [e2]
    by_cases hjk : j / sh.s = k
    · have e3 := hin (j % sh.s) hr
      rw [← hjk, hjj] at e3
      rw [e3]
      subst hjk
      simp
    · have hne : ¬ (k * sh.s ≤ j ∧ j < k * sh.s + sh.s) := by
        rintro ⟨h1, h2⟩
        apply hjk
        rw [Nat.div_eq_of_lt_le h1 (by rw [Nat.succ_mul]; exact h2)]
      have e4 := heads_get (sh := sh) rs (j / sh.s) (j % sh.s) hq hr
      rw [hjj, ← h, List.getElem?_take, if_pos hj] at e4
      rw [hout j hne, e4]
      congr 2
      rw [List.getElem_set_ne (fun e => hjk e.symm)]
  · rw [if_neg hj, List.getElem?_eq_none (by rw [heads_len, List.length_set]; omega)]
theorem Inners.set (h : Inners sh w S ti rs) {k : Nat} (hk : k < rs.length) (y : α) (ho : Only (OwnB rs[k].A) w w') (hm : Mine w' (OwnB rs[k].A) ti sh.is rs[k].A rs[k].n rs[k].c (sh.inner y)) : Inners sh w' S ti (rs.set k ⟨y, rs[k].A, rs[k].n, rs[k].c⟩) := by
  have hp := List.pairwise_iff_getElem.1 h.pair
  refine ⟨fun r hr => ?_, List.pairwise_iff_getElem.2 fun i j hi hj hij b hb hb' => ?_⟩
  · obtain ⟨i, hi, rfl⟩ := List.getElem_of_mem hr
    rw [List.length_set] at hi
    rw [List.getElem_set]
    by_cases hik : k = i
    · simp only [if_pos hik]
      exact hm.wide fun b hb => (h.each rs[k] (List.getElem_mem hk)).top b hb
    · simp only [if_neg hik]
      refine ((h.each rs[i] (List.getElem_mem hi)).exact_.only ho fun b hb hb' => ?_).wide fun b hb => (h.each rs[i] (List.getElem_mem hi)).top b hb
      rcases Nat.lt_or_gt_of_ne hik with hl | hl
      · exact hp k i hk hi hl b hb' hb
      · exact hp i k hi hk hl b hb hb'
  · rw [List.length_set] at hi hj
    have hA : ∀ (i : Nat) (hi : i < rs.length) (hi' : i < (rs.set k ⟨y, rs[k].A, rs[k].n, rs[k].c⟩).length), (rs.set k ⟨y, rs[k].A, rs[k].n, rs[k].c⟩)[i].A = rs[i].A := by
      intro i hi hi'
      rw [List.getElem_set]
      by_cases hik : k = i
      · subst hik; simp
      · simp [hik]
    rw [hA i hi] at hb
    rw [hA j hj] at hb'
    exact hp i j hi hj hij b hb hb'
theorem Inners.onlyA (h : Inners sh w S ti rs) (ho : Only T w w') (hS : ∀ r ∈ rs, ∀ b, OwnB r.A b → T b → False) : Inners sh w' S ti rs :=
  ⟨fun r hr => ((h.each r hr).exact_.only ho (hS r hr)).wide fun b hb => (h.each r hr).top b hb, h.pair⟩
theorem set_mid {β : Type} (A B : List β) (x y : β) (k : Nat) (h : A.length = k) : (A ++ x :: B).set k y = (A ++ [y]) ++ B := by
  subst h
  rw [List.set_append_right _ _ (Nat.le_refl _)]
  simp
theorem heads_apart {g k : Nat} {y : α} (hk : k < rs.length) (h : ∀ r ∈ rs, ¬ OwnB r.A g) : ∀ r ∈ rs.set k ⟨y, rs[k].A, rs[k].n, rs[k].c⟩, ¬ OwnB r.A g := by
  intro r hr
  rcases List.mem_or_eq_of_mem_set hr with hr | rfl
  · exact h r hr
  · exact h rs[k] (List.getElem_mem hk)
theorem heads_marks {f : Int → α → α} {wt : α → Nat} {k0 : Int} {k : Nat} (hk : k < rs.length) (hkx : k < xs.length) (h : rs.map Hd.x = marksN f wt k0 (xs.take k) ++ xs.drop k) :
    (rs.set k ⟨f (k0 + wtN wt (xs.take k)) xs[k], rs[k].A, rs[k].n, rs[k].c⟩).map Hd.x = marksN f wt k0 (xs.take (k + 1)) ++ xs.drop (k + 1) := by
  rw [List.map_set, h, List.drop_eq_getElem_cons hkx, set_mid _ _ _ _ k (by rw [marksN_length, List.length_take]; omega), marksN_next _ _ _ hkx]
end

end Go.Proofs.YtflpcdffmpfdpaaGreatDoor

namespace Go.Proofs.YtflpcdffmpfdpaaGreatDoor
open Go.RowKit

structure Punch where
  code : Int
  time : Int
deriving DecidableEq
def Punch.enc (x : Punch) : List Value := [.int .i64 x.code, .int .i64 x.time]
theorem info_impl_Punch : (Tryz.prog.info? 188).map (fun i => (i.zero, i.size, i.bytes)) = some (some (.agg #[.int .i64 0, .int .i64 0]), 2, 16) := by kernel_rfl
def Punch.mark (k : Int) : Punch := ⟨k, k + 1⟩

theorem toPunch_any (a0 a1 : Int) (w : World) : Calls Tryz.prog 229 #[.agg #[.int .i64 a0, .int .i64 a1]] w fun e w' => e = .returned (.agg #[.int .i64 a0, .int .i64 a1]) ∧ Below w.heap.size w w' := by
  go_enter Tryz.func229, Tryz.ntmps229
  go_wp2
  exact bodyPost_ret (v := .agg #[.int .i64 a0, .int .i64 a1]) (by simp [results, Tryz.results229, go_sem]) rfl ⟨rfl, (((Below.refl _ _).alloc (Nat.le_refl _) _).alloc (by simp) _).alloc (by simp; omega) _⟩

set_option maxRecDepth 100000 in
theorem toPunchS_any (A : Option Addr) (n c : Nat) (xs : List Punch) (w : World) (hx : Sees w 0 2 A n (xs.flatMap Punch.enc)) (hn : n ≤ 1048576) :
    Calls Tryz.prog 203 #[.slice A n c] w fun e w' => ∃ A', e = .returned (.slice A' n n) ∧ w'.ownsRow w.heap.size 188 2 (.slice A' n n) n (xs.flatMap Punch.enc) ∧ Below w.heap.size w w' := by
  have hl := hx.count (by decide) (fun _ => rfl)
  obtain ⟨zs, hzs, hmk⟩ := make_zeros (P := Tryz.prog) n Tryz.underlying104 info_impl_Punch (by omega) (by omega)
  go_enter Tryz.func203, Tryz.ntmps203
  go_wp2
  have hB := Blk.new w 188 zs
  have hb0 : Below w.heap.size w (w.alloc (.cells zs.toArray 188)) := (Below.refl _ _).alloc (Nat.le_refl _) _
  clear hmk
  go_loopw [4] (fun v wr => ∃ (k : Nat) (cs : List Value), k ≤ n ∧ v = .int .i64 k ∧ Blk wr w.heap.size 188 cs ∧ cs.length = n * 2 ∧ Upto Punch.enc 2 xs k cs ∧ Below w.heap.size w wr) (fun v _ => n - (intOf v).toNat)
  case atStart => exact ⟨0, zs, Nat.zero_le _, rfl, hB, hzs, Upto.zero (by rw [hzs, hl]; exact Nat.le_refl _), hb0⟩
  case round =>
    obtain ⟨k, cs, hk, rfl, hB, hcl, hu, hb⟩ := hrel
    by_cases hlt : k < n
    · obtain ⟨b, off, rfl, hkx, c0, c1⟩ := (hx.next hb).elem2 (fun _ => rfl) hlt
      go_wp2_with fail
      refine (toPunch_any _ _ _).mono ?_
      rintro e w1 ⟨rfl, hb1⟩
      have hB1 := hB.next hb1
      obtain ⟨v0, s0⟩ := hu.room hB1 hkx 0 (by decide)
      obtain ⟨v1, s1⟩ := hu.room hB1 hkx 1 (by decide)
      rw [Nat.add_zero] at s0
      have hf := hB1.frozen
      go_wp2
      go_roundw
      case rel => exact ⟨k + 1, _, by omega, by go_num, hB1.many (Punch.enc xs[k]) (k * 2), (setMany_length _ _ _).trans hcl, hu.step (fun _ => rfl) hkx, bel_many (Nat.le_refl _) (Punch.enc xs[k]) (bel_then hb hb1) (k * 2)⟩
      case measure => simp [intOf]; omega
    · go_wp2
      go_ret
      have hcs := hu.all (fun _ => rfl) (by omega)
      rw [hl] at hcs
      exact ⟨_, rfl, own_shut (Nat.le_refl _) hB hcl (Nat.le_refl _) (by simp only [maxLen]; omega) hcs, hb⟩

theorem eqPunch_any (a0 a1 : Int) (w : World) : Calls Tryz.prog 243 #[.agg #[.int .i64 a0, .int .i64 a1], .agg #[.int .i64 a0, .int .i64 a1]] w fun e w' => e = .returned (.bool true) ∧ Below w.heap.size w w' := by
  go_enter Tryz.func243, Tryz.ntmps243
  go_wp2
  go_ret
  exact ⟨rfl, ((Below.refl _ _).alloc (Nat.le_refl _) _).alloc (by simp) _⟩

set_option maxRecDepth 100000 in
theorem eqPunchS_any (A A' : Option Addr) (n n' c c' lo lo' : Nat) (xs ys : List Punch) (w : World) (hx : Sees w lo 2 A n (xs.flatMap Punch.enc)) (hy : Sees w lo' 2 A' n' (ys.flatMap Punch.enc)) (he : xs = ys) (hn : n ≤ 140737488355328) :
    Calls Tryz.prog 221 #[.slice A n c, .slice A' n' c'] w fun e w' => e = .returned (.bool true) ∧ Below w.heap.size w w' := by
  subst he
  have hl := hx.count (by decide) (fun _ => rfl)
  have hl' := hy.count (by decide) (fun _ => rfl)
  obtain rfl : n = n' := by omega
  go_enter Tryz.func221, Tryz.ntmps221
  go_wp2_with fail
  go_loopw [5] (fun v wr => ∃ k : Nat, k ≤ n ∧ v = .int .i64 k ∧ Below w.heap.size w wr) (fun v _ => n - (intOf v).toNat)
  case atStart => exact ⟨0, Nat.zero_le _, rfl, Below.refl _ _⟩
  case round =>
    obtain ⟨k, hk, rfl, hb⟩ := hrel
    by_cases hlt : k < n
    · obtain ⟨b, off, rfl, hkx, c0, c1⟩ := (hx.next hb).elem2 (fun _ => rfl) hlt
      obtain ⟨b', off', rfl, hky, d0, d1⟩ := (hy.next hb).elem2 (fun _ => rfl) hlt
      go_wp2_with fail
      refine wp_region_still_tail 8 (by kernel_rfl) (by kernel_rfl) ?_
      simp only [List.take_succ_cons, List.take_zero, List.drop_succ_cons, List.drop_zero]
      change wpStill _ _ wr.drew _ _ _
      repeat still_step
      refine wpStill_nil ?_
      change wpList _ _ _ _ _ wr.drew
      have hb' := bel_quiet hb (Quiet.one wr)
      generalize wr.drew = w2 at *
      go_wp2_with fail
      refine (eqPunch_any _ _ _).mono ?_
      rintro e w1 ⟨rfl, hb1⟩
      go_wp2
      go_roundw
      case rel => exact ⟨k + 1, by omega, by go_num, bel_then hb' hb1⟩
      case measure => simp [intOf]; omega
    · go_wp2
      go_ret
      exact ⟨rfl, hb⟩

set_option maxRecDepth 100000 in
theorem markPunchS_any (S : Nat → Prop) (t n c : Nat) (A : Option Addr) (xs : List Punch) (k0 : Int) (w : World) (hM : Mine w S t 2 A n c (xs.flatMap Punch.enc)) (h0 : 0 ≤ k0) (h1 : k0 ≤ 1000000000000) (hn : n ≤ 140737488355328) :
    Calls Tryz.prog 144 #[.slice A n c, .int .i64 k0] w fun e w' => e = .returned (.int .i64 (k0 + n * 2)) ∧ Mine w' S t 2 A n c ((marksOf Punch.mark 2 k0 n).flatMap Punch.enc) ∧ Only S w w' := by
  obtain ⟨hown, htop⟩ := hM
  rcases own_open hown with ⟨rfl, rfl, rfl, hxs⟩ | ⟨g, cur, rfl, hg, hB, hcl, hnc, hcm, htk⟩
  · go_enter Tryz.func144, Tryz.ntmps144
    go_wp2
    refine wp_loop_rounds 1 ?_
    rw [rounds_succ]
    go_wp2
    go_ret
    exact ⟨by simp, ⟨World.ownsRow_nil _ _ _ _, htop⟩, Only.refl _ _⟩
  · have hS : S g := htop g rfl
    have hcl' : n * 2 ≤ cur.length := by omega
    clear hown htk
    go_enter Tryz.func144, Tryz.ntmps144
    go_wp2
    go_loopw [1, 5] (fun q v wr => ∃ (k : Nat) (cs : List Value), k ≤ n ∧ q = .int .i64 (k0 + k * 2) ∧ v = .int .i64 k ∧ Blk wr g t cs ∧ cs.length = c * 2 ∧ Upto Punch.enc 2 (marksOf Punch.mark 2 k0 n) k cs ∧ Only S w wr) (fun _ v _ => n - (intOf v).toNat)
    case atStart => exact ⟨0, _, Nat.zero_le _, by simp, rfl, hB, hcl, Upto.zero (by rw [marksOf_length]; exact hcl'), Only.refl _ _⟩
    case round =>
      obtain ⟨k, cs, hk, rfl, rfl, hB, hcl, hu, ho⟩ := hrel
      by_cases hlt : k < n
      · have hkx : k < (marksOf Punch.mark 2 k0 n).length := by rw [marksOf_length]; omega
        obtain ⟨v0, s0⟩ := hu.room hB hkx 0 (by decide)
        obtain ⟨v1, s1⟩ := hu.room hB hkx 1 (by decide)
        rw [Nat.add_zero] at s0
        have hf := hB.frozen
        go_wp2
        go_roundw
        case rel => exact ⟨k + 1, _, by omega, by go_num, by go_num, hB.many (Punch.enc (Punch.mark (k0 + k * 2))) (k * 2), (setMany_length _ _ _).trans hcl, by have h := hu.step (fun _ => rfl) hkx; rw [marksOf_get] at h; exact h, Only.many hS (Punch.enc (Punch.mark (k0 + k * 2))) ho (k * 2)⟩
        case measure => simp [intOf]; omega
      · go_wp2
        go_ret
        obtain rfl : k = n := by omega
        have hcs := hu.all (fun _ => rfl) (by rw [marksOf_length])
        rw [marksOf_length] at hcs
        exact ⟨rfl, ⟨own_shut hg hB hcl hnc hcm hcs, htop⟩, ho⟩

set_option maxRecDepth 100000 in
theorem heldPunchS_any (lo n c : Nat) (A : Option Addr) (k0 : Int) (w : World) (hx : Sees w lo 2 A n ((marksOf Punch.mark 2 k0 n).flatMap Punch.enc)) (h0 : 0 ≤ k0) (h1 : k0 ≤ 1000000000000) (hn : n ≤ 140737488355328) :
    Calls Tryz.prog 145 #[.slice A n c, .int .i64 k0] w fun e w' => e = .returned (.int .i64 (k0 + n * 2)) ∧ Quiet w w' := by
  go_enter Tryz.func145, Tryz.ntmps145
  go_wp2
  go_loopw [1, 5] (fun q v wr => ∃ k : Nat, k ≤ n ∧ q = .int .i64 (k0 + k * 2) ∧ v = .int .i64 k ∧ Quiet w wr) (fun _ v _ => n - (intOf v).toNat)
  case atStart => exact ⟨0, Nat.zero_le _, by simp, rfl, Quiet.refl _⟩
  case round =>
    obtain ⟨k, hk, rfl, rfl, hq⟩ := hrel
    by_cases hlt : k < n
    · obtain ⟨b, off, rfl, hkx, c0, c1⟩ := (hx.quiet hq).elem2 (fun _ => rfl) hlt
      rw [marksOf_get] at c0 c1
      simp only [Punch.mark] at c0 c1
      go_wp2
      go_roundw
      case rel => exact ⟨k + 1, by omega, by go_num, by go_num, hq⟩
      case measure => simp [intOf]; omega
    · go_wp2
      go_ret
      obtain rfl : k = n := by omega
      exact ⟨rfl, hq⟩

structure DeskRow where
  number : Int
  missing : Int
  time : Int
deriving DecidableEq
def DeskRow.enc (x : DeskRow) : List Value := [.int .i64 x.number, .int .i64 x.missing, .int .i64 x.time]
def DeskRow.mark (k : Int) : DeskRow := ⟨k, k + 1, k + 1 + 1⟩

end Go.Proofs.YtflpcdffmpfdpaaGreatDoor

namespace Go.Proofs.YtflpcdffmpfdpaaGreatDoor
open Go.RowKit

theorem wtN_mem {α : Type} (f : α → Nat) {x : α} : ∀ {l : List α} (_ : x ∈ l), f x ≤ wtN f l
  | y :: l, h => by
    rcases List.mem_cons.1 h with rfl | h
    · simp only [wtN]; omega
    · have := wtN_mem f h; simp only [wtN]; omega
structure Card where
  number : Int
  start : Int
  finish : Int
  punches : List Punch
deriving DecidableEq
def cardSh : Sh Card := ⟨fun r => [(.int .i64 r.x.number), (.int .i64 r.x.start), (.int .i64 r.x.finish), (.slice r.A r.n r.c)], 4, 2, fun x => (x.punches.flatMap Punch.enc), by decide, fun _ => rfl⟩
def Card.cnt (x : Card) : Nat := x.punches.length
/-- how many marks it takes -/
def Card.wt (x : Card) : Nat := x.punches.length * 2 + 3
def Card.mark (k : Int) (x : Card) : Card := ⟨k, k + 1, k + 1 + 1, (marksOf Punch.mark 2 (k + 1 + 1 + 1) x.punches.length)⟩
theorem SeesCard.elem {w : World} {lo n k : Nat} {A : Option Addr} {xs : List Card} (h : SeesN cardSh w lo A n xs) (hk : k < n) :
    ∃ (b off : Nat) (B : Option Addr) (m d : Nat), A = some ⟨b, off, none⟩ ∧ ∃ hkx : k < xs.length, w.cell? ⟨b, off + k * 4, none⟩ = some (.int .i64 xs[k].number) ∧ w.cell? ⟨b, off + k * 4 + 1, none⟩ = some (.int .i64 xs[k].start) ∧ w.cell? ⟨b, off + k * 4 + 2, none⟩ = some (.int .i64 xs[k].finish) ∧ w.cell? ⟨b, off + k * 4 + 3, none⟩ = some (.slice B m d) ∧ Sees w lo 2 B m (xs[k].punches.flatMap Punch.enc) := by
  obtain ⟨rs, rfl, h2, h3⟩ := h
  obtain ⟨b, off, rfl, hkx, c0, c1, c2, c3⟩ := Sees.elem4 (enc := cardSh.enc) h2 (fun _ => rfl) hk
  have hx : (rs.map Hd.x)[k]'(by simpa using hkx) = rs[k].x := by simp
  refine ⟨b, off, rs[k].A, rs[k].n, rs[k].c, rfl, by simpa using hkx, ?_, ?_, ?_, ?_, ?_⟩
  · rw [c0, hx]
  · rw [c1, hx]
  · rw [c2, hx]
  · rw [c3]
  · rw [hx]; exact h3 rs[k] (List.getElem_mem hkx)

set_option maxRecDepth 100000 in
theorem toCard_any (A : Option Addr) (n c lo : Nat) (x : Card) (w : World) (hx : Sees w lo 2 A n (x.punches.flatMap Punch.enc)) (hn : n ≤ 1048576) :
    Calls Tryz.prog 170 #[.agg #[(.int .i64 x.number), (.int .i64 x.start), (.int .i64 x.finish), (.slice A n c)]] w fun e w' => ∃ B1, e = .returned (.agg #[(.int .i64 x.number), (.int .i64 x.start), (.int .i64 x.finish), (.slice B1 n n)]) ∧ Mine w' (In (w.heap.size + 1) w'.heap.size) 188 2 B1 n n (x.punches.flatMap Punch.enc) ∧ Below w.heap.size w w' := by
  go_enter Tryz.func170, Tryz.ntmps170
  go_wp2_with fail
  have K0 : Below w.heap.size w _ := (((Below.refl w.heap.size w).alloc (Nat.le_refl _) (.cells #[(.int .i64 x.number), (.int .i64 x.start), (.int .i64 x.finish), (.slice A n c)] 154)).alloc (by simp) (.cells #[.int .i64 0, .int .i64 0, .int .i64 0, .slice none 0 0] 106)).alloc (by simp; omega) (.cells #[(.int .i64 x.number), (.int .i64 x.start), (.int .i64 x.finish), .slice none 0 0] 106)
  refine (toPunchS_any _ _ _ _ _ ((hx.less (Nat.zero_le _)).next K0) hn).mono ?_
  rintro e w1 ⟨B1, rfl, o1, b1⟩
  have K1 := bel_then K0 b1
  have z1 : w.heap.size + 1 + 1 + 1 ≤ w1.heap.size := by have := b1.size; simpa using this
  have R1 : Blk w1 (w.heap.size + 1) 106 [.int .i64 0, .int .i64 0, .int .i64 0, .slice none 0 0] := ((Blk.at_ (by simp)).alloc _).next b1
  have L1 : Blk w1 (w.heap.size + 1 + 1) 106 [(.int .i64 x.number), (.int .i64 x.start), (.int .i64 x.finish), .slice none 0 0] := (Blk.at_ (by simp)).next b1
  have P1 : Blk w1 w.heap.size 154 [(.int .i64 x.number), (.int .i64 x.start), (.int .i64 x.finish), (.slice A n c)] := (((Blk.at_ rfl).alloc _).alloc _).next b1
  have p1 := P1.cell
  have l1 := L1.cell
  have lf1 := L1.frozen
  have r1 := R1.cell
  have rf1 := R1.frozen
  go_wp2_with fail
  have RF := (((((R1.far (p := ⟨w.heap.size + 1 + 1, 3, none⟩) (by simp) (.slice B1 n n)).set_ 0 (.int .i64 x.number)).set_ 1 (.int .i64 x.start)).set_ 2 (.int .i64 x.finish)).set_ 3 (.slice B1 n n))
  have O3 := ((((((Only.refl (fun b => b = w.heap.size + 1 ∨ b = w.heap.size + 1 + 1) w1).setCell (p := ⟨w.heap.size + 1 + 1, 3, none⟩) (.inr rfl) (.slice B1 n n)).setCell (p := ⟨w.heap.size + 1, 0, none⟩) (.inl rfl) (.int .i64 x.number)).setCell (p := ⟨w.heap.size + 1, 1, none⟩) (.inl rfl) (.int .i64 x.start)).setCell (p := ⟨w.heap.size + 1, 2, none⟩) (.inl rfl) (.int .i64 x.finish)).setCell (p := ⟨w.heap.size + 1, 3, none⟩) (.inl rfl) (.slice B1 n n))
  have M1 := (Mine.of o1).only O3 (fun b h1 h2 => by have := h1.1; simp at this; rcases h2 with h2 | h2 <;> omega)
  have zF := O3.size
  refine bodyPost_ret (results_cell_row rfl _ _ (w.heap.size + 1) _ _ (0, 0) _ rfl RF Tryz.underlying106 rfl (by kernel_rfl)) rfl ⟨B1, rfl, M1.wide ?_, ?_⟩
  · intro b hb
    have h1 := hb.1
    have h2 := hb.2
    simp at h1
    exact ⟨by omega, by omega⟩
  · exact K1.trans (O3.below (fun k hk => by rcases hk with hk | hk <;> omega) (by omega))

theorem szPunchSx_any (A : Option Addr) (n c : Nat) (left : Int) (w : World) (hn : n ≤ 9223372036854775807) (hl : 0 ≤ left) (hl' : left ≤ 1048576) :
    Calls Tryz.prog 198 #[.slice A n c, .int .i64 left] w fun e w' => ∃ l : Int, e = .returned (.int .i64 l) ∧ w = w' ∧ (l = -1 ∨ 0 ≤ l ∧ l = left - n) := by
  by_cases hlt : left - n < 0
  · go_enter Tryz.func198, Tryz.ntmps198
    go_wp2
    go_ret
    exact ⟨_, rfl, rfl, .inl rfl⟩
  · go_enter Tryz.func198, Tryz.ntmps198
    go_wp2
    go_ret
    exact ⟨_, rfl, rfl, .inr ⟨by omega, rfl⟩⟩

theorem szCard_any (A : Option Addr) (n c : Nat) (x : Card) (left : Int) (w : World) (hn : n ≤ 9223372036854775807) (hl : 0 ≤ left) (hl' : left ≤ 1048576) :
    Calls Tryz.prog 157 #[.agg #[(.int .i64 x.number), (.int .i64 x.start), (.int .i64 x.finish), (.slice A n c)], .int .i64 left] w fun e w' => ∃ l : Int, e = .returned (.int .i64 l) ∧ Below w.heap.size w w' ∧ (l = -1 ∨ 0 ≤ l ∧ l = left - n) := by
  go_enter Tryz.func157, Tryz.ntmps157
  go_wp2_with fail
  refine (szPunchSx_any _ _ _ _ _ hn hl hl').mono ?_
  rintro e w' ⟨l1, rfl, rfl, rfl | h1⟩
  · go_wp2_with fail
    go_ret
    exact ⟨_, rfl, (Below.refl _ _).alloc (Nat.le_refl _) _, .inl rfl⟩
  · go_wp2_with fail
    go_ret
    exact ⟨_, rfl, (Below.refl _ _).alloc (Nat.le_refl _) _, .inr (by omega)⟩

theorem eqCard_any (A B : Option Addr) (n n' c c' lo lo' : Nat) (x y : Card) (w : World) (hx : Sees w lo 2 A n (x.punches.flatMap Punch.enc)) (hy : Sees w lo' 2 B n' (y.punches.flatMap Punch.enc)) (he : x = y) (hn : n ≤ 1048576) :
    Calls Tryz.prog 186 #[.agg #[(.int .i64 x.number), (.int .i64 x.start), (.int .i64 x.finish), (.slice A n c)], .agg #[(.int .i64 y.number), (.int .i64 y.start), (.int .i64 y.finish), (.slice B n' c')]] w fun e w' => e = .returned (.bool true) ∧ Below w.heap.size w w' := by
  subst he
  go_enter Tryz.func186, Tryz.ntmps186
  go_wp2_with fail
  have K0 : Below w.heap.size w _ := ((Below.refl w.heap.size w).alloc (Nat.le_refl _) (.cells #[(.int .i64 x.number), (.int .i64 x.start), (.int .i64 x.finish), (.slice A n c)] 106)).alloc (by simp) (.cells #[(.int .i64 x.number), (.int .i64 x.start), (.int .i64 x.finish), (.slice B n' c')] 106)
  refine (eqPunchS_any _ _ _ _ _ _ _ _ _ _ _ (hx.next K0) (hy.next K0) rfl (by omega)).mono ?_
  rintro e w1 ⟨rfl, b1⟩
  have K1 := bel_then K0 b1
  have P1 : Blk w1 w.heap.size 106 [(.int .i64 x.number), (.int .i64 x.start), (.int .i64 x.finish), (.slice A n c)] := ((Blk.at_ rfl).alloc _).next b1
  have P2 : Blk w1 (w.heap.size + 1) 106 [(.int .i64 x.number), (.int .i64 x.start), (.int .i64 x.finish), (.slice B n' c')] := (Blk.at_ (by simp)).next b1
  have p1 := P1.cell
  have p2 := P2.cell
  go_wp2_with fail
  go_ret
  exact ⟨rfl, K1⟩

end Go.Proofs.YtflpcdffmpfdpaaGreatDoor

namespace Go.Proofs.YtflpcdffmpfdpaaGreatDoor
open Go.RowKit

theorem quiet_rightG {P : Program} {f : FuncId} {args : Array Value} {w : World} {n : Nat} {v : Value} (h : Calls P f args (w.drewN n) fun e w' => e = .returned v ∧ Quiet (w.drewN n) w') : Calls P f args (w.drewN n) fun e w'' => e = .returned v ∧ ∃ m, w'' = w.drewN m :=
  h.mono fun _ _ ⟨he, q, hq⟩ => ⟨he, n + q, by rw [hq, World.drewN_drewN]⟩
theorem own_empty_at {w : World} {g : Nat} (t s : Nat) (h : w.heap.size = g) : (w.alloc (.cells #[] t)).ownsRow g t s (.slice (some ⟨g, 0, none⟩) 0 0) 0 [] := h ▸ own_empty w t s
theorem own_not {w : World} {base e s n c g : Nat} {A : Option Addr} {cs : List Value} (h : w.ownsRow base e s (.slice A n c) n cs) (hg : g < base) : ¬ OwnB A g := fun hb => by
  have := (h.lt g (ownB_iff.2 hb)).1
  omega
theorem own_only {w w' : World} {base t s n c : Nat} {A : Option Addr} {cs : List Value} {T : Nat → Prop} (h : w.ownsRow base t s (.slice A n c) n cs) (ho : Only T w w') (hS : ∀ b, OwnB A b → ¬ T b) : w'.ownsRow base t s (.slice A n c) n cs := by
  rcases own_open h with ⟨rfl, rfl, rfl, rfl⟩ | ⟨g, cur, rfl, h1, h2, h3, h4, h5, h6⟩
  · exact World.ownsRow_nil _ _ _ _
  · exact own_shut h1 (h2.only ho (hS g rfl)) h3 h4 h5 h6
theorem own_top {w : World} {base t s n c b : Nat} {A : Option Addr} {cs : List Value} (h : w.ownsRow base t s (.slice A n c) n cs) (hb : OwnB A b) : base ≤ b ∧ b < w.heap.size := h.lt b (ownB_iff.2 hb)
theorem cell_only {S : Nat → Prop} {w w' : World} {b o : Nat} (h : Only S w w') (hS : ¬ S b) (hb : b < w.heap.size) : w'.cell? ⟨b, o, none⟩ = w.cell? ⟨b, o, none⟩ := World.cell?_of_block (h.block b hb hS)
/-- A list of integers in memory of the call's own. -/
def GivesL (w : World) (R : List Int) (e : Ending) (w' : World) : Prop :=
  ∃ A c, e = .returned (.slice A R.length c) ∧ w'.ownsRow w.heap.size 3 1 (.slice A R.length c) R.length (ints R) ∧ Below w.heap.size w w'

theorem run_append_zero {P : Program} {w : World} (base : Nat) (t ty e : TypeId) (i : TypeInfo) (size : Nat) (ht : P.underlying t = some (.slice e)) (hi : P.info? e = some i)
    (v : Value) (n : Nat) (xs : List Value) (hown : w.ownsRow base e size v n xs) (B : Option Addr) (d : Nat) :
    (Builtin.append_ #[t, t] ty #[v, .slice B 0 d]).run P w = .ok v w := by
  rcases hown.2 with ⟨rfl, rfl⟩ | ⟨g, cap, cur, rfl, _, _, hnc, _⟩
  · cases B <;> simp [Builtin.append_, run_underlying ht, sizeOf, typeInfo, hi, Builtin.lenOf, Builtin.firstCells, loadCells, loadCellsFrom]
  · cases B <;> simp [Builtin.append_, run_underlying ht, sizeOf, typeInfo, hi, Builtin.lenOf, Builtin.firstCells, hnc, storeCells, loadCells, loadCellsFrom]
/-- append(x, ys...): x a slice of the call's own, ys whatever is seen, nil and empty too. -/
theorem wp_cat {P : Program} {w : World} {o : Oper} {a : Act} {K : Act → World → Prop} {Q : Exit → Act → World → Prop} (sx xx : Operand) (t : TypeId)
    (ho : o.op = .call { callee := .builtin .append, args := #[sx, xx], argTypes := #[t, t] })
    {base : Nat} {e : TypeId} {z : Value} {s bytes : Nat} (ht : P.underlying t = some (.slice e)) (hi : (P.info? e).map (fun i => (i.zero, i.size, i.bytes)) = some (some z, s, bytes)) (hzs : z.cells.size = s) (hsz : 0 < s)
    {A : Option Addr} {n c : Nat} {xs : List Value} (hs : a.eval sx = .slice A n c) (hown : w.ownsRow base e s (.slice A n c) n xs)
    {lo m d : Nat} {B : Option Addr} {ys : List Value} (hx : a.eval xx = .slice B m d) (hB : Sees w lo s B m ys) (h1 : ys.all Value.oneCell' = true)
    (hn : n ≤ 1000000000) (hm : m ≤ 1000000000) (hby : bytes ≤ 1000) (hbase : base ≤ w.heap.size)
    (h : ∀ (A' : Option Addr) (c' : Nat) (w' : World), w'.ownsRow base e s (.slice A' (n + m) c') (n + m) (xs ++ ys) → Only (OwnB A) w w' → Below base w w' → (∀ b, OwnB A' b → OwnB A b ∨ w.heap.size ≤ b) → K (a.put o.dst (.slice A' (n + m) c')) w') : Oper.wp P o a w K Q := by
  obtain ⟨i0, hi, hz0, hz1, hz2⟩ := info_parts hi
  rcases Nat.eq_zero_or_pos m with rfl | hm0
  · have hys : ys = [] := List.eq_nil_of_length_eq_zero (by rw [hB.len]; simp)
    subst hys
    have h2 := h A c w (by simpa using hown) (Only.refl _ _) (Below.refl _ _) (fun b hb => .inl hb)
    have hrun := run_append_zero (P := P) (w := w) base t o.type e i0 s ht hi _ n xs hown B d
    unfold Oper.wp
    rw [Nat.add_zero] at h2
    simp [execOp, ho, resolve, invoke, builtin, hs, hx, hrun, Result.andThen]
    exact h2
  · obtain ⟨b, off, rfl, _, _, hl⟩ := hB.at' hm0
    refine wp_append_lies w sx xx t ho base e i0 z s bytes ht hi hz0 hz1 hz2 hzs hsz _ n xs hs hown ⟨b, off, none⟩ m d ys hx hB.len (fun j u hu => ?_) (List.all_eq_true.1 h1) hm0 (by simp only [maxLen]; omega) ?_ hbase _ rfl (fun g cap w' h2 h3 h4 _ => h _ _ w' h2 ?_ ?_ ?_)
    · have hadd : (⟨b, off, none⟩ : Addr).add j = ⟨b, off + j, none⟩ := by unfold Addr.add; split <;> simp_all
      rw [hadd]; exact hl j u hu
    · exact Nat.le_trans (Nat.mul_le_mul (show n + m ≤ 2000000000 by omega) hby) (by decide)
    · exact ⟨h3.os, h3.tape, h3.output, h3.size, fun k hk hS => h3.block k hk (fun e => hS (ownB_iff.1 e.symm))⟩
    · exact (Below.refl base w).grown h3 hbase (fun k hk => (hown.lt k hk).1)
    · intro b' hb'
      have hb'' : g = b' := by simpa [OwnB, Value.ownBlock] using hb'
      subst hb''
      rcases h4 with h4 | h4
      · exact .inl (ownB_iff.1 h4)
      · exact .inr (by omega)
theorem wpList_cat {P : Program} {w : World} {ops : Array Oper} {rest : List Oper} {o : Oper} {a : Act} {Q : Exit → Act → World → Prop} (hgd : o.guard = none) (sx xx : Operand) (t : TypeId)
    (ho : o.op = .call { callee := .builtin .append, args := #[sx, xx], argTypes := #[t, t] })
    {base : Nat} {e : TypeId} {z : Value} {s bytes : Nat} (ht : P.underlying t = some (.slice e)) (hi : (P.info? e).map (fun i => (i.zero, i.size, i.bytes)) = some (some z, s, bytes)) (hzs : z.cells.size = s) (hsz : 0 < s)
    {A : Option Addr} {n c : Nat} {xs : List Value} (hs : a.eval sx = .slice A n c) (hown : w.ownsRow base e s (.slice A n c) n xs)
    {lo m d : Nat} {B : Option Addr} {ys : List Value} (hx : a.eval xx = .slice B m d) (hB : Sees w lo s B m ys) (h1 : ys.all Value.oneCell' = true)
    (hn : n ≤ 1000000000) (hm : m ≤ 1000000000) (hby : bytes ≤ 1000) (hbase : base ≤ w.heap.size)
    (h : ∀ (A' : Option Addr) (c' : Nat) (w' : World), w'.ownsRow base e s (.slice A' (n + m) c') (n + m) (xs ++ ys) → Only (OwnB A) w w' → Below base w w' → (∀ b, OwnB A' b → OwnB A b ∨ w.heap.size ≤ b) → wpList P ops Q rest (a.put o.dst (.slice A' (n + m) c')) w') : wpList P ops Q (o :: rest) a w :=
  wpList_plain hgd fun _ hK => wp_cat sx xx t ho ht hi hzs hsz hs hown hx hB h1 hn hm hby hbase fun A' c' w' h2 h3 h4 h5 => hK _ _ (h A' c' w' h2 h3 h4 h5)
/-- The same at a step of a region that draws its order. -/
theorem step_cat {P : Program} {w : World} {ops : Array Oper} {o : Oper} {a : Act} {K : Act → World → Prop} {Q : Exit → Act → World → Prop} {E : Prop} (hgd : o.guard = none) (sx xx : Operand) (t : TypeId)
    (ho : o.op = .call { callee := .builtin .append, args := #[sx, xx], argTypes := #[t, t] })
    {base : Nat} {e : TypeId} {z : Value} {s bytes : Nat} (ht : P.underlying t = some (.slice e)) (hi : (P.info? e).map (fun i => (i.zero, i.size, i.bytes)) = some (some z, s, bytes)) (hzs : z.cells.size = s) (hsz : 0 < s)
    {A : Option Addr} {n c : Nat} {xs : List Value} (hs : a.eval sx = .slice A n c) (hown : w.ownsRow base e s (.slice A n c) n xs)
    {lo m d : Nat} {B : Option Addr} {ys : List Value} (hx : a.eval xx = .slice B m d) (hB : Sees w lo s B m ys) (h1 : ys.all Value.oneCell' = true)
    (hn : n ≤ 1000000000) (hm : m ≤ 1000000000) (hby : bytes ≤ 1000) (hbase : base ≤ w.heap.size)
    (h : ∀ (A' : Option Addr) (c' : Nat) (w' : World), w'.ownsRow base e s (.slice A' (n + m) c') (n + m) (xs ++ ys) → Only (OwnB A) w w' → Below base w w' → (∀ b, OwnB A' b → OwnB A b ∨ w.heap.size ≤ b) → K (a.put o.dst (.slice A' (n + m) c')) w') : if Region.wanted o (yielded ops a.tmps) = true then Oper.wp P o a w K Q else E := by
  have hw : Region.wanted o (yielded ops a.tmps) = true := by simp [Region.wanted, hgd]
  rw [if_pos hw]
  exact wp_cat sx xx t ho ht hi hzs hsz hs hown hx hB h1 hn hm hby hbase h

end Go.Proofs.YtflpcdffmpfdpaaGreatDoor

namespace Go.Proofs.YtflpcdffmpfdpaaGreatDoor
/-- the distance of two cells -/
def gapI (w a b : Int) : Int := ((a % w - b % w).natAbs : Nat) + ((a / w - b / w).natAbs : Nat)
/-- the cells above, before, behind and below a cell -/
def besideL (w h c : Int) : List Int := (if w ≤ c then [c - w] else []) ++ (if 0 < c % w then [c - 1] else []) ++ (if c % w < w - 1 then [c + 1] else []) ++ (if c + w < w * h then [c + w] else [])
end Go.Proofs.YtflpcdffmpfdpaaGreatDoor
