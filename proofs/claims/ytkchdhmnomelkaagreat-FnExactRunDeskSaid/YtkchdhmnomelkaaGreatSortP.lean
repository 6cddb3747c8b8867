/- Insertion from the right: plain facts; rows of elements in a block known whole. -/
import Derived.Test.YtkchdhmnomelkaaGreatOwn
import Derived.Lib.Bytealg
namespace Go.Proofs.YtkchdhmnomelkaaGreat
open Go.RowKit

section
variable {α : Type} (lt : α → α → Bool)
/-- where e goes, sought from place k downwards -/
def posR (P : List α) (e : α) : Nat → Nat
  | 0 => 0
  | k + 1 => match P[k]? with
    | some p => if lt e p then posR P e k else k + 1
    | none => k + 1
def insR (P : List α) (e : α) : List α := P.take (posR lt P e P.length) ++ e :: P.drop (posR lt P e P.length)
def sortR (xs : List α) : List α := xs.foldl (insR lt) []
theorem posR_le (P : List α) (e : α) : ∀ k, posR lt P e k ≤ k
  | 0 => Nat.le_refl _
  | k + 1 => by
    unfold posR
    split
    · split
      · have := posR_le P e k; omega
      · exact Nat.le_refl _
    · exact Nat.le_refl _
theorem posR_yes {P : List α} {e : α} {k : Nat} (hk : k < P.length) (h : lt e P[k] = true) : posR lt P e (k + 1) = posR lt P e k := by
  simp [posR, List.getElem?_eq_getElem hk, h]
theorem posR_no {P : List α} {e : α} {k : Nat} (hk : k < P.length) (h : lt e P[k] = false) : posR lt P e (k + 1) = k + 1 := by
  simp [posR, List.getElem?_eq_getElem hk, h]
theorem insR_at {P : List α} {e : α} {k : Nat} (h : posR lt P e P.length = k) : insR lt P e = P.take k ++ e :: P.drop k := by
  unfold insR; rw [h]
theorem insR_length (P : List α) (e : α) : (insR lt P e).length = P.length + 1 := by
  have := posR_le lt P e P.length
  simp only [insR, List.length_append, List.length_take, List.length_cons, List.length_drop]
  omega
theorem insR_perm (P : List α) (e : α) : (insR lt P e).Perm (e :: P) := by
  unfold insR
  refine (List.perm_middle).trans (List.Perm.cons _ ?_)
  rw [List.take_append_drop]
theorem sortR_nil : sortR lt ([] : List α) = [] := rfl
theorem sortR_one (x : α) : sortR lt [x] = [x] := rfl
theorem sortR_snoc (l : List α) (x : α) : sortR lt (l ++ [x]) = insR lt (sortR lt l) x := by simp [sortR]
theorem sortR_next {l : List α} {k : Nat} (h : k < l.length) : sortR lt (l.take (k + 1)) = insR lt (sortR lt (l.take k)) l[k] := by
  rw [List.take_succ_eq_append_getElem h, sortR_snoc]
theorem foldl_insR_perm : ∀ (l acc : List α), (l.foldl (insR lt) acc).Perm (acc ++ l)
  | [], acc => by simp
  | x :: l, acc => by
    rw [List.foldl_cons]
    refine (foldl_insR_perm l _).trans ?_
    refine ((insR_perm lt acc x).append_right l).trans ?_
    exact (List.perm_middle (l₁ := acc) (a := x) (l₂ := l)).symm
theorem sortR_perm (xs : List α) : (sortR lt xs).Perm xs := by simpa [sortR] using foldl_insR_perm lt xs []
theorem sortR_length (xs : List α) : (sortR lt xs).length = xs.length := (sortR_perm lt xs).length_eq
theorem sortR_mem {xs : List α} {x : α} : x ∈ sortR lt xs ↔ x ∈ xs := (sortR_perm lt xs).mem_iff
end

section
variable {α : Type} {enc : α → List Value} {s : Nat}
theorem row_get (henc : ∀ x, (enc x).length = s) {xs : List α} {rest : List Value} {k j : Nat} (hk : k < xs.length) (hj : j < s) : (xs.flatMap enc ++ rest)[k * s + j]? = (enc xs[k])[j]? := by
  have hl := flatMap_len xs (fun x _ => henc x)
  have h1 : (k + 1) * s ≤ xs.length * s := Nat.mul_le_mul_right s hk
  rw [Nat.succ_mul] at h1
  rw [List.getElem?_append_left (by omega), flatMap_get xs (fun x _ => henc x) k j hk hj]
theorem row_cell (henc : ∀ x, (enc x).length = s) {w : World} {g : Nat} {t : TypeId} {xs : List α} {rest : List Value} (h : Blk w g t (xs.flatMap enc ++ rest)) {k : Nat} (hk : k < xs.length) (j : Nat) (u : Value) (hu : (enc xs[k])[j]? = some u) : w.cell? ⟨g, k * s + j, none⟩ = some u := by
  have hj : j < s := by
    have := (List.getElem?_eq_some_iff.1 hu).1
    rwa [henc] at this
  rw [h.cell, row_get henc hk hj, hu]
theorem row_cell? (henc : ∀ x, (enc x).length = s) {w : World} {g : Nat} {t : TypeId} {xs : List α} {rest : List Value} (h : Blk w g t (xs.flatMap enc ++ rest)) {k : Nat} {x : α} (hx : xs[k]? = some x) (j : Nat) (u : Value) (hu : (enc x)[j]? = some u) : w.cell? ⟨g, k * s + j, none⟩ = some u := by
  obtain ⟨hk, rfl⟩ := List.getElem?_eq_some_iff.1 hx
  exact row_cell henc h hk j u hu
theorem row_set (henc : ∀ x, (enc x).length = s) (xs : List α) (rest : List Value) (k : Nat) (y : α) (hk : k < xs.length) : setMany (xs.flatMap enc ++ rest) (k * s) (enc y) = (xs.set k y).flatMap enc ++ rest := by
  have hl := flatMap_len xs (fun x _ => henc x)
  have hl2 := flatMap_len (xs.set k y) (fun x _ => henc x)
  rw [List.length_set] at hl2
  have h1 : (k + 1) * s ≤ xs.length * s := Nat.mul_le_mul_right s hk
  rw [Nat.succ_mul] at h1
  refine List.ext_getElem? fun i => ?_
  rw [setMany_get _ _ _ _ (by rw [henc, List.length_append]; omega), henc]
  by_cases hs : s = 0
  · subst hs
    rw [if_neg (by omega)]
    rw [Nat.mul_zero] at hl hl2
    rw [List.eq_nil_of_length_eq_zero hl, List.eq_nil_of_length_eq_zero hl2]
  by_cases h2 : i < xs.length * s
  · have hd := Nat.div_add_mod' i s
    have hm := Nat.mod_lt i (show 0 < s by omega)
    have hq : i / s < xs.length := Nat.div_lt_of_lt_mul (by rw [Nat.mul_comm]; exact h2)
    have e1 : ∀ (l : List α) (hl : i / s < l.length), (l.flatMap enc ++ rest)[i]? = (enc l[i / s])[i % s]? := fun l hl => by
      have := row_get henc (rest := rest) hl hm
      rwa [hd] at this
    rw [e1 (xs.set k y) (by simpa using hq)]
    by_cases h3 : k * s ≤ i ∧ i < k * s + s
    · rw [if_pos h3]
      have hk2 : i / s = k := by
        have a1 : k ≤ i / s := (Nat.le_div_iff_mul_le (by omega)).2 h3.1
        have a2 : i / s < k + 1 := (Nat.div_lt_iff_lt_mul (by omega)).2 (by rw [Nat.succ_mul]; exact h3.2)
        omega
      have e2 : (xs.set k y)[i / s]'(by simpa using hq) = y := by simp [hk2]
      rw [e2]
      congr 1
      rw [hk2] at hd
      omega
    · rw [if_neg h3, e1 xs hq]
      have hk2 : k ≠ i / s := fun e => h3 (by rw [← e] at hd; omega)
      rw [List.getElem_set_ne hk2]
  · rw [if_neg (by omega), List.getElem?_append_right (by omega), List.getElem?_append_right (by omega), hl, hl2]
theorem swap_at {L M : List α} {p e : α} {m : Nat} (h : L.length = m) : (((L ++ p :: e :: M).set (m + 1) p).set m e) = L ++ e :: p :: M := by
  subst h
  simp
end
/-- What two elements answer, in every later world. -/
structure Compares {α : Type} (g : Nat) (lb : Array Value) (enc : α → Value) (cf : α → α → Int) (D : α → Prop) : Prop where
  enters : ∀ args w, (callFunc g args).run Tryz.prog w = .ok (.enter g args) w
  at' : ∀ (x y : α), D x → D y → ∀ W : World, Calls Tryz.prog g (#[enc x, enc y] ++ lb) W fun e W' => e = .returned (.int .i64 (cf x y)) ∧ Below W.heap.size W W'
def ltOf' {α : Type} (cf : α → α → Int) (x y : α) : Bool := decide (cf x y < 0)
/-- What holds within the round of e: the elements before place m stand, those behind have moved. -/
theorem ins_split {α : Type} {pre P R row : List α} {e : α} {j m : Nat} (hm : m = pre.length + (j + 1)) (hj : j < P.length) (h : row = pre ++ (P.take (j + 1) ++ e :: P.drop (j + 1)) ++ R) :
    ∃ L M, row = L ++ P[j] :: e :: M ∧ L.length + 1 = m ∧ pre ++ (P.take j ++ e :: P.drop j) ++ R = L ++ e :: P[j] :: M := by
  refine ⟨pre ++ P.take j, P.drop (j + 1) ++ R, ?_, ?_, ?_⟩
  · rw [h, List.take_succ_eq_append_getElem hj]; simp only [List.append_assoc, List.cons_append, List.nil_append]
  · rw [List.length_append, List.length_take]; omega
  · have e2 : P.drop j = P[j] :: P.drop (j + 1) := List.drop_eq_getElem_cons hj
    rw [e2]; simp only [List.append_assoc, List.cons_append]
theorem mid_get {α : Type} {L M : List α} {p e : α} : (L ++ p :: e :: M)[L.length]? = some p ∧ (L ++ p :: e :: M)[L.length + 1]? = some e := by
  refine ⟨?_, ?_⟩
  · rw [List.getElem?_append_right (Nat.le_refl _)]; simp
  · rw [List.getElem?_append_right (by omega)]; simp

/-! ### comparing -/
def cmpI (a b : Int) : Int := if a < b then -1 else if b < a then 1 else 0
theorem cmpI_neg (a b : Int) : cmpI a b < 0 ↔ a < b := by unfold cmpI; split <;> (try split) <;> omega
theorem cmpI_zero (a b : Int) : cmpI a b = 0 ↔ a = b := by unfold cmpI; split <;> (try split) <;> omega
def orI : List Int → Int
  | [] => 0
  | x :: l => if x ≠ 0 then x else orI l
theorem orI_bd {l : List Int} (h : ∀ x ∈ l, -1 ≤ x ∧ x ≤ 1) : -1 ≤ orI l ∧ orI l ≤ 1 := by
  induction l with
  | nil => simp [orI]
  | cons x l ih =>
    unfold orI
    split
    · exact h x (by simp)
    · exact ih fun y hy => h y (by simp [hy])
theorem cmpB_zero : ∀ (a b : List UInt8), Lib.compareBytes a b = 0 ↔ a = b
  | [], [] => by simp [Lib.compareBytes]
  | [], _ :: _ => by simp [Lib.compareBytes]
  | _ :: _, [] => by simp [Lib.compareBytes]
  | x :: a, y :: b => by
    have ih := cmpB_zero a b
    unfold Lib.compareBytes
    by_cases h1 : x < y
    · have hne : x ≠ y := fun e => by subst e; exact UInt8.lt_irrefl _ h1
      simp [h1, hne]
    · by_cases h2 : y < x
      · have hne : x ≠ y := fun e => by subst e; exact UInt8.lt_irrefl _ h2
        simp [h1, h2, hne]
      · have he : x = y := UInt8.le_antisymm (UInt8.not_lt.1 h2) (UInt8.not_lt.1 h1)
        simp [ih, he]
theorem cmpB_neg : ∀ (a b : List UInt8), Op.bytesLess a b = decide (Lib.compareBytes a b < 0)
  | [], [] => by simp [Lib.compareBytes, Op.bytesLess]
  | [], _ :: _ => by simp [Lib.compareBytes, Op.bytesLess]
  | _ :: _, [] => by simp [Lib.compareBytes, Op.bytesLess]
  | x :: a, y :: b => by
    have ih := cmpB_neg a b
    unfold Lib.compareBytes Op.bytesLess
    by_cases h1 : x < y
    · simp [h1]
    · by_cases h2 : y < x
      · have hne : x ≠ y := fun e => by subst e; exact UInt8.lt_irrefl _ h2
        simp [h1, h2, hne]
      · have he : x = y := UInt8.le_antisymm (UInt8.not_lt.1 h2) (UInt8.not_lt.1 h1)
        simp [ih, he]
theorem cmpB_bd : ∀ (a b : List UInt8), -1 ≤ Lib.compareBytes a b ∧ Lib.compareBytes a b ≤ 1
  | [], [] => by simp [Lib.compareBytes]
  | [], _ :: _ => by simp [Lib.compareBytes]
  | _ :: _, [] => by simp [Lib.compareBytes]
  | x :: a, y :: b => by
    have ih := cmpB_bd a b
    unfold Lib.compareBytes
    split
    · omega
    · split
      · omega
      · exact ih

end Go.Proofs.YtkchdhmnomelkaaGreat
