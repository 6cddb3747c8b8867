/- Joined texts of this proof: RunJ, SortP. -/
import Derived.Lib.Bytealg
import Derived.Test.YtflpcdffmpfdpaaGreatDoorP18
import Derived.Test.YtflpcdffmpfdpaaGreatDoorP02
namespace Go.Proofs.YtflpcdffmpfdpaaGreatDoor
open Go.RowKit

set_option maxRecDepth 100000 in
theorem canJudge_any (A : Option Addr) (n c : Nat) (xs : List RunE) (B : Option Addr) (m e : Nat) (cs : List Int) (limit : Int) (w : World) (hx : SeesC w 0 A n xs) (hn : n ≤ 1048576) (hi : ∀ x ∈ xs, x.punches.length ≤ 1048576) (hy : Sees w 0 1 B m (ints cs)) (hm : m ≤ 1048576) :
    Calls Tryz.prog 177 #[.slice A n c, .slice B m e, .int .i64 limit] w fun e' w' => e' = .returned (.bool (judgeB xs cs limit)) ∧ Below w.heap.size w w' := by
  obtain ⟨r1, h1⟩ : ∃ r1, areRunsB xs = r1 := ⟨_, rfl⟩
  obtain ⟨r2, h2⟩ : ∃ r2, codesB cs = r2 := ⟨_, rfl⟩
  obtain ⟨r3, h3⟩ : ∃ r3, inB limit 1 36000 = r3 := ⟨_, rfl⟩
  have HR := Lib.hid (show judgeB xs cs limit = (r1 && (r2 && r3)) by unfold judgeB; rw [h1, h2, h3])
  have H1 := Lib.hid h1
  have H2 := Lib.hid h2
  have H3 := Lib.hid h3
  clear h1 h2 h3
  go_enter Tryz.func177, Tryz.ntmps177
  go_wp2_with fail
  refine (AreRuns_any A n c xs w hx hn hi).mono ?_
  rw [H1.out]
  rintro e9 w1 ⟨rfl, b1⟩
  cases r1
  · go_wp2_with fail
    go_ret
    rw [HR.out]
    exact ⟨rfl, b1⟩
  go_wp2_with fail
  refine (areCodes_any B m e cs w1 (hy.next b1) hm).mono ?_
  rw [H2.out]
  rintro e w2 ⟨rfl, b2⟩
  have K2 := bel_then b1 b2
  cases r2
  · go_wp2_with fail
    go_ret
    rw [HR.out]
    exact ⟨rfl, K2⟩
  go_wp2_with (go_at_call 70; refine (inside_any _ _ _ _).mono ?_; rw [H3.out]; rintro e w' ⟨rfl, rfl⟩)
  go_ret
  rw [HR.out]
  exact ⟨ret_bool (by cases r3 <;> rfl), K2⟩

set_option maxRecDepth 100000 in
theorem l15Asked_any (A : Option Addr) (n c : Nat) (xs : List RunE) (B : Option Addr) (m e : Nat) (cs : List Int) (limit : Int) (w : World) (hx : SeesC w 0 A n xs) (hn : n ≤ 1048576) (hi : ∀ x ∈ xs, x.punches.length ≤ 1048576) (hy : Sees w 0 1 B m (ints cs)) (hm : m ≤ 1048576) :
    Calls Tryz.prog 124 #[.slice A n c, .slice B m e, .int .i64 limit] w fun e' w' => e' = .returned (.bool (judgeB xs cs limit)) ∧ Below w.heap.size w w' := by
  obtain ⟨r1, h1⟩ : ∃ r1, areRunsB xs = r1 := ⟨_, rfl⟩
  obtain ⟨r2, h2⟩ : ∃ r2, codesB cs = r2 := ⟨_, rfl⟩
  obtain ⟨r3, h3⟩ : ∃ r3, inB limit 1 36000 = r3 := ⟨_, rfl⟩
  have HR := Lib.hid (show judgeB xs cs limit = (r1 && (r2 && r3)) by unfold judgeB; rw [h1, h2, h3])
  have H1 := Lib.hid h1
  have H2 := Lib.hid h2
  have H3 := Lib.hid h3
  clear h1 h2 h3
  go_enter Tryz.func124, Tryz.ntmps124
  go_wp2_with fail
  refine (l15Good_any A n c xs w hx hn hi).mono ?_
  rw [H1.out]
  rintro e9 w1 ⟨rfl, b1⟩
  cases r1
  · go_wp2_with fail
    go_ret
    rw [HR.out]
    exact ⟨rfl, b1⟩
  go_wp2_with fail
  refine (l12Codes_any B m e cs w1 (hy.next b1) hm).mono ?_
  rw [H2.out]
  rintro e w2 ⟨rfl, rfl⟩
  have K2 := b1
  cases r2
  · go_wp2_with fail
    go_ret
    rw [HR.out]
    exact ⟨rfl, K2⟩
  go_wp2_with (go_at_call 111; refine (l1In_any _ _ _ _).mono ?_; rw [H3.out]; rintro e w' ⟨rfl, rfl⟩)
  go_ret
  rw [HR.out]
  exact ⟨ret_bool (by cases r3 <;> rfl), K2⟩

end Go.Proofs.YtflpcdffmpfdpaaGreatDoor

namespace Go.Proofs.YtflpcdffmpfdpaaGreatDoor
open Go.RowKit

section
variable {α : Type} (lt : α → α → Bool)
/-- where e goes, sought from place k downwards -/
def posR (P : List α) (e : α) : Nat → Nat
  | 0 => 0
  | k + 1 => match P[k]? with
    | some p => if lt e p then posR P e k else k + 1
    | none => k + 1
def insR (P : List α) (e : α) : List α := P.take (posR lt P e P.length) ++ e :: P.drop (posR lt P e P.length)
def sortR (xs : List α) : List α := xs.foldl (insR lt) []
theorem posR_yes {P : List α} {e : α} {k : Nat} (hk : k < P.length) (h : lt e P[k] = true) : posR lt P e (k + 1) = posR lt P e k := by
  simp [posR, List.getElem?_eq_getElem hk, h]
theorem posR_no {P : List α} {e : α} {k : Nat} (hk : k < P.length) (h : lt e P[k] = false) : posR lt P e (k + 1) = k + 1 := by
  simp [posR, List.getElem?_eq_getElem hk, h]
theorem insR_at {P : List α} {e : α} {k : Nat} (h : posR lt P e P.length = k) : insR lt P e = P.take k ++ e :: P.drop k := by
  unfold insR; rw [h]
theorem insR_perm (P : List α) (e : α) : (insR lt P e).Perm (e :: P) := by
  unfold insR
  refine (List.perm_middle).trans (List.Perm.cons _ ?_)
  rw [List.take_append_drop]
theorem sortR_nil : sortR lt ([] : List α) = [] := rfl
theorem sortR_one (x : α) : sortR lt [x] = [x] := rfl
theorem sortR_snoc (l : List α) (x : α) : sortR lt (l ++ [x]) = insR lt (sortR lt l) x := by simp [sortR]
theorem sortR_next {l : List α} {k : Nat} (h : k < l.length) : sortR lt (l.take (k + 1)) = insR lt (sortR lt (l.take k)) l[k] := by
  rw [List.take_succ_eq_append_getElem h, sortR_snoc]
theorem foldl_insR_perm : ∀ (l acc : List α), (l.foldl (insR lt) acc).Perm (acc ++ l)
  | [], acc => by simp
  | x :: l, acc => by
    rw [List.foldl_cons]
    refine (foldl_insR_perm l _).trans ?_
    refine ((insR_perm lt acc x).append_right l).trans ?_
    exact (List.perm_middle (l₁ := acc) (a := x) (l₂ := l)).symm
theorem sortR_perm (xs : List α) : (sortR lt xs).Perm xs := by simpa [sortR] using foldl_insR_perm lt xs []
theorem sortR_length (xs : List α) : (sortR lt xs).length = xs.length := (sortR_perm lt xs).length_eq
theorem sortR_mem {xs : List α} {x : α} : x ∈ sortR lt xs ↔ x ∈ xs := (sortR_perm lt xs).mem_iff
end

section
variable {α : Type} {enc : α → List Value} {s : Nat}
theorem row_get (henc : ∀ x, (enc x).length = s) {xs : List α} {rest : List Value} {k j : Nat} (hk : k < xs.length) (hj : j < s) : (xs.flatMap enc ++ rest)[k * s + j]? = (enc xs[k])[j]? := by
  have hl := flatMap_len xs (fun x _ => henc x)
  have h1 : (k + 1) * s ≤ xs.length * s := Nat.mul_le_mul_right s hk
  rw [Nat.succ_mul] at h1
  rw [List.getElem?_append_left (by omega), flatMap_get xs (fun x _ => henc x) k j hk hj]
theorem row_cell (henc : ∀ x, (enc x).length = s) {w : World} {g : Nat} {t : TypeId} {xs : List α} {rest : List Value} (h : Blk w g t (xs.flatMap enc ++ rest)) {k : Nat} (hk : k < xs.length) (j : Nat) (u : Value) (hu : (enc xs[k])[j]? = some u) : w.cell? ⟨g, k * s + j, none⟩ = some u := by
  have hj : j < s := by
    have := (List.getElem?_eq_some_iff.1 hu).1
    rwa [henc] at this
  rw [h.cell, row_get henc hk hj, hu]
theorem row_cell? (henc : ∀ x, (enc x).length = s) {w : World} {g : Nat} {t : TypeId} {xs : List α} {rest : List Value} (h : Blk w g t (xs.flatMap enc ++ rest)) {k : Nat} {x : α} (hx : xs[k]? = some x) (j : Nat) (u : Value) (hu : (enc x)[j]? = some u) : w.cell? ⟨g, k * s + j, none⟩ = some u := by
  obtain ⟨hk, rfl⟩ := List.getElem?_eq_some_iff.1 hx
  exact row_cell henc h hk j u hu
theorem row_set (henc : ∀ x, (enc x).length = s) (xs : List α) (rest : List Value) (k : Nat) (y : α) (hk : k < xs.length) : setMany (xs.flatMap enc ++ rest) (k * s) (enc y) = (xs.set k y).flatMap enc ++ rest := by
  have hl := flatMap_len xs (fun x _ => henc x)
  have hl2 := flatMap_len (xs.set k y) (fun x _ => henc x)
  rw [List.length_set] at hl2
  have h1 : (k + 1) * s ≤ xs.length * s := Nat.mul_le_mul_right s hk
  rw [Nat.succ_mul] at h1
  refine List.ext_getElem? fun i => ?_
  rw [setMany_get _ _ _ _ (by rw [henc, List.length_append]; omega), henc]
  by_cases hs : s = 0
  · subst hs
    rw [if_neg (by omega)]
    rw [Nat.mul_zero] at hl hl2
    rw [List.eq_nil_of_length_eq_zero hl, List.eq_nil_of_length_eq_zero hl2]
  by_cases h2 : i < xs.length * s
  · have hd := Nat.div_add_mod' i s
    have hm := Nat.mod_lt i (show 0 < s by omega)
    have hq : i / s < xs.length := Nat.div_lt_of_lt_mul (by rw [Nat.mul_comm]; exact h2)
    have e1 : ∀ (l : List α) (hl : i / s < l.length), (l.flatMap enc ++ rest)[i]? = (enc l[i / s])[i % s]? := fun l hl => by
      have := row_get henc (rest := rest) hl hm
      rwa [hd] at this
    rw [e1 (xs.set k y) (by simpa using hq)]
    by_cases h3 : k * s ≤ i ∧ i < k * s + s
    · rw [if_pos h3]
      have hk2 : i / s = k := by
        have a1 : k ≤ i / s := (Nat.le_div_iff_mul_le (by omega)).2 h3.1
        have a2 : i / s < k + 1 := (Nat.div_lt_iff_lt_mul (by omega)).2 (by rw [Nat.succ_mul]; exact h3.2)
        omega
      have e2 : (xs.set k y)[i / s]'(by simpa using hq) = y := by simp [hk2]
      rw [e2]
      congr 1
      rw [hk2] at hd
      omega
    · rw [if_neg h3, e1 xs hq]
      have hk2 : k ≠ i / s := fun e => h3 (by rw [← e] at hd; omega)
      rw [List.getElem_set_ne hk2]
  · rw [if_neg (by omega), List.getElem?_append_right (by omega), List.getElem?_append_right (by omega), hl, hl2]
theorem swap_at {L M : List α} {p e : α} {m : Nat} (h : L.length = m) : (((L ++ p :: e :: M).set (m + 1) p).set m e) = L ++ e :: p :: M := by
  subst h
  simp
end
/-- What two elements answer, in every later world. -/
structure Compares {α : Type} (g : Nat) (lb : Array Value) (enc : α → Value) (cf : α → α → Int) (D : α → Prop) : Prop where
  enters : ∀ args w, (callFunc g args).run Tryz.prog w = .ok (.enter g args) w
  at' : ∀ (x y : α), D x → D y → ∀ W : World, Calls Tryz.prog g (#[enc x, enc y] ++ lb) W fun e W' => e = .returned (.int .i64 (cf x y)) ∧ Below W.heap.size W W'
def ltOf' {α : Type} (cf : α → α → Int) (x y : α) : Bool := decide (cf x y < 0)
/-- What holds within the round of e: the elements before place m stand, those behind have moved. -/
theorem ins_split {α : Type} {pre P R row : List α} {e : α} {j m : Nat} (hm : m = pre.length + (j + 1)) (hj : j < P.length) (h : row = pre ++ (P.take (j + 1) ++ e :: P.drop (j + 1)) ++ R) :
    ∃ L M, row = L ++ P[j] :: e :: M ∧ L.length + 1 = m ∧ pre ++ (P.take j ++ e :: P.drop j) ++ R = L ++ e :: P[j] :: M := by
  refine ⟨pre ++ P.take j, P.drop (j + 1) ++ R, ?_, ?_, ?_⟩
  · rw [h, List.take_succ_eq_append_getElem hj]; simp only [List.append_assoc, List.cons_append, List.nil_append]
  · rw [List.length_append, List.length_take]; omega
  · have e2 : P.drop j = P[j] :: P.drop (j + 1) := List.drop_eq_getElem_cons hj
    rw [e2]; simp only [List.append_assoc, List.cons_append]
theorem mid_get {α : Type} {L M : List α} {p e : α} : (L ++ p :: e :: M)[L.length]? = some p ∧ (L ++ p :: e :: M)[L.length + 1]? = some e := by
  refine ⟨?_, ?_⟩
  · rw [List.getElem?_append_right (Nat.le_refl _)]; simp
  · rw [List.getElem?_append_right (by omega)]; simp

def cmpI (a b : Int) : Int := if a < b then -1 else if b < a then 1 else 0
theorem cmpI_neg (a b : Int) : cmpI a b < 0 ↔ a < b := by unfold cmpI; split <;> (try split) <;> omega
end Go.Proofs.YtflpcdffmpfdpaaGreatDoor
