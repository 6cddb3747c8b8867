/- Clock times read back from their texts: the plain law. No walk is in this text. -/
import Derived.Test.YtbcblmbpjecilaaGreatDoorClock
import Derived.Lib.SplitLaws
import Derived.Lib.IndexMore
import Derived.Lib.Atoi
namespace Go.Proofs.YtbcblmbpjecilaaGreatDoor
open Go.RowKit

/-- The numbers of words put together: sixty of each make one of the next. -/
def goW : Int → List ByteArray → Option Int
  | acc, [] => some acc
  | acc, x :: l => match Lib.atoi x.data.toList with
    | some v => if 0 ≤ v ∧ v ≤ 59 then goW (60 * acc + v) l else none
    | none => none
def goL : Int → List (List UInt8) → Option Int
  | acc, [] => some acc
  | acc, x :: l => match Lib.atoi x with
    | some v => if 0 ≤ v ∧ v ≤ 59 then goL (60 * acc + v) l else none
    | none => none
theorem goW_goL : ∀ (l : List ByteArray) (acc : Int), goW acc l = goL acc (l.map (·.data.toList))
  | [], _ => rfl
  | x :: l, acc => by
    simp only [List.map_cons, goW, goL]
    split
    · split
      · exact goW_goL l _
      · rfl
    · rfl
def words (s : ByteArray) : List ByteArray := Lib.splitB ⟨#[58]⟩ 0 (Lib.countB s ⟨#[58]⟩) s
/-- The reference's reading. -/
def goS : Int → Int → List UInt8 → Int
  | n, part, [] => n + part
  | n, part, b :: l => if b = 58 then goS (60 * (n + part)) 0 l else goS n (10 * part + (b.toNat : Int) - 48) l
def isClock (t : Int) (s : ByteArray) : Bool := decide (0 ≤ t ∧ t ≤ 36000) && decide (clockT t.toNat = s)
def parseT (s : ByteArray) : Int × Bool := if s.size ≤ 8 then (if isClock (goS 0 0 s.data.toList) s = true then (goS 0 0 s.data.toList, true) else (0, false)) else (0, false)

theorem index_cut : ∀ (A B : List UInt8), (∀ c ∈ A, c ≠ 58) → Lib.indexByte (A ++ 58 :: B) 58 = A.length
  | [], B, _ => by simp [Lib.indexByte]
  | a :: A, B, h => by
    have ha : (a == 58) = false := by simpa using h a (by simp)
    have ih := index_cut A B (fun c hc => h c (by simp [hc]))
    rw [List.cons_append, Lib.indexByte, ha, ih]
    have : ¬ (((A.length : Int)) == -1) = true := by rw [beq_iff_eq]; omega
    simp only [Bool.false_eq_true, if_false, if_neg this, List.length_cons]
    omega
theorem split_cut (A B : List UInt8) (k : Nat) (h : ∀ c ∈ A, c ≠ 58) : Lib.splitK [58] 0 (k + 1) (A ++ 58 :: B) = A :: Lib.splitK [58] 0 k B := by
  rw [Lib.splitK, Lib.index_one, index_cut A B h]
  have : ¬ (((A.length : Int)) == -1) = true := by rw [beq_iff_eq]; omega
  rw [if_neg this]
  simp only [Int.toNat_natCast, Nat.add_zero, List.length_cons, List.length_nil, Nat.zero_add]
  rw [List.take_left, List.drop_append, List.drop_eq_nil_of_le (by omega)]
  simp
theorem count_none (A : List UInt8) (h : ∀ c ∈ A, c ≠ 58) : A.count 58 = 0 := List.count_eq_zero.2 fun hm => h 58 hm rfl
/-- Two words, three words. -/
theorem split2 (A B : List UInt8) (hA : ∀ c ∈ A, c ≠ 58) (hB : ∀ c ∈ B, c ≠ 58) : Lib.split (A ++ 58 :: B) [58] = [A, B] := by
  have hc : Lib.count (A ++ 58 :: B) [58] = 1 := by rw [Lib.count_one, List.count_append, List.count_cons, count_none A hA, count_none B hB]; rfl
  rw [Lib.split, hc, split_cut A B 0 hA]; rfl
theorem split3 (A B C : List UInt8) (hA : ∀ c ∈ A, c ≠ 58) (hB : ∀ c ∈ B, c ≠ 58) (hC : ∀ c ∈ C, c ≠ 58) : Lib.split (A ++ 58 :: (B ++ 58 :: C)) [58] = [A, B, C] := by
  have hc : Lib.count (A ++ 58 :: (B ++ 58 :: C)) [58] = 2 := by rw [Lib.count_one, List.count_append, List.count_cons, List.count_append, List.count_cons, count_none A hA, count_none B hB, count_none C hC]; rfl
  rw [Lib.split, hc, split_cut A _ 1 hA, split_cut B C 0 hB]; rfl
theorem words_lists (s : ByteArray) : (words s).map (·.data.toList) = Lib.split s.data.toList [58] := by
  unfold words
  rw [Lib.splitB_data]; rfl

def dig (n : Nat) : UInt8 := UInt8.ofNat (48 + n)
theorem dig_val {n : Nat} (h : n < 10) : (dig n).toNat = 48 + n := by unfold dig; rw [UInt8.toNat_ofNat']; omega
theorem dig_ne {n : Nat} (h : n < 10) : dig n ≠ 58 := fun e => by
  have := dig_val h
  rw [e] at this
  have : (58 : UInt8).toNat = 58 := rfl
  omega
theorem goS_dig {n : Nat} (h : n < 10) (a p : Int) (l : List UInt8) : goS a p (dig n :: l) = goS a (10 * p + n) l := by
  rw [goS, if_neg (dig_ne h), dig_val h]
  congr 1
  omega
theorem goS_col (a p : Int) (l : List UInt8) : goS a p (58 :: l) = goS (60 * (a + p)) 0 l := by rw [goS, if_pos rfl]
theorem num_list {n : Nat} (h : n < 10) : (numT n).data.toList = [dig n] := by rw [numT_small h]; rfl
theorem two_list {n : Nat} (h : n < 100) : (twoT n).data.toList = [dig (n / 10), dig (n % 10)] := by
  unfold twoT
  rw [ByteArray.data_append, Array.toList_append, num_list (by omega), num_list (by omega)]; rfl
theorem hour_list {n : Nat} (h : n ≤ 10) : (numT n).data.toList = if n < 10 then [dig n] else [dig 1, dig 0] := by
  by_cases h1 : n < 10
  · rw [if_pos h1, num_list h1]
  · obtain rfl : n = 10 := by omega
    rw [if_neg h1, numT_big (by decide), ByteArray.data_append, Array.toList_append, num_list (by decide)]; rfl
theorem dv {n : Nat} (h : n < 10) : Lib.digitVal (dig n) = some n := by
  unfold Lib.digitVal
  rw [dig_val h, if_pos (by omega)]
  congr 1
  omega
theorem dig_sign {n : Nat} (h : n < 10) : (dig n == 45) = false ∧ (dig n == 43) = false := by
  constructor <;>
  · rw [beq_eq_false_iff_ne]
    intro e
    have := dig_val h
    rw [e] at this
    have h1 : (45 : UInt8).toNat = 45 := rfl
    have h2 : (43 : UInt8).toNat = 43 := rfl
    omega
theorem atoi1 {n : Nat} (h : n < 10) : Lib.atoi [dig n] = some (n : Int) := by
  simp [Lib.atoi, dig_sign h, Lib.decNat, Lib.decFrom, dv h]
theorem atoi2 {a b : Nat} (h : a < 10) (h' : b < 10) : Lib.atoi [dig a, dig b] = some ((10 * a + b : Nat) : Int) := by
  simp [Lib.atoi, dig_sign h, Lib.decNat, Lib.decFrom, dv h, dv h']
  omega
theorem two_ne {n : Nat} (h : n < 100) : ∀ c ∈ (twoT n).data.toList, c ≠ 58 := by
  rw [two_list h]
  intro c hc
  simp only [List.mem_cons, List.not_mem_nil, or_false] at hc
  rcases hc with rfl | rfl
  · exact dig_ne (by omega)
  · exact dig_ne (by omega)
theorem hour_ne {n : Nat} (h : n ≤ 10) : ∀ c ∈ (numT n).data.toList, c ≠ 58 := by
  rw [hour_list h]
  split
  · intro c hc
    obtain rfl := List.mem_singleton.1 hc
    exact dig_ne (by assumption)
  · intro c hc
    simp only [List.mem_cons, List.not_mem_nil, or_false] at hc
    rcases hc with rfl | rfl
    · exact dig_ne (by decide)
    · exact dig_ne (by decide)
theorem clock_list (t : Nat) : (clockT t).data.toList = if 3600 ≤ t then (numT (t / 3600)).data.toList ++ 58 :: ((twoT (t / 60 % 60)).data.toList ++ 58 :: (twoT (t % 60)).data.toList) else (twoT (t / 60 % 60)).data.toList ++ 58 :: (twoT (t % 60)).data.toList := by
  unfold clockT
  split
  · simp only [ByteArray.data_append, Array.toList_append, List.append_assoc]; rfl
  · simp only [ByteArray.data_append, Array.toList_append, List.append_assoc]; rfl
theorem goL_two {n : Nat} (h : n < 60) (acc : Int) (l : List (List UInt8)) : goL acc ((twoT n).data.toList :: l) = goL (60 * acc + n) l := by
  have e : (((10 * (n / 10) + n % 10 : Nat)) : Int) = (n : Int) := by omega
  rw [two_list (by omega), goL, atoi2 (by omega) (by omega), e]
  simp only
  rw [if_pos (by omega)]
theorem goL_hour {n : Nat} (h : n ≤ 10) (acc : Int) (l : List (List UInt8)) : goL acc ((numT n).data.toList :: l) = goL (60 * acc + n) l := by
  rw [hour_list h]
  by_cases h1 : n < 10
  · rw [if_pos h1, goL, atoi1 h1]
    simp only
    rw [if_pos (by omega)]
  · obtain rfl : n = 10 := by omega
    rw [if_neg h1, goL, atoi2 (by decide) (by decide)]
    rfl
theorem goW_clock (t : Nat) (ht : t ≤ 36000) : goW 0 (words (clockT t)) = some (t : Int) := by
  rw [goW_goL, words_lists, clock_list]
  split
  · rw [split3 _ _ _ (hour_ne (by omega)) (two_ne (by omega)) (two_ne (by omega)), goL_hour (by omega), goL_two (by omega), goL_two (by omega), goL]
    congr 1
    omega
  · rw [split2 _ _ (two_ne (by omega)) (two_ne (by omega)), goL_two (by omega), goL_two (by omega), goL]
    congr 1
    omega
theorem goS_two {n : Nat} (h : n < 60) (a : Int) (l : List UInt8) : goS a 0 ((twoT n).data.toList ++ l) = goS a n l := by
  rw [two_list (by omega), List.cons_append, List.cons_append, List.nil_append, goS_dig (by omega), goS_dig (by omega)]
  congr 1
  omega
theorem goS_hour {n : Nat} (h : n ≤ 10) (a : Int) (l : List UInt8) : goS a 0 ((numT n).data.toList ++ l) = goS a n l := by
  rw [hour_list h]
  by_cases h1 : n < 10
  · rw [if_pos h1, List.cons_append, List.nil_append, goS_dig h1]
    congr 1
    omega
  · obtain rfl : n = 10 := by omega
    rw [if_neg h1, List.cons_append, List.cons_append, List.nil_append, goS_dig (by decide), goS_dig (by decide)]
    rfl
theorem goS_clock (t : Nat) (ht : t ≤ 36000) : goS 0 0 (clockT t).data.toList = (t : Int) := by
  have hend : ∀ n : Nat, n < 60 → ∀ a : Int, goS a 0 (twoT n).data.toList = a + n := fun n hn a => by
    have := goS_two hn a []
    rw [List.append_nil] at this
    rw [this, goS]
  rw [clock_list]
  split
  · rw [goS_hour (by omega), goS_col, goS_two (by omega), goS_col, hend _ (by omega)]
    omega
  · rw [goS_two (by omega), goS_col, hend _ (by omega)]
    omega
theorem isClock_true {t : Int} {s : ByteArray} (h : isClock t s = true) : 0 ≤ t ∧ t ≤ 36000 ∧ clockT t.toNat = s := by
  unfold isClock at h
  simp only [Bool.and_eq_true, decide_eq_true_eq] at h
  exact ⟨h.1.1, h.1.2, h.2⟩
theorem isClock_mk {t : Int} {s : ByteArray} (h : 0 ≤ t ∧ t ≤ 36000) (hs : clockT t.toNat = s) : isClock t s = true := by
  unfold isClock
  rw [decide_eq_true h, decide_eq_true hs]; rfl
/-- What the program reads is what the reference reads. -/
theorem parse_some {s : ByteArray} (hs : s.size ≤ 8) {t : Int} (hg : goW 0 (words s) = some t) : (isClock t s = true → parseT s = (t, true)) ∧ (isClock t s = false → parseT s = (0, false)) := by
  constructor
  · intro h
    obtain ⟨h0, h1, h2⟩ := isClock_true h
    have e : goS 0 0 s.data.toList = t := by rw [← h2, goS_clock _ (by omega)]; omega
    unfold parseT
    rw [if_pos hs, e, if_pos h]
  · intro h
    unfold parseT
    rw [if_pos hs, if_neg]
    intro h'
    obtain ⟨h0, h1, h2⟩ := isClock_true h'
    have e := goW_clock (goS 0 0 s.data.toList).toNat (by omega)
    rw [h2, hg, Option.some.injEq] at e
    rw [show goS 0 0 s.data.toList = t by omega, h] at h'
    cases h'
theorem parse_none {s : ByteArray} (hg : goW 0 (words s) = none) : parseT s = (0, false) := by
  unfold parseT
  split
  · rw [if_neg]
    intro h'
    obtain ⟨h0, h1, h2⟩ := isClock_true h'
    have e := goW_clock (goS 0 0 s.data.toList).toNat (by omega)
    rw [h2, hg] at e
    cases e
  · rfl
theorem parse_long {s : ByteArray} (hs : 8 < s.size) : parseT s = (0, false) := by unfold parseT; rw [if_neg (by omega)]
/-- A clock time is read back. -/
theorem parse_clock (t : Nat) (ht : t ≤ 36000) (hs : (clockT t).size ≤ 8) : parseT (clockT t) = ((t : Int), true) :=
  (parse_some hs (goW_clock t ht)).1 (isClock_mk (by omega) (by rw [Int.toNat_natCast]))
theorem words_small {s : ByteArray} (hs : s.size ≤ 8) : (words s).length ≤ 9 := by
  have := Lib.splitB_length_le ⟨#[58]⟩ 0 (Lib.countB s ⟨#[58]⟩) s
  have h2 := Lib.countB_le ⟨#[58]⟩ (by decide) s.size s (Nat.le_refl _)
  unfold words
  omega
theorem split_sizes (sep : ByteArray) : ∀ (k : Nat) (s x : ByteArray), x ∈ Lib.splitB sep 0 k s → x.size ≤ s.size
  | 0, s, x, h => by
    rw [Lib.splitB_zero] at h
    rw [List.mem_singleton.1 h]
    exact Nat.le_refl _
  | k + 1, s, x, h => by
    unfold Lib.splitB at h
    split at h
    · rw [List.mem_singleton.1 h]
      exact Nat.le_refl _
    · rcases List.mem_cons.1 h with h | h
      · rw [h, ByteArray.size_extract]; omega
      · have := split_sizes sep k _ x h
        rw [ByteArray.size_extract] at this
        omega
theorem words_sizes {s x : ByteArray} (h : x ∈ words s) : x.size ≤ s.size := split_sizes _ _ _ _ h

end Go.Proofs.YtbcblmbpjecilaaGreatDoor
