/- Plain facts of whole logs: what is read of a text and of its beginning. -/
import Derived.Test.YtlhebjlibhpanaaDoorRecov
namespace Go.Proofs.YtlhebjlibhpanaaDoor
open Go.RowKit

theorem line_size {k : Nat} {e : LogRecord} (h : recB e = true) (hk : k < 60) : (lineT k e).size ≤ 372 := by
  have h1 := body_size (k := k) h (by omega)
  have h2 := sealT_size (bodyT k e)
  have h3 : (⟨#[10]⟩ : ByteArray).size = 1 := rfl
  unfold lineT
  rw [ByteArray.size_append]
  omega
theorem next_size {k n : Nat} {s : ByteArray} {e : LogRecord} (h : nextR k s = some (e, n)) : 1 ≤ n ∧ n ≤ 372 := by
  obtain ⟨_, hk, h1, h2, _⟩ := nextR_some h
  obtain ⟨h3, h4⟩ := okR_some h1
  have h5 := line_size h3 hk
  have h6 : (⟨#[10]⟩ : ByteArray).size = 1 := rfl
  rw [h4, ByteArray.size_append] at h5
  omega
theorem runR_size {s : ByteArray} : ∀ (f : Nat) {x : Recs}, x.at_ ≤ 372 * x.l.length → (runR s f x).at_ ≤ 372 * (runR s f x).l.length
  | 0, _, h => h
  | f + 1, x, h => by
    cases g : nextR x.l.length (s.extract x.at_ s.size) with
    | none => rw [runR_none g]; exact h
    | some r =>
      obtain ⟨e, n⟩ := r
      rw [runR_some g]
      have h1 := (next_size g).2
      exact runR_size f (by show x.at_ + n ≤ 372 * (x.l ++ [e]).length; rw [List.length_append]; simp only [List.length_singleton]; omega)
theorem allR_size (s : ByteArray) : (allR s).at_ ≤ 30000 := by
  have h1 : (allR s).at_ ≤ 372 * (allR s).l.length := by
    rw [← allR_start]
    exact runR_size 61 (Nat.zero_le _)
  have := (allR_ok s).len
  omega
theorem not_mem_take (b : UInt8) : ∀ l : List UInt8, b ∉ l.takeWhile (· != b)
  | [] => by simp
  | c :: l => by
    have ih := not_mem_take b l
    rw [List.takeWhile_cons]
    split
    · rename_i h
      have hc : c ≠ b := by simpa using h
      intro hm
      rcases List.mem_cons.1 hm with e | e
      · exact hc e.symm
      · exact ih e
    · simp
theorem hasC_left {b : UInt8} {u v : ByteArray} (h : hasC b u = true) : hasC b (u ++ v) = true := by rw [hasC_append, h]; rfl
theorem upto_left {b : UInt8} {u v : ByteArray} (h : hasC b u = true) : upto b (u ++ v) = upto b u := by
  have hn : hasC b (upto b u) = false := by
    unfold hasC upto
    rw [← Bool.not_eq_true, List.contains_iff_mem]
    exact not_mem_take _ _
  have h1 : u ++ v = upto b u ++ ⟨#[b]⟩ ++ (past b u ++ v) := by
    rw [← ByteArray.append_assoc, ← cut_split h]
  rw [h1]
  exact (cut_join hn).1
theorem nextR_left {k n : Nat} {u v : ByteArray} {e : LogRecord} (h : nextR k u = some (e, n)) : nextR k (u ++ v) = some (e, n) := by
  obtain ⟨h1, h2, h3, h4, _⟩ := nextR_some h
  unfold nextR
  rw [if_pos ⟨hasC_left h1, h2⟩, upto_left h1, h3, h4]
  rfl
theorem hasC_of_short {b : UInt8} {u v : ByteArray} (h : (upto b (u ++ v)).size < u.size) : hasC b u = true := by
  cases g : hasC b u with
  | true => rfl
  | false =>
    have hall : ∀ x ∈ u.data.toList, (x != b) = true := fun x hx => by
      unfold hasC at g
      rw [← Bool.not_eq_true, List.contains_iff_mem] at g
      have hne : x ≠ b := fun e => g (e ▸ hx)
      simpa using hne
    have h1 : (upto b (u ++ v)).data.toList = u.data.toList ++ v.data.toList.takeWhile (· != b) := by
      show ((u ++ v).data.toList.takeWhile (· != b)).toArray.toList = _
      rw [ByteArray.data_append, Array.toList_append, List.takeWhile_append_of_pos hall]
    have h2 := congrArg List.length h1
    rw [List.length_append, Array.length_toList, Array.length_toList] at h2
    have h3 : (upto b (u ++ v)).size = (upto b (u ++ v)).data.size := rfl
    have h4 : u.size = u.data.size := rfl
    omega
theorem nextR_cut {k n : Nat} {u v : ByteArray} {e : LogRecord} (h : nextR k (u ++ v) = some (e, n)) (hn : n ≤ u.size) : nextR k u = some (e, n) := by
  obtain ⟨_, h2, h3, h4, _⟩ := nextR_some h
  have h1 := hasC_of_short (b := 10) (u := u) (v := v) (by omega)
  rw [upto_left h1] at h3 h4
  unfold nextR
  rw [if_pos ⟨h1, h2⟩, h3, h4]
  rfl
theorem tail_left {u v : ByteArray} {p : Nat} (h : p ≤ u.size) : (u ++ v).extract p (u ++ v).size = u.extract p u.size ++ v := by
  have h1 := join_parts u p h
  have h2 := (take_left (u.extract 0 p) (u.extract p u.size ++ v)).2
  have h3 : (u.extract 0 p).size = p := by simp; omega
  rw [← ByteArray.append_assoc, h1, h3] at h2
  exact h2
theorem ends_keep {s : ByteArray} {y : Nat} : ∀ (f : Nat) {x : Recs}, y ∈ x.ends → y ∈ (runR s f x).ends
  | 0, _, h => h
  | f + 1, x, h => by
    cases g : nextR x.l.length (s.extract x.at_ s.size) with
    | none => rw [runR_none g]; exact h
    | some r =>
      obtain ⟨e, n⟩ := r
      rw [runR_some g]
      exact ends_keep f (List.mem_append_left _ h)
theorem ends_new {s : ByteArray} {y : Nat} : ∀ (f : Nat) {x : Recs}, y ∈ (runR s f x).ends → y ∈ x.ends ∨ x.at_ < y
  | 0, _, h => .inl h
  | f + 1, x, h => by
    cases g : nextR x.l.length (s.extract x.at_ s.size) with
    | none => rw [runR_none g] at h; exact .inl h
    | some r =>
      obtain ⟨e, n⟩ := r
      have h1 := (next_size g).1
      rw [runR_some g] at h
      rcases ends_new f h with h2 | h2
      · rcases List.mem_append.1 h2 with h3 | h3
        · exact .inl h3
        · have h4 : y = x.at_ + n := by simpa using h3
          exact .inr (by omega)
      · have h4 : x.at_ + n < y := h2
        exact .inr (by omega)
theorem run_left {u v : ByteArray} : ∀ (f : Nat) {x : Recs}, x.at_ ≤ u.size → x.at_ ∈ x.ends → (runR u f x).at_ ∈ (runR (u ++ v) f x).ends
  | 0, _, _, h => h
  | f + 1, x, hp, h => by
    cases g : nextR x.l.length (u.extract x.at_ u.size) with
    | none => rw [runR_none g]; exact ends_keep _ h
    | some r =>
      obtain ⟨e, n⟩ := r
      have h1 := (nextR_some g).2.2.2.2
      have h2 : (u.extract x.at_ u.size).size = u.size - x.at_ := by simp
      have g2 : nextR x.l.length ((u ++ v).extract x.at_ (u ++ v).size) = some (e, n) := by rw [tail_left hp]; exact nextR_left g
      rw [runR_some g, runR_some g2]
      exact run_left f (by show x.at_ + n ≤ u.size; omega) (List.mem_append_right _ (List.mem_singleton.2 rfl))
theorem run_cut {u v : ByteArray} : ∀ (f : Nat) {x : Recs}, x.at_ ≤ u.size → (u.size ∈ x.ends → x.at_ = u.size) → u.size ∈ (runR (u ++ v) f x).ends → (runR u f x).at_ = u.size
  | 0, _, _, h0, h => h0 h
  | f + 1, x, hp, h0, h => by
    by_cases he : x.at_ = u.size
    · have g : nextR x.l.length (u.extract x.at_ u.size) = none := by
        cases g : nextR x.l.length (u.extract x.at_ u.size) with
        | none => rfl
        | some r =>
          obtain ⟨e, n⟩ := r
          have h1 := (nextR_some g).2.2.2.2
          have h2 : (u.extract x.at_ u.size).size = u.size - x.at_ := by simp
          have h3 := (next_size g).1
          omega
      rw [runR_none g]; exact he
    · cases g : nextR x.l.length ((u ++ v).extract x.at_ (u ++ v).size) with
      | none => rw [runR_none g] at h; exact absurd (h0 h) he
      | some r =>
        obtain ⟨e, n⟩ := r
        have h2 : (u.extract x.at_ u.size).size = u.size - x.at_ := by simp
        rw [runR_some g] at h
        by_cases hn : x.at_ + n ≤ u.size
        · rw [tail_left hp] at g
          have g2 := nextR_cut g (by omega)
          rw [runR_some g2]
          refine run_cut f hn (fun hm => ?_) h
          rcases List.mem_append.1 hm with h3 | h3
          · exact absurd (h0 h3) he
          · exact (by simpa using h3 : u.size = x.at_ + n).symm
        · rcases ends_new f h with h3 | h3
          · rcases List.mem_append.1 h3 with h4 | h4
            · exact absurd (h0 h4) he
            · have h5 : u.size = x.at_ + n := by simpa using h4
              omega
          · have h4 : x.at_ + n < u.size := h3
            omega
/-- An end of a log's text stands where its durable part ends exactly if that part is a log by itself. -/
theorem ends_iff (u v : ByteArray) : u.size ∈ (allR (u ++ v)).ends ↔ (allR u).at_ = u.size := by
  rw [← allR_start, ← allR_start]
  constructor
  · exact run_cut 61 (Nat.zero_le _) (fun h => (List.mem_singleton.1 h).symm)
  · intro h
    have := run_left (u := u) (v := v) 61 (x := ⟨[], [0], 0⟩) (Nat.zero_le _) (List.mem_singleton.2 rfl)
    rw [h] at this
    exact this

end Go.Proofs.YtlhebjlibhpanaaDoor

