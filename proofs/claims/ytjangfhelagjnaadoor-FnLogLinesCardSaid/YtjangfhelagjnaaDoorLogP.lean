/- Plain facts of logs: what is appended, torn, recovered. -/
import Derived.Test.YtjangfhelagjnaaDoorCrashL
import Derived.Test.YtjangfhelagjnaaDoorLogRs
namespace Go.Proofs.YtjangfhelagjnaaDoor
open Go.RowKit

theorem all_of (s : ByteArray) : s.extract 0 s.size = s := by simp
theorem run_grows {s : ByteArray} : ∀ (f : Nat) (x : Recs), ∃ t, (runR s f x).l = x.l ++ t ∧ x.at_ ≤ (runR s f x).at_
  | 0, x => ⟨[], by simp [runR], Nat.le_refl _⟩
  | f + 1, x => by
    cases g : nextR x.l.length (s.extract x.at_ s.size) with
    | none => rw [runR_none g]; exact ⟨[], by simp, Nat.le_refl _⟩
    | some r =>
      obtain ⟨e, n⟩ := r
      rw [runR_some g]
      obtain ⟨t, h1, h2⟩ := run_grows f ⟨x.l ++ [e], x.ends ++ [x.at_ + n], x.at_ + n⟩
      exact ⟨e :: t, by rw [h1]; simp, Nat.le_trans (Nat.le_add_right _ _) h2⟩
theorem run_prefix {u v : ByteArray} : ∀ (f : Nat) (x : Recs), x.at_ ≤ u.size → ∃ t, (runR (u ++ v) f x).l = (runR u f x).l ++ t ∧ (runR u f x).at_ ≤ (runR (u ++ v) f x).at_
  | 0, x, _ => ⟨[], by simp [runR], Nat.le_refl _⟩
  | f + 1, x, hp => by
    cases g : nextR x.l.length (u.extract x.at_ u.size) with
    | none => rw [runR_none g]; exact run_grows _ _
    | some r =>
      obtain ⟨e, n⟩ := r
      have h1 := (nextR_some g).2.2.2.2
      have h2 : (u.extract x.at_ u.size).size = u.size - x.at_ := by simp
      have g2 : nextR x.l.length ((u ++ v).extract x.at_ (u ++ v).size) = some (e, n) := by rw [tail_left hp]; exact nextR_left g
      rw [runR_some g, runR_some g2]
      exact run_prefix f _ (by show x.at_ + n ≤ u.size; omega)
theorem run_eq {u v : ByteArray} : ∀ (f : Nat) (x : Recs), x.at_ ≤ u.size → (runR (u ++ v) f x).at_ ≤ u.size → runR u f x = runR (u ++ v) f x
  | 0, _, _, _ => rfl
  | f + 1, x, hp, h => by
    cases g : nextR x.l.length ((u ++ v).extract x.at_ (u ++ v).size) with
    | none =>
      have g2 : nextR x.l.length (u.extract x.at_ u.size) = none := by
        cases g2 : nextR x.l.length (u.extract x.at_ u.size) with
        | none => rfl
        | some r =>
          obtain ⟨e, n⟩ := r
          rw [tail_left hp, nextR_left g2] at g
          cases g
      rw [runR_none g, runR_none g2]
    | some r =>
      obtain ⟨e, n⟩ := r
      rw [runR_some g] at h ⊢
      obtain ⟨t, _, h3⟩ := run_grows (s := u ++ v) f ⟨x.l ++ [e], x.ends ++ [x.at_ + n], x.at_ + n⟩
      have h4 : x.at_ + n ≤ u.size := Nat.le_trans h3 h
      have h2 : (u.extract x.at_ u.size).size = u.size - x.at_ := by simp
      have g2 : nextR x.l.length (u.extract x.at_ u.size) = some (e, n) := by
        rw [tail_left hp] at g
        exact nextR_cut g (by omega)
      rw [runR_some g2]
      exact run_eq f _ h4 h
theorem next_end (k : Nat) {s : ByteArray} (h : s.size = 0) : nextR k s = none := by
  cases g : nextR k s with
  | none => rfl
  | some r =>
    obtain ⟨e, n⟩ := r
    have h1 := (nextR_some g).2.2.2.2
    have h2 := (next_size g).1
    omega
theorem run_push {s t : ByteArray} {e : LogRecord} : ∀ (f : Nat) (x : Recs), x.at_ ≤ s.size → (runR s f x).at_ = s.size → nextR (runR s f x).l.length t = some (e, t.size) → (runR s f x).l.length < x.l.length + f →
    runR (s ++ t) f x = ⟨(runR s f x).l ++ [e], (runR s f x).ends ++ [s.size + t.size], s.size + t.size⟩
  | 0, x, _, _, _, h => by
    have h1 : x.l.length < x.l.length + 0 := h
    omega
  | f + 1, x, hp, ha, hn, hf => by
    cases g : nextR x.l.length (s.extract x.at_ s.size) with
    | none =>
      rw [runR_none g] at ha hn ⊢
      have g2 : nextR x.l.length ((s ++ t).extract x.at_ (s ++ t).size) = some (e, t.size) := by
        have h0 : s.extract s.size s.size = ByteArray.empty := by simp
        rw [tail_left hp, ha, h0, ByteArray.empty_append]
        exact hn
      rw [runR_some g2, ha]
      exact runR_none (next_end _ (by simp)) f
    | some r =>
      obtain ⟨e', n⟩ := r
      have h1 := (nextR_some g).2.2.2.2
      have h2 : (s.extract x.at_ s.size).size = s.size - x.at_ := by simp
      have g2 : nextR x.l.length ((s ++ t).extract x.at_ (s ++ t).size) = some (e', n) := by rw [tail_left hp]; exact nextR_left g
      rw [runR_some g] at ha hn hf ⊢
      rw [runR_some g2]
      exact run_push f _ (by show x.at_ + n ≤ s.size; omega) ha hn (by simp only [List.length_append, List.length_singleton]; omega)
theorem allR_push {s t : ByteArray} {e : LogRecord} (ha : (allR s).at_ = s.size) (hn : nextR (allR s).l.length t = some (e, t.size)) (hl : (allR s).l.length < 60) :
    allR (s ++ t) = ⟨(allR s).l ++ [e], (allR s).ends ++ [s.size + t.size], s.size + t.size⟩ := by
  have h := run_push (s := s) (t := t) (e := e) 61 ⟨[], [0], 0⟩ (Nat.zero_le _) (by rw [allR_start]; exact ha) (by rw [allR_start]; exact hn) (by rw [allR_start]; show _ < 0 + 61; omega)
  rw [allR_start, allR_start] at h
  exact h
theorem allR_prefix (u v : ByteArray) : ∃ t, (allR (u ++ v)).l = (allR u).l ++ t ∧ (allR u).at_ ≤ (allR (u ++ v)).at_ := by
  rw [← allR_start, ← allR_start]
  exact run_prefix 61 _ (Nat.zero_le _)
theorem allR_eq {u v : ByteArray} (h : (allR (u ++ v)).at_ ≤ u.size) : allR u = allR (u ++ v) := by
  rw [← allR_start (u ++ v)] at h
  rw [← allR_start, ← allR_start (u ++ v)]
  exact run_eq 61 _ (Nat.zero_le _) h
theorem allR_none {s : ByteArray} (h : nextR 0 s = none) : allR s = ⟨[], [0], 0⟩ := by
  rw [← allR_start]
  refine runR_none ?_ 61
  show nextR 0 (s.extract 0 s.size) = none
  rw [all_of]
  exact h
theorem allR_empty : allR ⟨#[]⟩ = ⟨[], [0], 0⟩ := allR_none (next_end 0 rfl)
/-- What has been read is read again, alone. -/
theorem allR_cut (s : ByteArray) : allR (s.extract 0 (allR s).at_) = allR s := by
  have h1 := (allR_ok s).at_
  have h2 := join_parts s (allR s).at_ h1
  have h3 : (s.extract 0 (allR s).at_).size = (allR s).at_ := by simp; omega
  have h4 := allR_eq (u := s.extract 0 (allR s).at_) (v := s.extract (allR s).at_ s.size) (by rw [h2, h3]; exact Nat.le_refl _)
  rw [h2] at h4
  exact h4
theorem body_ten {k : Nat} {e : LogRecord} (h : recB e = true) : hasC 10 (sealT (bodyT k e)) = false := by
  obtain ⟨_, _, h3, h4, _⟩ := recB_facts h
  unfold sealT bodyT
  simp only [hasC_append, hasC_num 10 _ (by decide), plain_no h3 10 (by decide), plain_no h4 10 (by decide)]
  decide
theorem upto_line {k : Nat} {e : LogRecord} (h : recB e = true) : upto 10 (lineT k e) = sealT (bodyT k e) ∧ hasC 10 (lineT k e) = true := by
  have h1 := cut_join (q := ⟨#[]⟩) (body_ten (k := k) h)
  have h2 : lineT k e = sealT (bodyT k e) ++ ⟨#[10]⟩ ++ ⟨#[]⟩ := by
    show _ = _ ++ ByteArray.empty
    rw [ByteArray.append_empty]; rfl
  rw [h2]
  exact ⟨h1.1, h1.2.2⟩
theorem next_line {k : Nat} {e : LogRecord} (h : recB e = true) (hk : k < 60) : nextR k (lineT k e) = some (e, (lineT k e).size) := by
  obtain ⟨h1, h2⟩ := upto_line (k := k) h
  unfold nextR
  rw [if_pos ⟨h2, hk⟩, h1, okR_of h rfl]
  have h3 : (lineT k e).size = (sealT (bodyT k e)).size + 1 := by unfold lineT; rw [ByteArray.size_append]; rfl
  rw [h3]; rfl
theorem line_num {k : Nat} {e : LogRecord} : upto 32 (lineT k e) = numT k := by
  have h1 := (cut_join (b := 32) (q := e.command ++ ⟨#[64]⟩ ++ e.reply ++ ⟨#[35]⟩ ++ numT (sumT (bodyT k e)) ++ ⟨#[10]⟩) (hasC_num 32 k (by decide))).1
  have h2 : lineT k e = numT k ++ ⟨#[32]⟩ ++ (e.command ++ ⟨#[64]⟩ ++ e.reply ++ ⟨#[35]⟩ ++ numT (sumT (bodyT k e)) ++ ⟨#[10]⟩) := by
    show sealT (bodyT k e) ++ ⟨#[10]⟩ = _
    show bodyT k e ++ ⟨#[35]⟩ ++ numT (sumT (bodyT k e)) ++ ⟨#[10]⟩ = _
    generalize numT (sumT (bodyT k e)) = y
    unfold bodyT
    simp only [ByteArray.append_assoc]
  rw [h2]; exact h1
theorem num_zero {k : Nat} (h : numT 0 = numT k) : k = 0 := by
  by_cases hk : k < 10
  · rw [numT_small hk, numT_small (by decide)] at h
    have h1 : ∀ k : Fin 10, (⟨#[UInt8.ofNat (48 + 0)]⟩ : ByteArray) = ⟨#[UInt8.ofNat (48 + k.val)]⟩ → k.val = 0 := by decide
    exact h1 ⟨k, hk⟩ h
  · have h1 := congrArg ByteArray.size h
    rw [numT_big hk, ByteArray.size_append, numT_small (by decide)] at h1
    have h2 := numT_pos (k / 10)
    have h3 : (⟨#[UInt8.ofNat (48 + 0)]⟩ : ByteArray).size = 1 := rfl
    have h4 : (⟨#[UInt8.ofNat (48 + k % 10)]⟩ : ByteArray).size = 1 := rfl
    omega
/-- A record is accepted at the beginning of a log only with the number 0. -/
theorem first_none {k : Nat} {e : LogRecord} (h : recB e = true) (hk : 1 ≤ k) : nextR 0 (lineT k e) = none := by
  cases g : nextR 0 (lineT k e) with
  | none => rfl
  | some r =>
    obtain ⟨e', n⟩ := r
    obtain ⟨_, _, h1, _, _⟩ := nextR_some g
    obtain ⟨_, h3⟩ := okR_some h1
    rw [(upto_line (k := k) h).1] at h3
    have h4 : lineT 0 e' = lineT k e := h3
    have h5 := congrArg (upto 32) h4
    rw [line_num, line_num] at h5
    have := num_zero h5
    omega
theorem first_line {k : Nat} {e : LogRecord} (h : recB e = true) : (k ≠ 0 → (allR (lineT k e)).at_ = 0 ∧ (allR (lineT k e)).l.length = 0) ∧ (k = 0 → 0 < (allR (lineT k e)).at_ ∧ (allR (lineT k e)).l.length = 1) := by
  constructor
  · intro hk
    rw [allR_none (first_none h (by omega))]
    exact ⟨rfl, rfl⟩
  · rintro rfl
    have h1 := next_line (k := 0) h (by decide)
    have h2 : allR (⟨#[]⟩ ++ lineT 0 e) = _ := allR_push (s := ⟨#[]⟩) (t := lineT 0 e) (e := e) (by rw [allR_empty]; rfl) (by rw [allR_empty]; exact h1) (by rw [allR_empty]; decide)
    have h3 : (⟨#[]⟩ : ByteArray) ++ lineT 0 e = lineT 0 e := ByteArray.empty_append
    rw [h3, allR_empty] at h2
    rw [h2]
    have h4 := (next_size h1).1
    exact ⟨by show 0 < 0 + _; omega, rfl⟩

/-- All bytes are below 127. -/
def lowT (s : ByteArray) : Prop := ∀ b ∈ s.data.toList, b.toNat < 127
theorem lowT_append {s t : ByteArray} : lowT (s ++ t) ↔ lowT s ∧ lowT t := by
  unfold lowT
  simp only [ByteArray.data_append, Array.toList_append, List.mem_append]
  exact ⟨fun h => ⟨fun b hb => h b (.inl hb), fun b hb => h b (.inr hb)⟩, fun h b hb => hb.elim (h.1 b) (h.2 b)⟩
theorem lowT_num (n : Nat) : lowT (numT n) := fun b hb => by
  have := digits_in n b (by simpa [numT] using hb)
  omega
theorem lowT_plain {s : ByteArray} (h : plainB s = true) : lowT s := fun b hb => by
  have h1 := List.all_eq_true.1 h b hb
  have := (plainC_at.1 h1).1.2
  omega
theorem lowT_one {b : UInt8} (h : b.toNat < 127) : lowT ⟨#[b]⟩ := fun c hc => by
  have : c = b := by simpa using hc
  rw [this]; exact h
theorem line_low {k : Nat} {e : LogRecord} (h : recB e = true) : lowT (lineT k e) := by
  obtain ⟨_, _, h3, h4, _⟩ := recB_facts h
  unfold lineT sealT bodyT
  simp only [lowT_append]
  exact ⟨⟨⟨⟨⟨⟨⟨lowT_num _, lowT_one (by decide)⟩, lowT_plain h3⟩, lowT_one (by decide)⟩, lowT_plain h4⟩, lowT_one (by decide)⟩, lowT_num _⟩, lowT_one (by decide)⟩
theorem run_low {s : ByteArray} : ∀ (f : Nat) (x : Recs), x.at_ ≤ s.size → lowT (s.extract 0 x.at_) → lowT (s.extract 0 (runR s f x).at_)
  | 0, _, _, h => h
  | f + 1, x, hp, h => by
    cases g : nextR x.l.length (s.extract x.at_ s.size) with
    | none => rw [runR_none g]; exact h
    | some r =>
      obtain ⟨e, n⟩ := r
      obtain ⟨h1, _, h3, h4, h5⟩ := nextR_some g
      obtain ⟨h6, h7⟩ := okR_some h3
      have h2 : (s.extract x.at_ s.size).size = s.size - x.at_ := by simp
      have hA := join_parts s x.at_ hp
      have hT := cut_split h1
      have hz : (s.extract 0 x.at_).size = x.at_ := by simp; omega
      rw [runR_some g]
      refine run_low f _ (by show x.at_ + n ≤ s.size; omega) ?_
      have hs : s = (s.extract 0 x.at_ ++ (upto 10 (s.extract x.at_ s.size) ++ ⟨#[10]⟩)) ++ past 10 (s.extract x.at_ s.size) := by
        rw [ByteArray.append_assoc, ← hT, hA]
      have hn : (s.extract 0 x.at_ ++ (upto 10 (s.extract x.at_ s.size) ++ ⟨#[10]⟩)).size = x.at_ + n := by
        rw [ByteArray.size_append, ByteArray.size_append, hz, h4]
        rfl
      have he := (take_left (s.extract 0 x.at_ ++ (upto 10 (s.extract x.at_ s.size) ++ ⟨#[10]⟩)) (past 10 (s.extract x.at_ s.size))).1
      rw [hn, ← hs] at he
      show lowT (s.extract 0 (x.at_ + n))
      rw [he]
      exact lowT_append.2 ⟨h, by rw [← h7]; exact line_low h6⟩
theorem allR_low (s : ByteArray) : lowT (s.extract 0 (allR s).at_) := by
  rw [← allR_start]
  refine run_low 61 _ (Nat.zero_le _) ?_
  intro b hb
  simp at hb
theorem torn_split {p : ByteArray} (h : 0 < p.size) : ∃ (q : ByteArray) (c : UInt8), p = q ++ ⟨#[c]⟩ ∧ tornT p = q ++ ⟨#[255 - c]⟩ := by
  obtain ⟨⟨l⟩⟩ := p
  have hne : l ≠ [] := by
    rintro rfl
    exact absurd h (by decide)
  obtain ⟨r, c, rfl⟩ : ∃ r c, l = r ++ [c] := ⟨l.dropLast, l.getLast hne, (List.dropLast_concat_getLast hne).symm⟩
  have hz : (⟨(r ++ [c]).toArray⟩ : ByteArray).size - 1 = r.length := by
    show (r ++ [c]).toArray.size - 1 = r.length
    simp
  refine ⟨⟨r.toArray⟩, c, ?_, ?_⟩
  · apply ByteArray.ext
    rw [ByteArray.data_append]
    simp
  · unfold tornT
    rw [hz]
    apply ByteArray.ext
    rw [ByteArray.data_append]
    simp

theorem validL_read {l : Log} (h : validL l = true) : (allR (l.durable ++ l.pending)).at_ = (l.durable ++ l.pending).size ∧ (allR l.durable).at_ = l.durable.size ∧ ((allR (l.durable ++ l.pending)).l.length : Int) = l.count := by
  unfold validL at h
  simp only [Bool.and_eq_true, decide_eq_true_eq] at h
  rw [ByteArray.size_append]
  exact ⟨h.1.1, h.1.2, h.2⟩
theorem validL_mk {l : Log} (h1 : (allR (l.durable ++ l.pending)).at_ = (l.durable ++ l.pending).size) (h2 : (allR l.durable).at_ = l.durable.size) (h3 : ((allR (l.durable ++ l.pending)).l.length : Int) = l.count) : validL l = true := by
  rw [ByteArray.size_append] at h1
  unfold validL
  rw [decide_eq_true h1, decide_eq_true h2, decide_eq_true h3]
  rfl
/-- What is recovered is a log. -/
theorem recov_valid (s : ByteArray) : validL ⟨s.extract 0 (allR s).at_, ⟨#[]⟩, ((allR s).l.length : Int)⟩ = true := by
  have h1 := allR_cut s
  have h2 : (s.extract 0 (allR s).at_).size = (allR s).at_ := by have := (allR_ok s).at_; simp; omega
  have h3 : s.extract 0 (allR s).at_ ++ (⟨#[]⟩ : ByteArray) = s.extract 0 (allR s).at_ := ByteArray.append_empty
  refine validL_mk ?_ ?_ ?_
  · show (allR (s.extract 0 (allR s).at_ ++ ⟨#[]⟩)).at_ = _
    rw [h3, h1, h2]
  · show (allR (s.extract 0 (allR s).at_)).at_ = _
    rw [h1, h2]
  · show ((allR (s.extract 0 (allR s).at_ ++ ⟨#[]⟩)).l.length : Int) = _
    rw [h3, h1]
/-- An appended record follows the existing ones. -/
theorem app_facts {l : Log} {e : LogRecord} (hv : validL l = true) (he : recB e = true) (hc : l.count ≠ 60) :
    validL ⟨l.durable, l.pending ++ lineT l.count.toNat e, l.count + 1⟩ = true ∧ (allR (l.durable ++ (l.pending ++ lineT l.count.toNat e))).l = (allR (l.durable ++ l.pending)).l ++ [e]
      ∧ (allR (l.durable ++ (l.pending ++ lineT l.count.toNat e))).at_ = (l.durable ++ (l.pending ++ lineT l.count.toNat e)).size := by
  obtain ⟨h1, h2, h3⟩ := validL_read hv
  obtain ⟨h4, h5, _⟩ := validL_facts hv
  have hk : (allR (l.durable ++ l.pending)).l.length = l.count.toNat := by omega
  have hp := allR_push (s := l.durable ++ l.pending) (t := lineT l.count.toNat e) (e := e) h1 (by rw [hk]; exact next_line he (by omega)) (by omega)
  rw [ByteArray.append_assoc] at hp
  have hz : (l.durable ++ (l.pending ++ lineT l.count.toNat e)).size = (l.durable ++ l.pending).size + (lineT l.count.toNat e).size := by
    rw [← ByteArray.append_assoc, ByteArray.size_append]
  refine ⟨validL_mk ?_ h2 ?_, by rw [hp], by rw [hp, hz]⟩
  · show (allR (l.durable ++ (l.pending ++ lineT l.count.toNat e))).at_ = (l.durable ++ (l.pending ++ lineT l.count.toNat e)).size
    rw [hp, hz]
  · show ((allR (l.durable ++ (l.pending ++ lineT l.count.toNat e))).l.length : Int) = l.count + 1
    rw [hp]
    simp only [List.length_append, List.length_singleton]
    omega
/-- What is read behind a crash. -/
theorem crash_facts {l : Log} {k : Int} {t : Bool} {s : ByteArray} (h : crashL l k t = (s, true)) :
    validL l = true ∧ s.size ≤ 30000 ∧ l.durable.size ≤ (allR s).at_ ∧ ∃ r, (allR (l.durable ++ l.pending)).l = (allR s).l ++ r := by
  unfold crashL at h
  cases hv : validL l with
  | false => rw [hv] at h; simp at h
  | true =>
    cases hi : inB k 0 l.pending.size with
    | false => rw [hv, hi] at h; simp at h
    | true =>
      obtain ⟨h1, h2, h3⟩ := validL_read hv
      obtain ⟨_, _, h6⟩ := validL_facts hv
      obtain ⟨i1, i2⟩ := inB_true hi
      obtain ⟨n, rfl⟩ := Int.eq_ofNat_of_zero_le i1
      have hp := join_parts l.pending n (by omega)
      have hz : (l.pending.extract 0 n).size = n := by simp; omega
      rw [hv, hi] at h
      simp only [Bool.and_true, ↓reduceIte, Prod.mk.injEq, and_true, Int.toNat_natCast] at h
      refine ⟨rfl, ?_⟩
      by_cases ht : (t && decide (0 < (n : Int))) = true
      · rw [if_pos ht] at h
        have hn : 0 < n := by
          have := (Bool.and_eq_true _ _ |>.mp ht).2
          simp at this; omega
        obtain ⟨q, c, h7, h8⟩ := torn_split (p := l.pending.extract 0 n) (by omega)
        have hs : s = (l.durable ++ q) ++ ⟨#[255 - c]⟩ := by rw [← h, h8, ByteArray.append_assoc]
        have hp' : q ++ ⟨#[c]⟩ ++ l.pending.extract n l.pending.size = l.pending := by rw [← h7]; exact hp
        have hfull : l.durable ++ l.pending = (l.durable ++ q) ++ (⟨#[c]⟩ ++ l.pending.extract n l.pending.size) := by
          have hp2 : q ++ (⟨#[c]⟩ ++ l.pending.extract n l.pending.size) = l.pending := by rw [← ByteArray.append_assoc]; exact hp'
          rw [ByteArray.append_assoc, hp2]
        have hlow : c.toNat < 127 := by
          have h9 := allR_low (l.durable ++ l.pending)
          rw [h1, all_of, hfull] at h9
          exact (lowT_append.1 (lowT_append.1 h9).2).1 c (by simp)
        have hle : (allR s).at_ ≤ (l.durable ++ q).size := by
          have h9 := allR_low s
          have h10 := (allR_ok s).at_
          have h11 : s.size = (l.durable ++ q).size + 1 := by rw [hs, ByteArray.size_append]; rfl
          by_cases hle : (allR s).at_ ≤ (l.durable ++ q).size
          · exact hle
          · exfalso
            have h12 : (allR s).at_ = s.size := by omega
            rw [h12, all_of, hs] at h9
            have h13 := (lowT_append.1 h9).2 (255 - c) (by simp)
            rw [UInt8.toNat_sub_of_le _ _ (by rw [UInt8.le_iff_toNat_le]; have : (255 : UInt8).toNat = 255 := rfl; omega)] at h13
            have : (255 : UInt8).toNat = 255 := rfl
            omega
        have heq : allR (l.durable ++ q) = allR s := by
          have := allR_eq (u := l.durable ++ q) (v := ⟨#[255 - c]⟩) (by rw [← hs]; exact hle)
          rw [← hs] at this
          exact this
        refine ⟨?_, ?_, ?_⟩
        · have h9 := congrArg ByteArray.size h7
          have h10 := congrArg ByteArray.size hs
          have h11 : (⟨#[c]⟩ : ByteArray).size = 1 := rfl
          have h12 : (⟨#[255 - c]⟩ : ByteArray).size = 1 := rfl
          rw [ByteArray.size_append] at h9
          rw [ByteArray.size_append, ByteArray.size_append] at h10
          omega
        · obtain ⟨_, _, h9⟩ := allR_prefix l.durable q
          rw [heq] at h9
          omega
        · obtain ⟨r, h9, _⟩ := allR_prefix (l.durable ++ q) (⟨#[c]⟩ ++ l.pending.extract n l.pending.size)
          rw [← hfull, heq] at h9
          exact ⟨r, h9⟩
      · rw [if_neg ht] at h
        have hfull : l.durable ++ l.pending = s ++ l.pending.extract n l.pending.size := by rw [← h, ByteArray.append_assoc, hp]
        refine ⟨?_, ?_, ?_⟩
        · rw [← h, ByteArray.size_append]; omega
        · obtain ⟨_, _, h9⟩ := allR_prefix l.durable (l.pending.extract 0 n)
          rw [h] at h9
          omega
        · obtain ⟨r, h9, _⟩ := allR_prefix s (l.pending.extract n l.pending.size)
          rw [← hfull] at h9
          exact ⟨r, h9⟩

end Go.Proofs.YtjangfhelagjnaaDoor
