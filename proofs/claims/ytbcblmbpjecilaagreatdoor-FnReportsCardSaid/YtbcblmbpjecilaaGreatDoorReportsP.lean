/- What the law of reports asks, of the plain words. -/
import Derived.Test.YtbcblmbpjecilaaGreatDoorPClock
import Derived.Test.YtbcblmbpjecilaaGreatDoorRep2
import Derived.Test.YtbcblmbpjecilaaGreatDoorCounts
namespace Go.Proofs.YtbcblmbpjecilaaGreatDoor
open Go.RowKit

theorem clock_size8 {t : Nat} (h : t ≤ 36000) : (clockT t).size ≤ 8 := by
  have h1 := two_size (t / 60 % 60) (by omega)
  have h2 := two_size (t % 60) (by omega)
  have h3 := num2 (n := t / 3600) (by omega)
  have e1 : (⟨#[58]⟩ : ByteArray).size = 1 := rfl
  unfold clockT
  split <;> simp only [ByteArray.size_append] <;> omega
theorem clock_back {z : Int} (h : (clockText z).2 = true) : parseT (clockText z).1 = (z, true) := by
  unfold clockText at h ⊢
  split at h
  · rename_i hz
    rw [if_pos hz]
    have := parse_clock z.toNat (by omega) (clock_size8 (by omega))
    rw [show ((z.toNat : Nat) : Int) = z by omega] at this
    exact this
  · cases h
theorem clockText_size (z : Int) : (clockText z).1.size ≤ 8 := by
  unfold clockText
  split
  · exact clock_size8 (by omega)
  · decide
theorem fin_countR (xs : List ReportLine) : (finL xs).length = (xs.filter fun x => x.status == 0).length := by
  rw [finL_eq]
  exact ((sortR_perm lessL xs).filter _).length_eq
theorem gaps_sum (ts : List Int) : ∀ k : Nat, (gapsT ts (k + 1)).sum = ts.getD k 0 - ts.getD 0 0
  | 0 => by
    rw [gapsT_next]
    simp [gapsT, gapAt]
  | k + 1 => by
    rw [gapsT_next, List.sum_append, gaps_sum ts k]
    simp only [List.sum_cons, List.sum_nil]
    unfold gapAt
    rw [if_neg (by omega)]
    simp only [Nat.add_sub_cancel]
    omega
/-- What is known of lines that are valid, of them sorted, and of the gaps. -/
structure GapsFacts (xs Z : List ReportLine) (G : List Int) : Prop where
  len : Z.length = xs.length
  le : G.length ≤ Z.length
  twelve : Z.length ≤ 12
  each : ∀ g ∈ G, -36000 ≤ g ∧ g ≤ 36000
  times : ∀ z ∈ Z, 0 ≤ z.time ∧ z.time ≤ 36000
  sum : ∀ (h : 0 < G.length) (h1 : G.length - 1 < Z.length), (Z[G.length - 1]'h1).time - (Z[0]'(by omega)).time = G.sum
theorem gapAt_bd {ts : List Int} (h : ∀ t ∈ ts, 0 ≤ t ∧ t ≤ 36000) (i : Nat) : -36000 ≤ gapAt ts i ∧ gapAt ts i ≤ 36000 := by
  have hg : ∀ j, 0 ≤ ts.getD j 0 ∧ ts.getD j 0 ≤ 36000 := fun j => by
    rw [List.getD_eq_getElem?_getD]
    by_cases hj : j < ts.length
    · rw [List.getElem?_eq_getElem hj]; exact h _ (List.getElem_mem hj)
    · rw [List.getElem?_eq_none (by omega)]; decide
  unfold gapAt
  split
  · decide
  · have h1 := hg i
    have h2 := hg (i - 1)
    omega
theorem gaps_facts {xs : List ReportLine} (h : linesB xs = true) : GapsFacts xs (sortL xs) (gapsT (timesL (finL xs)) (finL xs).length) := by
  have hsp := (fin_split h).1
  have hll := fin_len xs
  have hls := sortL_length xs
  have ht : ∀ t ∈ timesL (finL xs), 0 ≤ t ∧ t ≤ 36000 := fun t ht => by
    obtain ⟨x, hx, rfl⟩ := List.mem_map.1 ht
    exact ((line_facts h).2 x (fin_mem hx)).2
  refine ⟨hls, by rw [gapsT_length]; omega, by rw [hls]; exact (line_facts h).1, fun g hg => ?_, fun z hz => ((line_facts h).2 z (sortL_mem.1 hz)).2, fun h0 h1 => ?_⟩
  · obtain ⟨i, _, rfl⟩ := List.mem_map.1 hg
    exact gapAt_bd ht i
  · simp only [gapsT_length] at h0 h1 ⊢
    obtain ⟨k, hk⟩ : ∃ k, (finL xs).length = k + 1 := ⟨(finL xs).length - 1, by omega⟩
    have hget : ∀ i (hi : i < (finL xs).length) (hj : i < (sortL xs).length), (timesL (finL xs)).getD i 0 = (sortL xs)[i].time := fun i hi hj => by
      rw [timesL_get hi]
      have e : (finL xs)[i]? = (sortL xs)[i]? := by
        conv => lhs; rw [hsp]
        rw [List.getElem?_take, if_pos hi]
      rw [List.getElem?_eq_getElem hi, List.getElem?_eq_getElem hj, Option.some.injEq] at e
      rw [e]
    have e1 := hget k (by omega) (by omega)
    have e0 := hget 0 (by omega) (by omega)
    have es := gaps_sum (timesL (finL xs)) k
    rw [← hk, e1, e0] at es
    rw [es]
    congr 1
    congr 1
    simp only [hk, Nat.add_sub_cancel]
theorem counts_sum : ∀ xs : List ReportLine, (∀ x ∈ xs, 0 ≤ x.status ∧ x.status ≤ 3) → cntL 0 xs + cntL 1 xs + cntL 2 xs + cntL 3 xs = (xs.length : Int)
  | [], _ => by decide
  | x :: l, h => by
    have ih := counts_sum l (fun y hy => h y (by simp [hy]))
    have hx := h x (by simp)
    have hc : ∀ i, cntL i (x :: l) = (if x.status = i then 1 else 0) + cntL i l := fun i => by
      unfold cntL
      by_cases e : x.status = i
      · rw [List.filter_cons, if_pos (by simpa using e), if_pos e, List.length_cons]; omega
      · rw [List.filter_cons, if_neg (by simpa using e), if_neg e]; omega
    rw [hc, hc, hc, hc, List.length_cons]
    have h4 : x.status = 0 ∨ x.status = 1 ∨ x.status = 2 ∨ x.status = 3 := by omega
    rcases h4 with e | e | e | e <;> rw [e] <;> simp <;> omega
theorem counts_facts {xs : List ReportLine} (h : linesB xs = true) : (countsL xs).sum = (xs.length : Int) ∧ cntL 0 xs = ((gapsT (timesL (finL xs)) (finL xs).length).length : Int) ∧ ∀ c ∈ countsL xs, -36000 ≤ c ∧ c ≤ 36000 := by
  have h12 := (line_facts h).1
  refine ⟨?_, ?_, fun c hc => ?_⟩
  · have := counts_sum xs (fun x hx => ((line_facts h).2 x hx).1)
    simp only [countsL, List.sum_cons, List.sum_nil]
    omega
  · rw [gapsT_length, fin_countR]
    unfold cntL
    congr 2
  · have hle : ∀ i, 0 ≤ cntL i xs ∧ cntL i xs ≤ 12 := fun i => by have := cntL_le i xs; omega
    simp only [countsL, List.mem_cons, List.not_mem_nil, or_false] at hc
    rcases hc with rfl | rfl | rfl | rfl
    · have := hle 0; omega
    · have := hle 1; omega
    · have := hle 2; omega
    · have := hle 3; omega
theorem sum_bd : ∀ (l : List Int), (∀ x ∈ l, -36000 ≤ x ∧ x ≤ 36000) → -36000 * (l.length : Int) ≤ l.sum ∧ l.sum ≤ 36000 * (l.length : Int)
  | [], _ => by decide
  | x :: l, h => by
    have ih := sum_bd l (fun y hy => h y (by simp [hy]))
    have hx := h x (by simp)
    rw [List.sum_cons, List.length_cons]
    omega
theorem sum_take {l : List Int} {k : Nat} (h : k < l.length) : (l.take (k + 1)).sum = (l.take k).sum + l[k] := by
  rw [List.take_succ_eq_append_getElem h, List.sum_append]; simp

end Go.Proofs.YtbcblmbpjecilaaGreatDoor
