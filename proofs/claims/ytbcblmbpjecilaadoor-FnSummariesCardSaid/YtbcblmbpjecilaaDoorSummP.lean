/- What the law of summaries asks, of the plain words. -/
import Derived.Test.YtbcblmbpjecilaaDoorRText
import Derived.Test.YtbcblmbpjecilaaDoorRep2
namespace Go.Proofs.YtbcblmbpjecilaaDoor
open Go.RowKit

/-- no line's end in it -/
def nl0 (s : ByteArray) : Prop := s.data.toList.count 10 = 0
theorem count_append_ (a b : ByteArray) : (a ++ b).data.toList.count 10 = a.data.toList.count 10 + b.data.toList.count 10 := by
  rw [ByteArray.data_append, Array.toList_append, List.count_append]
theorem nl0.append {a b : ByteArray} (h : nl0 a) (k : nl0 b) : nl0 (a ++ b) := by unfold nl0 at *; rw [count_append_, h, k]
theorem nl0_num (n : Nat) : nl0 (numT n) := List.count_eq_zero.2 fun h => by
  have h' : (10 : UInt8) ∈ Lib.decDigits n := h
  have := digits_in n 10 h'
  have e : (10 : UInt8).toNat = 10 := rfl
  omega
theorem nl0_word {s : ByteArray} (h : wordB s = true) : nl0 s := List.count_eq_zero.2 fun hm => by
  unfold wordB at h
  simp only [Bool.and_eq_true] at h
  have := List.all_eq_true.1 h.1 10 hm
  revert this
  decide
theorem nl0_two (n : Nat) : nl0 (twoT n) := (nl0_num _).append (nl0_num _)
theorem nl0_clock (t : Nat) : nl0 (clockT t) := by
  have h : nl0 ⟨#[58]⟩ := by unfold nl0; decide
  unfold clockT
  split
  · exact ((nl0_num _).append h).append (((nl0_two _).append h).append (nl0_two _))
  · exact ((nl0_two _).append h).append (nl0_two _)
theorem nl0_name {x : ReportLine} (h1 : wordB x.name = true) (h2 : wordB x.club = true) : nl0 (nameT x) := by
  unfold nameT
  exact ((((show nl0 ⟨#[32]⟩ by unfold nl0; decide).append (nl0_word h1)).append (show nl0 ⟨#[32, 40]⟩ by unfold nl0; decide)).append (nl0_word h2)).append (show nl0 ⟨#[41, 32]⟩ by unfold nl0; decide)
theorem nl0_wordT (s : Int) : nl0 (wordT s) := by
  unfold wordT
  split
  · unfold nl0; decide
  · split
    · unfold nl0; decide
    · unfold nl0; decide
theorem nl0_line {xs : List ReportLine} {x : ReportLine} (h : lineB x = true) : nl0 (lineT xs x) := by
  unfold lineB at h
  simp only [Bool.and_eq_true] at h
  have hn := nl0_name h.1.1.1 h.1.1.2
  unfold lineT
  split
  · exact (((nl0_num _).append (show nl0 ⟨#[46]⟩ by unfold nl0; decide)).append hn).append (nl0_clock _)
  · exact ((show nl0 ⟨#[45]⟩ by unfold nl0; decide).append hn).append (nl0_wordT _)
theorem report_count (xs : List ReportLine) : ∀ (l : List ReportLine) (s : ByteArray), (∀ x ∈ l, lineB x = true) → (l.foldl (fun s x => s ++ lineT xs x ++ ⟨#[10]⟩) s).data.toList.count 10 = s.data.toList.count 10 + l.length
  | [], s, _ => rfl
  | x :: l, s, h => by
    rw [List.foldl_cons, report_count xs l _ (fun y hy => h y (by simp [hy])), count_append_, count_append_, show (lineT xs x).data.toList.count 10 = 0 from nl0_line (h x (by simp))]
    have e : (⟨#[10]⟩ : ByteArray).data.toList.count 10 = 1 := by decide
    rw [e, List.length_cons]
    omega
/-- A report has a line's end for each line. -/
theorem report_lines {xs : List ReportLine} (h : (reportM xs).2 = true) : (reportM xs).1.data.toList.count 10 = xs.length := by
  unfold reportM at h ⊢
  split at h
  · rename_i hl
    rw [if_pos hl]
    show (reportL xs (sortL xs)).data.toList.count 10 = _
    unfold reportL
    rw [report_count xs _ _ (fun x hx => ?_), sortL_length]
    · show 0 + xs.length = xs.length
      omega
    · obtain ⟨j, hj, rfl⟩ := List.getElem_of_mem (sortL_mem.1 hx)
      exact ((linesB_at hl).2 j hj).1
  · cases h
theorem report_told (xs : List ReportLine) : (reportM xs).2 = linesB xs := by
  unfold reportM
  cases linesB xs <;> rfl
theorem summ_told (xs : List ReportLine) : (summM xs).2 = linesB xs := by
  unfold summM
  cases linesB xs <;> rfl
/-- One more runner takes longer. -/
theorem club_two (club : ByteArray) : ∀ (l : List ReportLine) (p q : Int × Int), (∀ x ∈ l, x.status = 0 → 1 ≤ x.time) → (p.1 = q.1 + 1 ∧ p.2 = q.2 ∧ 0 ≤ q.1) ∨ (p.1 = 0 ∧ q.1 = 0 ∧ q.2 < p.2) →
    ((l.foldl (clubStep2 club) p).1 = (l.foldl (clubStep2 club) q).1 + 1 ∧ (l.foldl (clubStep2 club) p).2 = (l.foldl (clubStep2 club) q).2 ∧ 0 ≤ (l.foldl (clubStep2 club) q).1) ∨ ((l.foldl (clubStep2 club) p).1 = 0 ∧ (l.foldl (clubStep2 club) q).1 = 0 ∧ (l.foldl (clubStep2 club) q).2 < (l.foldl (clubStep2 club) p).2)
  | [], _, _, _, h => h
  | x :: l, p, q, ht, h => by
    rw [List.foldl_cons, List.foldl_cons]
    refine club_two club l _ _ (fun y hy => ht y (by simp [hy])) ?_
    unfold clubStep2
    by_cases hs : x.status = 0
    · rw [if_pos hs, if_pos hs]
      have h1 := ht x (by simp) hs
      unfold clubStep
      by_cases hc : x.club = club
      · rcases h with ⟨h2, h3, h4⟩ | ⟨h2, h3, h4⟩
        · rw [if_pos ⟨hc, by omega⟩]
          by_cases h5 : 0 < q.1
          · rw [if_pos ⟨hc, h5⟩]
            exact .inl ⟨by show p.1 - 1 = q.1 - 1 + 1; omega, by show p.2 + x.time = q.2 + x.time; omega, by show 0 ≤ q.1 - 1; omega⟩
          · rw [if_neg (by omega)]
            exact .inr ⟨by show p.1 - 1 = 0; omega, by omega, by show q.2 < p.2 + x.time; omega⟩
        · rw [if_neg (by omega), if_neg (by omega)]
          exact .inr ⟨h2, h3, h4⟩
      · rw [if_neg (fun e => hc e.1), if_neg (fun e => hc e.1)]
        exact h
    · rw [if_neg hs, if_neg hs]
      exact h
theorem club_less {xs : List ReportLine} {club : ByteArray} {best s t : Int} (h : clubM xs club best = some s) (h' : clubM xs club (best - 1) = some t) : t < s := by
  unfold clubM at h h'
  split at h
  · rename_i hc
    split at h'
    · rename_i hc'
      simp only [Bool.and_eq_true] at hc hc'
      have hb := inB_true hc'.2
      split at h
      · cases h
      · rename_i hp
        split at h'
        · cases h'
        · rename_i hq
          simp only [Option.some.injEq] at h h'
          have h2 := club_two club (sortL xs) (best, 0) (best - 1, 0) (fun x hx h0 => by
            have h1 := ((line_facts hc.1).2 x (sortL_mem.1 hx))
            obtain ⟨j, hj, rfl⟩ := List.getElem_of_mem (sortL_mem.1 hx)
            have h3 := ((linesB_at hc.1).2 j hj).1
            unfold lineB at h3
            simp only [Bool.and_eq_true] at h3
            have h4 := h3.2
            rw [if_pos h0] at h4
            exact (inB_true h4).1) (.inl ⟨by show best = best - 1 + 1; omega, rfl, by show 0 ≤ best - 1; omega⟩)
          change (((clubRun2 club (sortL xs) best).1 = (clubRun2 club (sortL xs) (best - 1)).1 + 1 ∧ _) ∨ _) at h2
          rw [← h, ← h']
          rcases h2 with ⟨h5, _, h6⟩ | ⟨_, _, h6⟩
          · change 0 ≤ (clubRun2 club (sortL xs) (best - 1)).1 at h6
            omega
          · exact h6
    · cases h'
  · cases h

end Go.Proofs.YtbcblmbpjecilaaDoor
