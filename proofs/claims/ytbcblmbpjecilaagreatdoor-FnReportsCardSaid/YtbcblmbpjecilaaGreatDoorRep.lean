/- Those who finished; SortLines, GapsBehind, ClubTimes, as the program and as the reference have them. -/
import Derived.Test.YtbcblmbpjecilaaGreatDoorSorted2
namespace Go.Proofs.YtbcblmbpjecilaaGreatDoor
open Go.RowKit

/-! ### plain facts: what is sorted by a key -/
section
variable {α : Type} {lt : α → α → Bool} {f : α → Int}
theorem posR_after {P : List α} {e : α} : ∀ (k : Nat), k ≤ P.length → ∀ (j : Nat) (hj : j < P.length), posR lt P e k ≤ j → j < k → lt e P[j] = true
  | 0, _, j, _, _, h => by omega
  | k + 1, hk, j, hj, h1, h2 => by
    have hkl : k < P.length := by omega
    cases hl : lt e P[k]
    · rw [posR_no lt hkl hl] at h1; omega
    · rw [posR_yes lt hkl hl] at h1
      by_cases e1 : j = k
      · subst e1; exact hl
      · exact posR_after k (by omega) j hj h1 (by omega)
theorem posR_stop {P : List α} {e : α} : ∀ (k : Nat), k ≤ P.length → ∀ (_ : 0 < posR lt P e k) (hj : posR lt P e k - 1 < P.length), lt e P[posR lt P e k - 1] = false
  | 0, _, h, _ => by simp [posR] at h
  | k + 1, hk, h, hj => by
    have hkl : k < P.length := by omega
    cases hl : lt e P[k]
    · have e1 := posR_no lt hkl hl
      have : P[posR lt P e (k + 1) - 1] = P[k] := by congr 1; omega
      rw [this]; exact hl
    · have e1 := posR_yes lt hkl hl
      have h2 : lt e (P[posR lt P e k - 1]'(by omega)) = false := posR_stop k (by omega) (by omega) (by omega)
      have : P[posR lt P e (k + 1) - 1] = P[posR lt P e k - 1]'(by omega) := by congr 1; omega
      rw [this]; exact h2
theorem insR_sorted (h1 : ∀ x y, lt x y = true → f x ≤ f y) (h0 : ∀ x y, lt x y = false → f y ≤ f x) {P : List α} (e : α) (hP : P.Pairwise fun x y => f x ≤ f y) : (insR lt P e).Pairwise fun x y => f x ≤ f y := by
  unfold insR
  have hle := posR_le lt P e P.length
  have ha := posR_after (lt := lt) (P := P) (e := e) P.length (Nat.le_refl _)
  have hs := posR_stop (lt := lt) (P := P) (e := e) P.length (Nat.le_refl _)
  generalize posR lt P e P.length = k at *
  have hlow : ∀ x ∈ P.take k, f x ≤ f e := fun x hx => by
    obtain ⟨j, hj, rfl⟩ := List.getElem_of_mem hx
    rw [List.length_take] at hj
    rw [List.getElem_take]
    have h2 := h0 _ _ (hs (by omega) (by omega))
    by_cases e1 : j = k - 1
    · subst e1; exact h2
    · exact Int.le_trans (List.pairwise_iff_getElem.1 hP j (k - 1) (by omega) (by omega) (by omega)) h2
  have hhigh : ∀ x ∈ P.drop k, f e ≤ f x := fun x hx => by
    obtain ⟨j, hj, rfl⟩ := List.getElem_of_mem hx
    rw [List.length_drop] at hj
    rw [List.getElem_drop]
    exact h1 _ _ (ha (k + j) (by omega) (by omega) (by omega))
  rw [List.pairwise_append]
  refine ⟨hP.sublist (List.take_sublist _ _), List.pairwise_cons.2 ⟨hhigh, hP.sublist (List.drop_sublist _ _)⟩, fun x hx y hy => ?_⟩
  rcases List.mem_cons.1 hy with rfl | hy
  · exact hlow x hx
  · exact Int.le_trans (hlow x hx) (hhigh y hy)
theorem sortR_sorted (h1 : ∀ x y, lt x y = true → f x ≤ f y) (h0 : ∀ x y, lt x y = false → f y ≤ f x) : ∀ (l acc : List α), acc.Pairwise (fun x y => f x ≤ f y) → (l.foldl (insR lt) acc).Pairwise fun x y => f x ≤ f y
  | [], _, h => h
  | x :: l, _, h => sortR_sorted h1 h0 l _ (insR_sorted h1 h0 x h)
theorem filter_zero {l : List α} (hs : l.Pairwise fun x y => f x ≤ f y) (h0 : ∀ x ∈ l, 0 ≤ f x) : ∀ (m : Nat), m = (l.filter fun x => f x == 0).length → (l.filter fun x => f x == 0) = l.take m ∧ ∀ (h : m < l.length), ¬ f l[m] = 0 := by
  induction l with
  | nil => intro m hm; subst hm; simp
  | cons x l ih =>
    intro m hm
    have hp := List.pairwise_cons.1 hs
    by_cases hx : f x = 0
    · have hx2 : (f x == 0) = true := by simp [hx]
      rw [List.filter_cons, if_pos hx2] at hm ⊢
      obtain ⟨m', rfl⟩ : ∃ m', m = m' + 1 := ⟨m - 1, by rw [List.length_cons] at hm; omega⟩
      obtain ⟨i1, i2⟩ := ih hp.2 (fun y hy => h0 y (by simp [hy])) m' (by rw [List.length_cons] at hm; omega)
      refine ⟨by rw [List.take_succ_cons, i1], fun h => ?_⟩
      simpa using i2 (by simpa using h)
    · have hnone : (l.filter fun x => f x == 0) = [] := by
        rw [List.filter_eq_nil_iff]
        intro y hy
        have := hp.1 y hy
        have := h0 x (by simp)
        simp; omega
      rw [List.filter_cons, if_neg (by simp [hx]), hnone] at hm ⊢
      have : m = 0 := hm
      subst this
      exact ⟨rfl, fun _ => hx⟩
end
theorem lessL_status (x y : ReportLine) : (lessL x y = true → x.status ≤ y.status) ∧ (lessL x y = false → y.status ≤ x.status) := by
  unfold lessL
  by_cases h : x.status = y.status
  · exact ⟨fun _ => by omega, fun _ => by omega⟩
  · rw [if_pos h]
    exact ⟨fun h2 => by have := of_decide_eq_true h2; omega, fun h2 => by have := of_decide_eq_false h2; omega⟩
theorem sortL_status (xs : List ReportLine) : (sortL xs).Pairwise fun x y => x.status ≤ y.status :=
  sortR_sorted (fun x y => (lessL_status x y).1) (fun x y => (lessL_status x y).2) xs [] List.Pairwise.nil
theorem sortL_mem {xs : List ReportLine} {x : ReportLine} : x ∈ sortL xs ↔ x ∈ xs := sortR_mem lessL
theorem sortL_length (xs : List ReportLine) : (sortL xs).length = xs.length := sortR_length lessL xs
def finL (xs : List ReportLine) : List ReportLine := (sortL xs).filter fun x => !(x.status != 0)
theorem finL_eq (xs : List ReportLine) : finL xs = (sortL xs).filter fun x => x.status == 0 := by
  unfold finL
  refine List.filter_congr fun x _ => ?_
  simp [bne]
theorem line_facts {xs : List ReportLine} (h : linesB xs = true) : xs.length ≤ 12 ∧ ∀ x ∈ xs, (0 ≤ x.status ∧ x.status ≤ 3) ∧ 0 ≤ x.time ∧ x.time ≤ 36000 := by
  have h1 := linesB_at h
  refine ⟨h1.1, fun x hx => ?_⟩
  obtain ⟨j, hj, rfl⟩ := List.getElem_of_mem hx
  have h2 := (h1.2 j hj).1
  refine ⟨lineB_status h2, ?_⟩
  unfold lineB at h2
  simp only [Bool.and_eq_true] at h2
  have h3 := h2.2
  split at h3
  · have := inB_true h3; omega
  · have := of_decide_eq_true h3; omega

theorem finished1_any (x : ReportLine) (w : World) : Calls Tryz.prog 59 #[.agg #[.string x.name, .string x.club, .int .i64 x.status, .int .i64 x.time]] w fun e w' => e = .returned (.bool (x.status != 0)) ∧ Below w.heap.size w w' := by
  go_enter Tryz.func59, Tryz.ntmps59
  go_wp2
  go_ret
  exact ⟨rfl, (Below.refl _ _).alloc (Nat.le_refl _) _⟩
theorem finished1_answers (xs : List ReportLine) (Q : Nat → Prop) (w : World) : AnswersO 59 #[] (fun x : ReportLine => .agg x.enc.toArray) (fun x => x.status != 0) xs Q w :=
  ⟨enters_of Tryz.func59 (by kernel_rfl) rfl, fun x _ W _ => finished1_any x W⟩
set_option maxRecDepth 100000 in
theorem finished_any (A : Option Addr) (n c : Nat) (xs : List ReportLine) (w : World) (hx : Sees w 0 4 A n (xs.flatMap ReportLine.enc)) (hn : n ≤ 12) :
    Calls Tryz.prog 39 #[.slice A n c] w (GivesLn w (finL xs)) := by
  have hl := hx.count (by decide) (fun _ => rfl)
  have HL := Lib.hid (show (sortL xs).length = n by rw [sortL_length]; exact hl)
  have HF := Lib.hid (show ((sortL xs).filter fun x => !(x.status != 0)) = finL xs from rfl)
  clear hl
  go_enter Tryz.func39, Tryz.ntmps39
  go_wp2_with fail
  refine (sortedLines_any A n c xs w hx hn).mono ?_
  rintro e w1 ⟨A1, c1, rfl, o1, b1⟩
  go_wp2_with fail
  refine (DeleteFunc_ReportLine 59 #[] (fun x => x.status != 0) _ _ _ c1 A1 (sortL xs) w1 o1 (by rw [HL.out]; omega) (finished1_answers _ _ _)).mono ?_
  rw [HF.out]
  rintro e w2 ⟨rfl, o2, h2⟩
  have K2 := b1.trans (h2.below (fun k hk => (own_top o1 hk).1) b1.size)
  go_wp2_with fail
  go_ret
  exact givesLn_of rfl o2 K2

/-- Lines in memory of the call's own, and a word on whether there are any. -/
def GivesLns (w : World) (R : Option (List ReportLine)) (e : Ending) (w' : World) : Prop := ∃ A c, e = .returned (.tuple #[.slice A (R.getD []).length c, .bool R.isSome]) ∧ w'.ownsRow w.heap.size 41 4 (.slice A (R.getD []).length c) (R.getD []).length ((R.getD []).flatMap ReportLine.enc) ∧ Below w.heap.size w w'
theorem givesLns_nil {w w' : World} (h : Below w.heap.size w w') : GivesLns w none (.returned (.tuple #[.slice none 0 0, .bool false])) w' :=
  ⟨none, 0, rfl, World.ownsRow_nil _ _ _ _, h⟩
theorem givesLns_empty {w : World} (wr : World) (h : Below w.heap.size w wr) : GivesLns w none (.returned (.tuple #[.slice (some ⟨wr.heap.size, 0, none⟩) 0 0, .bool false])) (wr.alloc (.cells #[] 41)) :=
  ⟨_, 0, rfl, own_base (own_empty wr 41 4) h.size, h.alloc h.size _⟩
def sortLines (xs : List ReportLine) : Option (List ReportLine) := if linesB xs then some (sortL xs) else none
theorem sortLines_len (xs : List ReportLine) : ((sortLines xs).getD []).length ≤ 12 := by
  unfold sortLines
  split
  · rename_i h
    simp only [Option.getD_some, sortL_length]
    exact (line_facts h).1
  · simp

set_option maxRecDepth 100000 in
theorem SortLines_any (A : Option Addr) (n c : Nat) (xs : List ReportLine) (w : World) (hx : Sees w 0 4 A n (xs.flatMap ReportLine.enc)) (hn : n ≤ 1048576) (hnc : n ≤ c) (hs : ∀ x ∈ xs, x.upto 9223372036854775807) :
    Calls Tryz.prog 12 #[.slice A n c] w (GivesLns w (sortLines xs)) := by
  have hl := hx.count (by decide) (fun _ => rfl)
  cases g : linesB xs
  · have HR := Lib.hid (show sortLines xs = none by simp [sortLines, g])
    have HG := Lib.hid g
    clear g
    go_enter Tryz.func12, Tryz.ntmps12
    go_wp2_with fail
    refine (AreLines_any _ _ _ _ _ hx hn hnc hs).mono ?_
    rw [HG.out]
    rintro e w1 ⟨rfl, b1⟩
    go_wp2_with fail
    go_ret2
    rw [HR.out]
    exact givesLns_nil b1
  · have HR := Lib.hid (show sortLines xs = some (sortL xs) by simp [sortLines, g])
    have hn12 : n ≤ 12 := by have := (line_facts g).1; omega
    have HG := Lib.hid g
    clear g hl
    go_enter Tryz.func12, Tryz.ntmps12
    go_wp2_with fail
    refine (AreLines_any _ _ _ _ _ hx hn hnc hs).mono ?_
    rw [HG.out]
    rintro e w1 ⟨rfl, b1⟩
    go_wp2_with fail
    refine (sortedLines_any A n c xs w1 (hx.next b1) hn12).mono ?_
    rintro e w2 ⟨A2, c2, rfl, o2, b2⟩
    go_wp2_with fail
    go_ret2
    rw [HR.out]
    exact ⟨A2, c2, rfl, own_base o2 b1.size, bel_then b1 b2⟩

set_option maxRecDepth 100000 in
theorem specSortLines_any (A : Option Addr) (n c : Nat) (xs : List ReportLine) (w : World) (hx : Sees w 0 4 A n (xs.flatMap ReportLine.enc)) (hn : n ≤ 1048576) (hs : ∀ x ∈ xs, x.upto 9223372036854775807) :
    Calls Tryz.prog 13 #[.slice A n c] w (GivesLns w (sortLines xs)) := by
  have hl := hx.count (by decide) (fun _ => rfl)
  cases g : linesB xs
  · have HR := Lib.hid (show sortLines xs = none by simp [sortLines, g])
    have HG := Lib.hid g
    clear g
    go_enter Tryz.func13, Tryz.ntmps13
    go_wp2_with fail
    refine (l26Good_any _ _ _ _ _ hx hn hs).mono ?_
    rw [HG.out]
    rintro e w1 ⟨rfl, b1⟩
    go_wp2_with fail
    go_ret2
    rw [HR.out]
    exact givesLns_empty _ b1
  · have HR := Lib.hid (show sortLines xs = some (sortL xs) by simp [sortLines, g])
    have hn12 : n ≤ 12 := by have := (line_facts g).1; omega
    have HG := Lib.hid g
    clear g hl
    go_enter Tryz.func13, Tryz.ntmps13
    go_wp2_with fail
    refine (l26Good_any _ _ _ _ _ hx hn hs).mono ?_
    rw [HG.out]
    rintro e w1 ⟨rfl, b1⟩
    go_wp2_with fail
    refine (l26Sort_any A n c xs w1 (hx.next b1) hn12).mono ?_
    rintro e w2 ⟨A2, c2, rfl, o2, b2⟩
    go_wp2_with fail
    go_ret2
    rw [HR.out]
    exact ⟨A2, c2, rfl, own_base o2 b1.size, bel_then b1 b2⟩

end Go.Proofs.YtbcblmbpjecilaaGreatDoor
