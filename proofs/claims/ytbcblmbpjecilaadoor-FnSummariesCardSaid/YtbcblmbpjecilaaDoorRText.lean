/- ReportText, as the program and as the reference have it. -/
import Derived.Test.YtbcblmbpjecilaaDoorSumm
namespace Go.Proofs.YtbcblmbpjecilaaDoor
open Go.RowKit

def wordT (s : Int) : ByteArray := if s = 1 then ⟨#[109, 105, 115, 112, 117, 110, 99, 104, 101, 100]⟩ else if s = 2 then ⟨#[115, 116, 111, 112, 112, 101, 100]⟩ else ⟨#[100, 105, 100, 32, 110, 111, 116, 32, 115, 116, 97, 114, 116]⟩
def nameT (x : ReportLine) : ByteArray := ⟨#[32]⟩ ++ x.name ++ ⟨#[32, 40]⟩ ++ x.club ++ ⟨#[41, 32]⟩
def slower (t : Int) (x : ReportLine) : Bool := x.status == 0 && decide (x.time < t)
def rankN (xs : List ReportLine) (x : ReportLine) : Nat := 1 + (xs.filter (slower x.time)).length
def lineT (xs : List ReportLine) (x : ReportLine) : ByteArray := if x.status = 0 then numT (rankN xs x) ++ ⟨#[46]⟩ ++ nameT x ++ clockT x.time.toNat else ⟨#[45]⟩ ++ nameT x ++ wordT x.status
def reportL (xs l : List ReportLine) : ByteArray := l.foldl (fun s x => s ++ lineT xs x ++ ⟨#[10]⟩) ⟨#[]⟩
def reportM (xs : List ReportLine) : ByteArray × Bool := if linesB xs then (reportL xs (sortL xs), true) else (⟨#[]⟩, false)
theorem reportL_next {xs l : List ReportLine} {k : Nat} (hk : k < l.length) : reportL xs (l.take (k + 1)) = reportL xs (l.take k) ++ lineT xs l[k] ++ ⟨#[10]⟩ := by
  unfold reportL
  rw [List.take_succ_eq_append_getElem hk, List.foldl_append]; rfl
theorem name_size {x : ReportLine} (h : x.name.size ≤ 10 ∧ x.club.size ≤ 10) : (nameT x).size ≤ 25 := by
  have e1 : (⟨#[32]⟩ : ByteArray).size = 1 := rfl
  have e2 : (⟨#[32, 40]⟩ : ByteArray).size = 2 := rfl
  have e3 : (⟨#[41, 32]⟩ : ByteArray).size = 2 := rfl
  unfold nameT
  simp only [ByteArray.size_append]
  omega
theorem word_size (s : Int) : (wordT s).size ≤ 13 := by
  unfold wordT
  split
  · decide
  · split <;> decide
theorem lineT_size {xs : List ReportLine} {x : ReportLine} (hl : xs.length ≤ 12) (h : x.name.size ≤ 10 ∧ x.club.size ≤ 10) (ht : 0 ≤ x.time ∧ x.time ≤ 36000) : (lineT xs x).size ≤ 60 := by
  have h1 := name_size h
  have h2 := word_size x.status
  have h3 := clock_size (t := x.time.toNat) (by omega)
  have h4 := List.length_filter_le (slower x.time) xs
  have h5 := num2 (n := rankN xs x) (by unfold rankN; omega)
  have e1 : (⟨#[46]⟩ : ByteArray).size = 1 := rfl
  have e2 : (⟨#[45]⟩ : ByteArray).size = 1 := rfl
  unfold lineT
  split <;> simp only [ByteArray.size_append] <;> omega
theorem reportL_size {xs l : List ReportLine} (hl : xs.length ≤ 12) (h : ∀ x ∈ l, (x.name.size ≤ 10 ∧ x.club.size ≤ 10) ∧ 0 ≤ x.time ∧ x.time ≤ 36000) : ∀ (s : ByteArray), (l.foldl (fun s x => s ++ lineT xs x ++ ⟨#[10]⟩) s).size ≤ s.size + 61 * l.length := by
  induction l with
  | nil => intro s; simp
  | cons x l ih =>
    intro s
    have h1 := lineT_size (xs := xs) hl (h x (by simp)).1 (h x (by simp)).2
    have h2 := ih (fun y hy => h y (by simp [hy])) (s ++ lineT xs x ++ ⟨#[10]⟩)
    have e1 : (⟨#[10]⟩ : ByteArray).size = 1 := rfl
    rw [List.foldl_cons, List.length_cons]
    simp only [ByteArray.size_append] at h2
    omega
theorem reportM_size (xs : List ReportLine) : (reportM xs).1.size ≤ 1000 := by
  unfold reportM
  split
  · rename_i h
    have h1 := (line_facts h).1
    have h2 := reportL_size (xs := xs) (l := sortL xs) h1 (fun x hx => ⟨line_name h x (sortL_mem.1 hx), ((line_facts h).2 x (sortL_mem.1 hx)).2⟩) ⟨#[]⟩
    rw [sortL_length] at h2
    have e0 : (⟨#[]⟩ : ByteArray).size = 0 := rfl
    show (reportL xs (sortL xs)).size ≤ 1000
    unfold reportL
    omega
  · show (0 : Nat) ≤ 1000
    omega
/-! ### the rank -/
section
variable {α : Type} {lt : α → α → Bool} {R : α → α → Prop}
theorem insR_rel (h1 : ∀ x y, lt x y = true → R x y) (h0 : ∀ x y, lt x y = false → R y x) (htr : ∀ x y z, R x y → R y z → R x z) {P : List α} (e : α) (hP : P.Pairwise R) : (insR lt P e).Pairwise R := by
  unfold insR
  have hle := posR_le lt P e P.length
  have ha := posR_after (lt := lt) (P := P) (e := e) P.length (Nat.le_refl _)
  have hs := posR_stop (lt := lt) (P := P) (e := e) P.length (Nat.le_refl _)
  generalize posR lt P e P.length = k at *
  have hlow : ∀ x ∈ P.take k, R x e := fun x hx => by
    obtain ⟨j, hj, rfl⟩ := List.getElem_of_mem hx
    rw [List.length_take] at hj
    rw [List.getElem_take]
    have h2 := h0 _ _ (hs (by omega) (by omega))
    by_cases e1 : j = k - 1
    · subst e1; exact h2
    · exact htr _ _ _ (List.pairwise_iff_getElem.1 hP j (k - 1) (by omega) (by omega) (by omega)) h2
  have hhigh : ∀ x ∈ P.drop k, R e x := fun x hx => by
    obtain ⟨j, hj, rfl⟩ := List.getElem_of_mem hx
    rw [List.length_drop] at hj
    rw [List.getElem_drop]
    exact h1 _ _ (ha (k + j) (by omega) (by omega) (by omega))
  rw [List.pairwise_append]
  refine ⟨hP.sublist (List.take_sublist _ _), List.pairwise_cons.2 ⟨hhigh, hP.sublist (List.drop_sublist _ _)⟩, fun x hx y hy => ?_⟩
  rcases List.mem_cons.1 hy with rfl | hy
  · exact hlow x hx
  · exact htr _ _ _ (hlow x hx) (hhigh y hy)
theorem sortR_rel (h1 : ∀ x y, lt x y = true → R x y) (h0 : ∀ x y, lt x y = false → R y x) (htr : ∀ x y z, R x y → R y z → R x z) : ∀ (l acc : List α), acc.Pairwise R → (l.foldl (insR lt) acc).Pairwise R
  | [], _, h => h
  | x :: l, _, h => sortR_rel h1 h0 htr l _ (insR_rel h1 h0 htr x h)
end
def Earlier (x y : ReportLine) : Prop := x.status < y.status ∨ (x.status = y.status ∧ x.time ≤ y.time)
theorem lessL_earlier (x y : ReportLine) : (lessL x y = true → Earlier x y) ∧ (lessL x y = false → Earlier y x) := by
  unfold lessL Earlier
  by_cases h : x.status = y.status
  · rw [if_neg (by simp [h])]
    by_cases h2 : x.time = y.time
    · exact ⟨fun _ => by omega, fun _ => by omega⟩
    · rw [if_pos h2]
      exact ⟨fun h3 => by have := of_decide_eq_true h3; omega, fun h3 => by have := of_decide_eq_false h3; omega⟩
  · rw [if_pos h]
    exact ⟨fun h2 => by have := of_decide_eq_true h2; omega, fun h2 => by have := of_decide_eq_false h2; omega⟩
theorem fin_times (xs : List ReportLine) : (finL xs).Pairwise fun x y => x.time ≤ y.time := by
  have h1 : (sortL xs).Pairwise Earlier := sortR_rel (fun x y => (lessL_earlier x y).1) (fun x y => (lessL_earlier x y).2) (fun x y z h1 h2 => by unfold Earlier at *; omega) xs [] List.Pairwise.nil
  rw [finL_eq]
  have h2 := h1.filter (fun x => x.status == 0)
  refine h2.imp_of_mem fun {a b} hx hy h => ?_
  have e1 : a.status = 0 := by simpa using (List.mem_filter.1 hx).2
  have e2 : b.status = 0 := by simpa using (List.mem_filter.1 hy).2
  unfold Earlier at h
  omega
theorem rank_first {F : List ReportLine} (hs : F.Pairwise fun x y => x.time ≤ y.time) {t : Int} {k : Nat} (hk : k < F.length) (he : F[k].time = t) (hb : (F.take k).any (fun y => decide (y.time = t)) = false) : (F.filter fun y => decide (y.time < t)).length = k := by
  have e1 : F = F.take k ++ F.drop k := (List.take_append_drop k F).symm
  have h1 : (F.take k).filter (fun y => decide (y.time < t)) = F.take k := by
    rw [List.filter_eq_self]
    intro y hy
    have h2 := List.any_eq_false.1 hb y hy
    obtain ⟨j, hj, rfl⟩ := List.getElem_of_mem hy
    rw [List.length_take] at hj
    have h3 := List.pairwise_iff_getElem.1 hs j k (by omega) hk (by omega)
    rw [List.getElem_take] at h2 ⊢
    simp at h2
    simp
    omega
  have h2 : (F.drop k).filter (fun y => decide (y.time < t)) = [] := by
    rw [List.filter_eq_nil_iff]
    intro y hy
    obtain ⟨j, hj, rfl⟩ := List.getElem_of_mem hy
    rw [List.length_drop] at hj
    rw [List.getElem_drop]
    rcases Nat.eq_zero_or_pos j with h0 | h0
    · subst h0
      simp [he]
    · have h3 := List.pairwise_iff_getElem.1 hs k (k + j) hk (by omega) (by omega)
      simp
      omega
  rw [e1, List.filter_append, h1, h2, List.append_nil, List.length_take]
  omega
theorem rank_eq (xs : List ReportLine) (x : ReportLine) : (xs.filter (slower x.time)).length = ((finL xs).filter fun y => decide (y.time < x.time)).length := by
  have h1 : ((sortL xs).filter (slower x.time)).length = (xs.filter (slower x.time)).length := ((sortR_perm lessL xs).filter _).length_eq
  rw [← h1, finL_eq, List.filter_filter]
  congr 1
  refine List.filter_congr fun y _ => ?_
  unfold slower
  rw [Bool.and_comm]

set_option maxRecDepth 100000 in
set_option maxHeartbeats 4000000 in
theorem l26Text_any (A : Option Addr) (n c : Nat) (xs : List ReportLine) (x : ReportLine) (w : World) (hx : Sees w 0 4 A n (xs.flatMap ReportLine.enc)) (hn : n ≤ 12) (hnm : x.name.size ≤ 10 ∧ x.club.size ≤ 10) (ht : 0 ≤ x.time ∧ x.time ≤ 36000) (hst : 0 ≤ x.status ∧ x.status ≤ 3) :
    Calls Tryd.prog 43 #[.slice A n c, .agg #[.string x.name, .string x.club, .int .i64 x.status, .int .i64 x.time]] w fun e w' => e = .returned (.string (lineT xs x)) ∧ Below w.heap.size w w' := by
  have hl := hx.count (by decide) (fun _ => rfl)
  have HL := Lib.hid hl
  have hn1 := hnm.1
  have hn2 := hnm.2
  have f1 : ¬ 9223372036854775807 < 1 + x.name.size := by omega
  have f2 : ¬ 9223372036854775807 < 1 + x.name.size + 2 := by omega
  have f3 : ¬ 9223372036854775807 < 1 + x.name.size + 2 + x.club.size := by omega
  have f4 : ¬ 9223372036854775807 < 1 + x.name.size + 2 + x.club.size + 2 := by omega
  obtain ⟨xn, xc, xs0, xt⟩ := x
  simp only at hn1 hn2 f1 f2 f3 f4 ht hst
  clear hnm hl
  by_cases h0 : xs0 = 0
  · subst h0
    have K0 : Below w.heap.size w (w.alloc (.cells #[.string xn, .string xc, .int .i64 0, .int .i64 xt] 42)) := (Below.refl _ _).alloc (Nat.le_refl _) _
    have X0 : Blk (w.alloc (.cells #[.string xn, .string xc, .int .i64 0, .int .i64 xt] 42)) w.heap.size 42 [.string xn, .string xc, .int .i64 0, .int .i64 xt] := Blk.at_ rfl
    have cx := X0.cell
    have HM := Lib.hid (show lineT xs ⟨xn, xc, 0, xt⟩ = numT (1 + (xs.filter (slower xt)).length) ++ ⟨#[46]⟩ ++ (⟨#[32]⟩ ++ xn ++ ⟨#[32, 40]⟩ ++ xc ++ ⟨#[41, 32]⟩) ++ clockT xt.toNat from rfl)
    have htn : xt = (xt.toNat : Int) := by omega
    have HTN := Lib.hid (And.intro htn (show xt.toNat ≤ 36000 by omega))
    have hcs := clock_size (t := xt.toNat) (by omega)
    clear htn
    go_enter Tryd.func43, Tryd.ntmps43
    go_wp2_with fail
    go_loopw [6, 7] (fun rv iv wr => ∃ k : Nat, k ≤ n ∧ iv = .int .i64 (k : Int) ∧ rv = .int .i64 ((1 + ((xs.take k).filter (slower xt)).length : Nat) : Int) ∧ Quiet (w.alloc (.cells #[.string xn, .string xc, .int .i64 0, .int .i64 xt] 42)) wr) (fun _ iv _ => n - (intOf iv).toNat)
    case atStart => exact ⟨0, Nat.zero_le _, rfl, rfl, Quiet.refl _⟩
    case round =>
      obtain ⟨k, hk, rfl, rfl, q⟩ := hrel
      clear cx
      have cx := (X0.quiet q).cell
      by_cases hlt : k < n
      · obtain ⟨b3, off3, rfl, hk3, y0, y1, y2, y3⟩ := ((hx.next K0).quiet q).elem4 (fun _ => rfl) hlt
        have HN := Lib.hid (filter_next (p := slower xt) hk3)
        obtain ⟨y, hyk⟩ : ∃ y, xs[k]'hk3 = y := ⟨_, rfl⟩
        rw [show xs[k]'hk3 = y from hyk] at y0 y1 y2 y3 HN
        have hle : ((xs.take k).filter (slower xt)).length ≤ 12 := Nat.le_trans (List.length_filter_le _ _) (by rw [List.length_take]; omega)
        have HLT := Lib.hid hlt
        have hki : (k : Int) < (n : Int) := by omega
        have hki0 : (0 : Int) ≤ (k : Int) := by omega
        clear hyk
        by_cases hs0 : y.status = 0
        · rw [hs0] at y2
          by_cases hty : y.time < xt
          · have HN2 := Lib.hid (show ((xs.take (k + 1)).filter (slower xt)).length = ((xs.take k).filter (slower xt)).length + 1 by rw [HN.out, if_pos (by simp [slower, hs0, hty])]; simp)
            obtain ⟨cn, hcn⟩ : ∃ cn, ((xs.take k).filter (slower xt)).length = cn := ⟨_, rfl⟩
            rw [hcn] at HN2 hle ⊢
            clear hcn hs0
            go_wp2_with fail
            go_quiet (fail)
            go_wp2_with fail
            go_roundw
            case rel => exact ⟨k + 1, by have := HLT.out; omega, by go_num, by rw [HN2.out]; go_num, q.more _⟩
            case measure => have := HLT.out; simp [intOf]; omega
          · have HN2 := Lib.hid (show ((xs.take (k + 1)).filter (slower xt)).length = ((xs.take k).filter (slower xt)).length by rw [HN.out, if_neg (by unfold slower; rw [decide_eq_false hty]; simp)])
            obtain ⟨cn, hcn⟩ : ∃ cn, ((xs.take k).filter (slower xt)).length = cn := ⟨_, rfl⟩
            rw [hcn] at HN2 hle ⊢
            clear hcn hs0
            go_wp2_with fail
            go_quiet (fail)
            go_wp2_with fail
            go_roundw
            case rel => exact ⟨k + 1, by have := HLT.out; omega, by go_num, by rw [HN2.out]; go_num, q.more _⟩
            case measure => have := HLT.out; simp [intOf]; omega
        · have hsb : (y.status == 0) = false := beq_eq_false_iff_ne.2 hs0
          have HN2 := Lib.hid (show ((xs.take (k + 1)).filter (slower xt)).length = ((xs.take k).filter (slower xt)).length by rw [HN.out, if_neg (by simp [slower, hs0])])
          obtain ⟨cn, hcn⟩ : ∃ cn, ((xs.take k).filter (slower xt)).length = cn := ⟨_, rfl⟩
          rw [hcn] at HN2 hle ⊢
          clear hcn hs0
          go_wp2_with fail
          go_quiet (fail)
          go_wp2_with fail
          go_roundw
          case rel => exact ⟨k + 1, by have := HLT.out; omega, by go_num, by rw [HN2.out], q.more _⟩
          case measure => have := HLT.out; simp [intOf]; omega
      · have hkn : k = n := by omega
        have hcnt : ((xs.take k).filter (slower xt)).length = (xs.filter (slower xt)).length := by rw [List.take_of_length_le (by rw [HL.out]; omega)]
        have hle : (xs.filter (slower xt)).length ≤ 12 := Nat.le_trans (List.length_filter_le _ _) (by rw [HL.out]; exact hn)
        rw [hcnt]
        obtain ⟨m, hm⟩ : ∃ m, 1 + (xs.filter (slower xt)).length = m := ⟨_, rfl⟩
        rw [hm] at HM ⊢
        have hm13 : m ≤ 13 := by omega
        have hn2' := num2 (n := m) (by omega)
        have g1 : ¬ 9223372036854775807 < (numT m).size + 1 := by omega
        have g2 : ¬ 9223372036854775807 < (numT m).size + 1 + (1 + xn.size + 2 + xc.size + 2) := by omega
        have g3 : ¬ 9223372036854775807 < (numT m).size + 1 + (1 + xn.size + 2 + xc.size + 2) + (clockT xt.toNat).size := by omega
        clear hcnt hkn hm hle
        go_wp2_with fail
        go_quiet ((first | (go_at_call 37; exact quiet_rightG (Num_z m _ _ rfl (by omega))) | (go_at_call 28; exact quiet_rightG (l26Clock_any xt.toNat _ _ HTN.out.1 HTN.out.2))))
        go_wp2_with fail
        go_ret
        exact ⟨by rw [HM.out]; rfl, bel_drewN (bel_quiet K0 q) _⟩

  by_cases h1 : xs0 = 1
  · subst h1
    have K0 : Below w.heap.size w (w.alloc (.cells #[.string xn, .string xc, .int .i64 1, .int .i64 xt] 42)) := (Below.refl _ _).alloc (Nat.le_refl _) _
    have cx := (Blk.at_ rfl : Blk (w.alloc (.cells #[.string xn, .string xc, .int .i64 1, .int .i64 xt] 42)) w.heap.size 42 [.string xn, .string xc, .int .i64 1, .int .i64 xt]).cell
    have cy := ((Blk.at_ rfl : Blk (w.alloc (.cells #[.string xn, .string xc, .int .i64 1, .int .i64 xt] 42)) w.heap.size 42 [.string xn, .string xc, .int .i64 1, .int .i64 xt]).alloc (.cells #[.string ⟨#[]⟩, .string ⟨#[109, 105, 115, 112, 117, 110, 99, 104, 101, 100]⟩, .string ⟨#[115, 116, 111, 112, 112, 101, 100]⟩, .string ⟨#[100, 105, 100, 32, 110, 111, 116, 32, 115, 116, 97, 114, 116]⟩] 9)).cell
    have b1 : ((w.alloc (.cells #[.string xn, .string xc, .int .i64 1, .int .i64 xt] 42)).alloc (.cells #[.string ⟨#[]⟩, .string ⟨#[109, 105, 115, 112, 117, 110, 99, 104, 101, 100]⟩, .string ⟨#[115, 116, 111, 112, 112, 101, 100]⟩, .string ⟨#[100, 105, 100, 32, 110, 111, 116, 32, 115, 116, 97, 114, 116]⟩] 9)).cell? ⟨w.heap.size + 1, 1, none⟩ = some (.string ⟨#[109, 105, 115, 112, 117, 110, 99, 104, 101, 100]⟩) := (Blk.at_ (by simp) : Blk ((w.alloc (.cells #[.string xn, .string xc, .int .i64 1, .int .i64 xt] 42)).alloc (.cells #[.string ⟨#[]⟩, .string ⟨#[109, 105, 115, 112, 117, 110, 99, 104, 101, 100]⟩, .string ⟨#[115, 116, 111, 112, 112, 101, 100]⟩, .string ⟨#[100, 105, 100, 32, 110, 111, 116, 32, 115, 116, 97, 114, 116]⟩] 9)) (w.heap.size + 1) 9 [.string ⟨#[]⟩, .string ⟨#[109, 105, 115, 112, 117, 110, 99, 104, 101, 100]⟩, .string ⟨#[115, 116, 111, 112, 112, 101, 100]⟩, .string ⟨#[100, 105, 100, 32, 110, 111, 116, 32, 115, 116, 97, 114, 116]⟩]).cell 1
    have HM := Lib.hid (show lineT xs ⟨xn, xc, 1, xt⟩ = ⟨#[45]⟩ ++ (⟨#[32]⟩ ++ xn ++ ⟨#[32, 40]⟩ ++ xc ++ ⟨#[41, 32]⟩) ++ ⟨#[109, 105, 115, 112, 117, 110, 99, 104, 101, 100]⟩ from rfl)
    have g1 : ¬ 9223372036854775807 < 1 + (1 + xn.size + 2 + xc.size + 2) := by omega
    have g2 : ¬ 9223372036854775807 < 1 + (1 + xn.size + 2 + xc.size + 2) + 10 := by omega
    go_enter Tryd.func43, Tryd.ntmps43
    go_wp2_with fail
    go_ret
    exact ⟨by rw [HM.out]; rfl, K0.alloc (by simp) _⟩
  by_cases h2 : xs0 = 2
  · subst h2
    have K0 : Below w.heap.size w (w.alloc (.cells #[.string xn, .string xc, .int .i64 2, .int .i64 xt] 42)) := (Below.refl _ _).alloc (Nat.le_refl _) _
    have cx := (Blk.at_ rfl : Blk (w.alloc (.cells #[.string xn, .string xc, .int .i64 2, .int .i64 xt] 42)) w.heap.size 42 [.string xn, .string xc, .int .i64 2, .int .i64 xt]).cell
    have cy := ((Blk.at_ rfl : Blk (w.alloc (.cells #[.string xn, .string xc, .int .i64 2, .int .i64 xt] 42)) w.heap.size 42 [.string xn, .string xc, .int .i64 2, .int .i64 xt]).alloc (.cells #[.string ⟨#[]⟩, .string ⟨#[109, 105, 115, 112, 117, 110, 99, 104, 101, 100]⟩, .string ⟨#[115, 116, 111, 112, 112, 101, 100]⟩, .string ⟨#[100, 105, 100, 32, 110, 111, 116, 32, 115, 116, 97, 114, 116]⟩] 9)).cell
    have b1 : ((w.alloc (.cells #[.string xn, .string xc, .int .i64 2, .int .i64 xt] 42)).alloc (.cells #[.string ⟨#[]⟩, .string ⟨#[109, 105, 115, 112, 117, 110, 99, 104, 101, 100]⟩, .string ⟨#[115, 116, 111, 112, 112, 101, 100]⟩, .string ⟨#[100, 105, 100, 32, 110, 111, 116, 32, 115, 116, 97, 114, 116]⟩] 9)).cell? ⟨w.heap.size + 1, 2, none⟩ = some (.string ⟨#[115, 116, 111, 112, 112, 101, 100]⟩) := (Blk.at_ (by simp) : Blk ((w.alloc (.cells #[.string xn, .string xc, .int .i64 2, .int .i64 xt] 42)).alloc (.cells #[.string ⟨#[]⟩, .string ⟨#[109, 105, 115, 112, 117, 110, 99, 104, 101, 100]⟩, .string ⟨#[115, 116, 111, 112, 112, 101, 100]⟩, .string ⟨#[100, 105, 100, 32, 110, 111, 116, 32, 115, 116, 97, 114, 116]⟩] 9)) (w.heap.size + 1) 9 [.string ⟨#[]⟩, .string ⟨#[109, 105, 115, 112, 117, 110, 99, 104, 101, 100]⟩, .string ⟨#[115, 116, 111, 112, 112, 101, 100]⟩, .string ⟨#[100, 105, 100, 32, 110, 111, 116, 32, 115, 116, 97, 114, 116]⟩]).cell 2
    have HM := Lib.hid (show lineT xs ⟨xn, xc, 2, xt⟩ = ⟨#[45]⟩ ++ (⟨#[32]⟩ ++ xn ++ ⟨#[32, 40]⟩ ++ xc ++ ⟨#[41, 32]⟩) ++ ⟨#[115, 116, 111, 112, 112, 101, 100]⟩ from rfl)
    have g1 : ¬ 9223372036854775807 < 1 + (1 + xn.size + 2 + xc.size + 2) := by omega
    have g2 : ¬ 9223372036854775807 < 1 + (1 + xn.size + 2 + xc.size + 2) + 7 := by omega
    go_enter Tryd.func43, Tryd.ntmps43
    go_wp2_with fail
    go_ret
    exact ⟨by rw [HM.out]; rfl, K0.alloc (by simp) _⟩
  have h3 : xs0 = 3 := by omega
  subst h3
  have K0 : Below w.heap.size w (w.alloc (.cells #[.string xn, .string xc, .int .i64 3, .int .i64 xt] 42)) := (Below.refl _ _).alloc (Nat.le_refl _) _
  have cx := (Blk.at_ rfl : Blk (w.alloc (.cells #[.string xn, .string xc, .int .i64 3, .int .i64 xt] 42)) w.heap.size 42 [.string xn, .string xc, .int .i64 3, .int .i64 xt]).cell
  have cy := ((Blk.at_ rfl : Blk (w.alloc (.cells #[.string xn, .string xc, .int .i64 3, .int .i64 xt] 42)) w.heap.size 42 [.string xn, .string xc, .int .i64 3, .int .i64 xt]).alloc (.cells #[.string ⟨#[]⟩, .string ⟨#[109, 105, 115, 112, 117, 110, 99, 104, 101, 100]⟩, .string ⟨#[115, 116, 111, 112, 112, 101, 100]⟩, .string ⟨#[100, 105, 100, 32, 110, 111, 116, 32, 115, 116, 97, 114, 116]⟩] 9)).cell
  have b1 : ((w.alloc (.cells #[.string xn, .string xc, .int .i64 3, .int .i64 xt] 42)).alloc (.cells #[.string ⟨#[]⟩, .string ⟨#[109, 105, 115, 112, 117, 110, 99, 104, 101, 100]⟩, .string ⟨#[115, 116, 111, 112, 112, 101, 100]⟩, .string ⟨#[100, 105, 100, 32, 110, 111, 116, 32, 115, 116, 97, 114, 116]⟩] 9)).cell? ⟨w.heap.size + 1, 3, none⟩ = some (.string ⟨#[100, 105, 100, 32, 110, 111, 116, 32, 115, 116, 97, 114, 116]⟩) := (Blk.at_ (by simp) : Blk ((w.alloc (.cells #[.string xn, .string xc, .int .i64 3, .int .i64 xt] 42)).alloc (.cells #[.string ⟨#[]⟩, .string ⟨#[109, 105, 115, 112, 117, 110, 99, 104, 101, 100]⟩, .string ⟨#[115, 116, 111, 112, 112, 101, 100]⟩, .string ⟨#[100, 105, 100, 32, 110, 111, 116, 32, 115, 116, 97, 114, 116]⟩] 9)) (w.heap.size + 1) 9 [.string ⟨#[]⟩, .string ⟨#[109, 105, 115, 112, 117, 110, 99, 104, 101, 100]⟩, .string ⟨#[115, 116, 111, 112, 112, 101, 100]⟩, .string ⟨#[100, 105, 100, 32, 110, 111, 116, 32, 115, 116, 97, 114, 116]⟩]).cell 3
  have HM := Lib.hid (show lineT xs ⟨xn, xc, 3, xt⟩ = ⟨#[45]⟩ ++ (⟨#[32]⟩ ++ xn ++ ⟨#[32, 40]⟩ ++ xc ++ ⟨#[41, 32]⟩) ++ ⟨#[100, 105, 100, 32, 110, 111, 116, 32, 115, 116, 97, 114, 116]⟩ from rfl)
  have g1 : ¬ 9223372036854775807 < 1 + (1 + xn.size + 2 + xc.size + 2) := by omega
  have g2 : ¬ 9223372036854775807 < 1 + (1 + xn.size + 2 + xc.size + 2) + 13 := by omega
  go_enter Tryd.func43, Tryd.ntmps43
  go_wp2_with fail
  go_ret
  exact ⟨by rw [HM.out]; rfl, K0.alloc (by simp) _⟩

set_option maxRecDepth 100000 in
set_option maxHeartbeats 4000000 in
theorem specReportText_any (A : Option Addr) (n c : Nat) (xs : List ReportLine) (w : World) (hx : Sees w 0 4 A n (xs.flatMap ReportLine.enc)) (hn : n ≤ 1048576) (hs : ∀ x ∈ xs, x.upto 9223372036854775807) :
    Calls Tryd.prog 17 #[.slice A n c] w fun e w' => e = .returned (.tuple #[.string (reportM xs).1, .bool (reportM xs).2]) ∧ Below w.heap.size w w' := by
  have hl := hx.count (by decide) (fun _ => rfl)
  cases g : linesB xs
  · have HR := Lib.hid (show reportM xs = (⟨#[]⟩, false) by simp [reportM, g])
    have HG := Lib.hid g
    clear g
    go_enter Tryd.func17, Tryd.ntmps17
    go_wp2_with fail
    refine (l26Good_any _ _ _ _ _ hx hn hs).mono ?_
    rw [HG.out]
    rintro e w1 ⟨rfl, b1⟩
    go_wp2_with fail
    go_ret2
    rw [HR.out]
    exact ⟨rfl, b1⟩
  · have HR := Lib.hid (show reportM xs = (reportL xs (sortL xs), true) by simp [reportM, g])
    have hn12 : n ≤ 12 := by have := (line_facts g).1; omega
    have HT := Lib.hid (show ∀ x ∈ sortL xs, (x.name.size ≤ 10 ∧ x.club.size ≤ 10) ∧ (0 ≤ x.time ∧ x.time ≤ 36000) ∧ (0 ≤ x.status ∧ x.status ≤ 3) from fun x hx => ⟨line_name g x (sortL_mem.1 hx), ((line_facts g).2 x (sortL_mem.1 hx)).2, ((line_facts g).2 x (sortL_mem.1 hx)).1⟩)
    have hl12 : xs.length ≤ 12 := (line_facts g).1
    have hZ12 : (sortL xs).length ≤ 12 := by rw [sortL_length]; exact hl12
    have HG := Lib.hid g
    clear g hl
    go_enter Tryd.func17, Tryd.ntmps17
    go_wp2_with fail
    refine (l26Good_any _ _ _ _ _ hx hn hs).mono ?_
    rw [HG.out]
    rintro e w1 ⟨rfl, b1⟩
    go_wp2_with fail
    refine (l26Sort_any A n c xs w1 (hx.next b1) hn12).mono ?_
    rintro e w2 ⟨A3, c3, rfl, o3, b3⟩
    have K2 := bel_then b1 b3
    have o3' := own_base o3 (Nat.zero_le _)
    clear o3 b3 b1
    obtain ⟨Z, hZ⟩ : ∃ Z, sortL xs = Z := ⟨_, rfl⟩
    rw [hZ] at HT hZ12 HR o3' ⊢
    clear hZ
    go_wp2_with fail
    go_loopw [4, 6] (fun tv iv wr => ∃ k : Nat, k ≤ Z.length ∧ iv = .int .i64 (k : Int) ∧ tv = .string (reportL xs (Z.take k)) ∧ Hid ((reportL xs (Z.take k)).size ≤ 61 * k) ∧ wr.ownsRow 0 42 4 (.slice A3 Z.length c3) Z.length (Z.flatMap ReportLine.enc) ∧ Below w.heap.size w wr) (fun _ iv _ => Z.length - (intOf iv).toNat)
    case atStart => exact ⟨0, Nat.zero_le _, rfl, rfl, Lib.hid (Nat.le_refl 0), o3', K2⟩
    case round =>
      obtain ⟨k, hk, rfl, rfl, HSZ, oF, K⟩ := hrel
      clear o3' K2
      by_cases hlt : k < Z.length
      · obtain ⟨b3, off3, rfl, hk3, x0, x1, x2, x3⟩ := (Sees.of_own oF).elem4 (fun _ => rfl) hlt
        have HN := Lib.hid (reportL_next (xs := xs) hlt)
        obtain ⟨x, hxk⟩ : ∃ x, Z[k]'hlt = x := ⟨_, rfl⟩
        obtain ⟨hnm, hxt, hxs⟩ : (x.name.size ≤ 10 ∧ x.club.size ≤ 10) ∧ (0 ≤ x.time ∧ x.time ≤ 36000) ∧ (0 ≤ x.status ∧ x.status ≤ 3) := HT.out x (hxk ▸ List.getElem_mem hlt)
        rw [show Z[k]'hlt = x from hxk] at HN
        rw [show Z[k]'hk3 = x from hxk] at x0 x1 x2 x3
        have hls := lineT_size (xs := xs) hl12 hnm hxt
        have HLT := Lib.hid hlt
        have hsz := HSZ.out
        obtain ⟨tx, htx⟩ : ∃ tx, reportL xs (Z.take k) = tx := ⟨_, rfl⟩
        rw [htx] at HN hsz ⊢
        have f1 : ¬ 9223372036854775807 < tx.size + (lineT xs x).size := by omega
        have f2 : ¬ 9223372036854775807 < tx.size + (lineT xs x).size + 1 := by omega
        have HSZ2 := Lib.hid (show (reportL xs (Z.take (k + 1))).size ≤ 61 * (k + 1) by
          rw [HN.out]
          have e1 : (⟨#[10]⟩ : ByteArray).size = 1 := rfl
          simp only [ByteArray.size_append]
          omega)
        have HH := Lib.hid (And.intro hnm (And.intro hxt hxs))
        clear hxk htx HSZ hnm hxs
        go_wp2_with fail
        refine (l26Text_any A n c xs x wr (hx.next K) hn12 HH.out.1 HH.out.2.1 HH.out.2.2).mono ?_
        rintro e w3 ⟨rfl, b3⟩
        go_wp2_with fail
        go_roundw
        case rel => exact ⟨k + 1, by have := HLT.out; omega, by go_num, by rw [HN.out], HSZ2, own_below oF b3, bel_then K b3⟩
        case measure => have := HLT.out; simp [intOf]; omega
      · have HE := Lib.hid (show reportL xs (Z.take k) = reportL xs Z by rw [List.take_of_length_le (by omega)])
        obtain ⟨tx, htx⟩ : ∃ tx, reportL xs (Z.take k) = tx := ⟨_, rfl⟩
        rw [htx] at HE ⊢
        have HR2 := Lib.hid (HR.out.trans (by rw [← HE.out]))
        clear htx
        go_wp2_with fail
        go_ret2
        rw [HR2.out]
        exact ⟨rfl, K⟩

theorem ReportText1_any (y : ReportLine) (t : Int) (B : Nat) (w : World) (hc : w.cell? ⟨B, 3, none⟩ = some (.int .i64 t)) (hB : B < w.heap.size) : Calls Tryd.prog 46 #[.agg #[.string y.name, .string y.club, .int .i64 y.status, .int .i64 y.time], .pointer (some ⟨B, 0, none⟩)] w fun e w' => e = .returned (.bool (decide (y.time = t))) ∧ Below w.heap.size w w' := by
  go_enter Tryd.func46, Tryd.ntmps46
  go_wp2
  go_ret
  exact ⟨ret_bool (by rw [Bool.eq_iff_iff]; simp), (Below.refl _ _).alloc (Nat.le_refl _) _⟩
theorem ReportText1_answers (xs : List ReportLine) (t : Int) (B : Nat) (w : World) (hc : w.cell? ⟨B, 3, none⟩ = some (.int .i64 t)) (hB : B < w.heap.size) : Answers 46 #[.pointer (some ⟨B, 0, none⟩)] (fun x : ReportLine => .agg x.enc.toArray) (fun y => decide (y.time = t)) xs w :=
  ⟨enters_of Tryd.func46 (by kernel_rfl) rfl, fun i hi W hb => ReportText1_any xs[i] t B W ((hb.cell (p := ⟨B, 3, none⟩) hB).trans hc) (Nat.lt_of_lt_of_le hB hb.size)⟩
set_option maxRecDepth 100000 in
set_option maxHeartbeats 8000000 in
theorem ReportText_any (A : Option Addr) (n c : Nat) (xs : List ReportLine) (w : World) (hx : Sees w 0 4 A n (xs.flatMap ReportLine.enc)) (hn : n ≤ 1048576) (hnc : n ≤ c) (hs : ∀ x ∈ xs, x.upto 9223372036854775807) :
    Calls Tryd.prog 18 #[.slice A n c] w fun e w' => e = .returned (.tuple #[.string (reportM xs).1, .bool (reportM xs).2]) ∧ Below w.heap.size w w' := by
  have hl := hx.count (by decide) (fun _ => rfl)
  have hmf : ∀ (fn : Fn) (first cap : Array Value) (w : World), (Instr.makeFunc fn first cap).run Tryd.prog w = .ok (.func fn first cap) w := fun _ _ _ _ => rfl
  cases g : linesB xs
  · have HR := Lib.hid (show reportM xs = (⟨#[]⟩, false) by simp [reportM, g])
    have HG := Lib.hid g
    clear g
    go_enter Tryd.func18, Tryd.ntmps18
    go_wp2_with fail
    refine (AreLines_any _ _ _ _ _ hx hn hnc hs).mono ?_
    rw [HG.out]
    rintro e w1 ⟨rfl, b1⟩
    go_wp2_with fail
    go_ret2
    rw [HR.out]
    exact ⟨rfl, b1⟩
  · have HR := Lib.hid (show reportM xs = (reportL xs (sortL xs), true) by simp [reportM, g])
    have hn12 : n ≤ 12 := by have := (line_facts g).1; omega
    have HT := Lib.hid (show ∀ x ∈ sortL xs, (x.name.size ≤ 10 ∧ x.club.size ≤ 10) ∧ (0 ≤ x.time ∧ x.time ≤ 36000) ∧ (0 ≤ x.status ∧ x.status ≤ 3) from fun x hx => ⟨line_name g x (sortL_mem.1 hx), ((line_facts g).2 x (sortL_mem.1 hx)).2, ((line_facts g).2 x (sortL_mem.1 hx)).1⟩)
    have HFM := Lib.hid (show ∀ x ∈ sortL xs, x.status = 0 → x ∈ finL xs from fun x hx h0 => by rw [finL_eq]; exact List.mem_filter.2 ⟨hx, by simp [h0]⟩)
    have hl12 : xs.length ≤ 12 := (line_facts g).1
    have hZ12 : (sortL xs).length ≤ 12 := by rw [sortL_length]; exact hl12
    have hF12 : (finL xs).length ≤ 12 := Nat.le_trans (fin_len xs) hl12
    have HG := Lib.hid g
    clear g hl
    go_enter Tryd.func18, Tryd.ntmps18
    go_wp2_with fail
    refine (AreLines_any _ _ _ _ _ hx hn hnc hs).mono ?_
    rw [HG.out]
    rintro e w1 ⟨rfl, b1⟩
    go_wp2_with fail
    refine (sortedLines_any A n c xs w1 (hx.next b1) hn12).mono ?_
    rintro e w2 ⟨A3, c3, rfl, o3, b3⟩
    have K2 := bel_then b1 b3
    have o3' := own_base o3 (Nat.zero_le _)
    clear o3 b3 b1
    obtain ⟨Z, hZ⟩ : ∃ Z, sortL xs = Z := ⟨_, rfl⟩
    rw [hZ] at HT hZ12 HR HFM o3' ⊢
    clear hZ
    go_wp2_with fail
    go_loopw [4, 16] (fun tv iv wr => ∃ k : Nat, k ≤ Z.length ∧ iv = .int .i64 (k : Int) ∧ tv = .string (reportL xs (Z.take k)) ∧ Hid ((reportL xs (Z.take k)).size ≤ 61 * k) ∧ wr.ownsRow 0 42 4 (.slice A3 Z.length c3) Z.length (Z.flatMap ReportLine.enc) ∧ Below w.heap.size w wr) (fun _ iv _ => Z.length - (intOf iv).toNat)
    case atStart => exact ⟨0, Nat.zero_le _, rfl, rfl, Lib.hid (Nat.le_refl 0), o3', K2⟩
    case round =>
      obtain ⟨k, hk, rfl, rfl, HSZ, oF, K⟩ := hrel
      clear o3' K2
      by_cases hlt : k < Z.length
      · obtain ⟨b3, off3, rfl, hk3, x0, x1, x2, x3⟩ := (Sees.of_own oF).elem4 (fun _ => rfl) hlt
        have HN := Lib.hid (reportL_next (xs := xs) hlt)
        obtain ⟨x, hxk⟩ : ∃ x, Z[k]'hlt = x := ⟨_, rfl⟩
        obtain ⟨hnm, hxt, hxs⟩ : (x.name.size ≤ 10 ∧ x.club.size ≤ 10) ∧ (0 ≤ x.time ∧ x.time ≤ 36000) ∧ (0 ≤ x.status ∧ x.status ≤ 3) := HT.out x (hxk ▸ List.getElem_mem hlt)
        have HXF := Lib.hid (fun h => HFM.out x (hxk ▸ List.getElem_mem hlt) h)
        rw [show Z[k]'hlt = x from hxk] at HN
        rw [show Z[k]'hk3 = x from hxk] at x0 x1 x2 x3
        have hls := lineT_size (xs := xs) hl12 hnm hxt
        have HLT := Lib.hid hlt
        have hsz := HSZ.out
        obtain ⟨tx, htx⟩ : ∃ tx, reportL xs (Z.take k) = tx := ⟨_, rfl⟩
        rw [htx] at HN hsz ⊢
        have HSZ2 := Lib.hid (show (reportL xs (Z.take (k + 1))).size ≤ 61 * (k + 1) by
          rw [HN.out]
          have e1 : (⟨#[10]⟩ : ByteArray).size = 1 := rfl
          simp only [ByteArray.size_append]
          omega)
        have hn1 := hnm.1
        have hn2 := hnm.2
        have htn : x.time = (x.time.toNat : Int) := by omega
        have HTN := Lib.hid (And.intro htn (show x.time.toNat ≤ 36000 by omega))
        have hcs := clock_size (t := x.time.toNat) (by omega)
        clear hxk htx HSZ hnm hls htn
        obtain ⟨xn, xc, xs0, xt⟩ := x
        simp only at x0 x1 x2 x3 hxt hxs hn1 hn2 hcs HXF HTN
        by_cases h0 : xs0 = 0
        · subst h0
          have V : Below wr.heap.size wr (wr.alloc (.cells #[.string xn, .string xc, .int .i64 0, .int .i64 xt] 42)) := (Below.refl _ _).alloc (Nat.le_refl _) _
          have X0 : Blk (wr.alloc (.cells #[.string xn, .string xc, .int .i64 0, .int .i64 xt] 42)) wr.heap.size 42 [.string xn, .string xc, .int .i64 0, .int .i64 xt] := Blk.at_ rfl
          have K5 := bel_then K V
          have oF5 := own_below oF V
          have cx := X0.cell
          have ix : ∀ w, (Instr.index 60 (.agg #[.string (clockT xt.toNat), .string ⟨#[109, 105, 115, 112, 117, 110, 99, 104, 101, 100]⟩, .string ⟨#[115, 116, 111, 112, 112, 101, 100]⟩, .string ⟨#[100, 105, 100, 32, 110, 111, 116, 32, 115, 116, 97, 114, 116]⟩]) (.int .i64 0)).run Tryd.prog w = .ok (.string (clockT xt.toNat)) w := fun _ => by kernel_rfl
          clear V K oF
          go_wp2_with fail
          go_quiet ((go_at_call 30; exact quiet_rightG (clockText_any xt.toNat _ _ HTN.out.1 HTN.out.2)))
          have q0 := Quiet.mk (wr.alloc (.cells #[.string xn, .string xc, .int .i64 0, .int .i64 xt] 42)) nq
          have X1 := X0.quiet q0
          have K6 := bel_quiet K5 q0
          have oF6 := own_below oF5 (q0.below _)
          clear cx q0 K5 oF5 X0 ix
          generalize (wr.alloc (.cells #[.string xn, .string xc, .int .i64 0, .int .i64 xt] 42)).drewN nq = wv at *
          have cx := X1.cell
          go_wp2_with fail
          refine (finished_any A n c xs wv (hx.next K6) hn12).mono ?_
          rintro e w4 ⟨A4, c4, rfl, o4, b4⟩
          have X4 := X1.next b4
          have K7 := bel_then K6 b4
          have oF7 := own_below oF6 b4
          clear cx X1 K6 oF6
          have cx := X4.cell
          go_wp2_with fail
          refine (IndexFunc_ReportLine 46 #[.pointer (some ⟨wr.heap.size, 0, none⟩)] (fun y => decide (y.time = xt)) A4 _ c4 (finL xs) w4 ((Sees.of_own o4).less (Nat.zero_le _)) (by omega) (ReportText1_answers _ xt _ _ (X4.cell 3) X4.lt)).mono ?_
          rintro e w5 ⟨r, rfl, hr, b5⟩
          have hmem : (⟨xn, xc, 0, xt⟩ : ReportLine) ∈ finL xs := by first | exact HXF.out trivial | exact HXF.out rfl
          have hrk : ∃ m : Nat, r = (m : Int) ∧ m ≤ 12 ∧ rankN xs ⟨xn, xc, 0, xt⟩ = 1 + m := by
            rcases hr with ⟨_, hno⟩ | ⟨m, rfl, hm, hpm, hbm⟩
            · have := List.any_eq_false.1 hno _ hmem
              simp at this
            · exact ⟨m, rfl, by omega, by unfold rankN; rw [rank_eq, rank_first (fin_times xs) hm (of_decide_eq_true hpm) hbm]⟩
          obtain ⟨m, rfl, hm12, hrn⟩ := hrk
          have HRN := Lib.hid hrn
          have X5 := X4.next b5
          have K8 := bel_then K7 b5
          have oF8 := own_below oF7 b5
          clear cx X4 K7 oF7 hr hmem hrn b4 b5 o4
          have cx := X5.cell
          have hn3 := num2 (n := 1 + m) (by omega)
          go_wp2_with fail
          refine (Itoa_z (1 + m) _ _ (by omega) (by omega)).mono ?_
          rintro e w6 ⟨rfl, q6⟩
          have X6 := X5.quiet q6
          have K9 := bel_quiet K8 q6
          have oF9 := own_below oF8 (q6.below _)
          clear cx X5 K8 oF8 q6
          have cx := X6.cell
          have s9 : ¬ 9223372036854775807 < (numT (1 + m)).size + 1 := by omega
          have s0 : ¬ 9223372036854775807 < (numT (1 + m)).size + 1 + 1 := by omega
          have s1 : ¬ 9223372036854775807 < (numT (1 + m)).size + 1 + 1 + xn.size := by omega
          have s2 : ¬ 9223372036854775807 < (numT (1 + m)).size + 1 + 1 + xn.size + 2 := by omega
          have s3 : ¬ 9223372036854775807 < (numT (1 + m)).size + 1 + 1 + xn.size + 2 + xc.size := by omega
          have s4 : ¬ 9223372036854775807 < (numT (1 + m)).size + 1 + 1 + xn.size + 2 + xc.size + 2 := by omega
          have s5 : ¬ 9223372036854775807 < (numT (1 + m)).size + 1 + 1 + xn.size + 2 + xc.size + 2 + (clockT xt.toNat).size := by omega
          have s6 : ¬ 9223372036854775807 < (numT (1 + m)).size + 1 + 1 + xn.size + 2 + xc.size + 2 + (clockT xt.toNat).size + 1 := by omega
          have s7 : ¬ 9223372036854775807 < tx.size + ((numT (1 + m)).size + 1 + 1 + xn.size + 2 + xc.size + 2 + (clockT xt.toNat).size + 1) := by omega
          have HX := Lib.hid (show tx ++ lineT xs ⟨xn, xc, 0, xt⟩ ++ ⟨#[10]⟩ = tx ++ (numT (1 + m) ++ ⟨#[46]⟩ ++ ⟨#[32]⟩ ++ xn ++ ⟨#[32, 40]⟩ ++ xc ++ ⟨#[41, 32]⟩ ++ clockT xt.toNat ++ ⟨#[10]⟩) by
            rw [show lineT xs ⟨xn, xc, 0, xt⟩ = numT (rankN xs ⟨xn, xc, 0, xt⟩) ++ ⟨#[46]⟩ ++ (⟨#[32]⟩ ++ xn ++ ⟨#[32, 40]⟩ ++ xc ++ ⟨#[41, 32]⟩) ++ clockT xt.toNat from rfl, HRN.out]
            simp only [ByteArray.append_assoc])
          go_wp2_with fail
          go_roundw
          case rel => exact ⟨k + 1, by have := HLT.out; omega, by go_num, by rw [HN.out, HX.out], HSZ2, oF9, K9⟩
          case measure => have := HLT.out; simp [intOf]; omega
        by_cases h1 : xs0 = 1
        · subst h1
          have V : Below wr.heap.size wr (wr.alloc (.cells #[.string xn, .string xc, .int .i64 1, .int .i64 xt] 42)) := (Below.refl _ _).alloc (Nat.le_refl _) _
          have X0 : Blk (wr.alloc (.cells #[.string xn, .string xc, .int .i64 1, .int .i64 xt] 42)) wr.heap.size 42 [.string xn, .string xc, .int .i64 1, .int .i64 xt] := Blk.at_ rfl
          have K5 := bel_then K V
          have oF5 := own_below oF V
          have cx := X0.cell
          have ix : ∀ w, (Instr.index 60 (.agg #[.string (clockT xt.toNat), .string ⟨#[109, 105, 115, 112, 117, 110, 99, 104, 101, 100]⟩, .string ⟨#[115, 116, 111, 112, 112, 101, 100]⟩, .string ⟨#[100, 105, 100, 32, 110, 111, 116, 32, 115, 116, 97, 114, 116]⟩]) (.int .i64 1)).run Tryd.prog w = .ok (.string ⟨#[109, 105, 115, 112, 117, 110, 99, 104, 101, 100]⟩) w := fun _ => by kernel_rfl
          clear V K oF
          go_wp2_with fail
          go_quiet ((go_at_call 30; exact quiet_rightG (clockText_any xt.toNat _ _ HTN.out.1 HTN.out.2)))
          have q0 := Quiet.mk (wr.alloc (.cells #[.string xn, .string xc, .int .i64 1, .int .i64 xt] 42)) nq
          have X1 := X0.quiet q0
          have K6 := bel_quiet K5 q0
          have oF6 := own_below oF5 (q0.below _)
          clear cx q0 K5 oF5 X0 ix
          generalize (wr.alloc (.cells #[.string xn, .string xc, .int .i64 1, .int .i64 xt] 42)).drewN nq = wv at *
          have cx := X1.cell
          have s0 : ¬ 9223372036854775807 < 1 + 1 := by omega
          have s1 : ¬ 9223372036854775807 < 1 + 1 + xn.size := by omega
          have s2 : ¬ 9223372036854775807 < 1 + 1 + xn.size + 2 := by omega
          have s3 : ¬ 9223372036854775807 < 1 + 1 + xn.size + 2 + xc.size := by omega
          have s4 : ¬ 9223372036854775807 < 1 + 1 + xn.size + 2 + xc.size + 2 := by omega
          have s5 : ¬ 9223372036854775807 < 1 + 1 + xn.size + 2 + xc.size + 2 + 10 := by omega
          have s6 : ¬ 9223372036854775807 < 1 + 1 + xn.size + 2 + xc.size + 2 + 10 + 1 := by omega
          have s7 : ¬ 9223372036854775807 < tx.size + (1 + 1 + xn.size + 2 + xc.size + 2 + 10 + 1) := by omega
          have HX := Lib.hid (show tx ++ lineT xs ⟨xn, xc, 1, xt⟩ ++ ⟨#[10]⟩ = tx ++ (⟨#[45]⟩ ++ ⟨#[32]⟩ ++ xn ++ ⟨#[32, 40]⟩ ++ xc ++ ⟨#[41, 32]⟩ ++ ⟨#[109, 105, 115, 112, 117, 110, 99, 104, 101, 100]⟩ ++ ⟨#[10]⟩) by
            rw [show lineT xs ⟨xn, xc, 1, xt⟩ = ⟨#[45]⟩ ++ (⟨#[32]⟩ ++ xn ++ ⟨#[32, 40]⟩ ++ xc ++ ⟨#[41, 32]⟩) ++ ⟨#[109, 105, 115, 112, 117, 110, 99, 104, 101, 100]⟩ from rfl]
            simp only [ByteArray.append_assoc])
          go_wp2_with fail
          go_roundw
          case rel => exact ⟨k + 1, by have := HLT.out; omega, by go_num, by rw [HN.out, HX.out], HSZ2, oF6, K6⟩
          case measure => have := HLT.out; simp [intOf]; omega
        by_cases h2 : xs0 = 2
        · subst h2
          have V : Below wr.heap.size wr (wr.alloc (.cells #[.string xn, .string xc, .int .i64 2, .int .i64 xt] 42)) := (Below.refl _ _).alloc (Nat.le_refl _) _
          have X0 : Blk (wr.alloc (.cells #[.string xn, .string xc, .int .i64 2, .int .i64 xt] 42)) wr.heap.size 42 [.string xn, .string xc, .int .i64 2, .int .i64 xt] := Blk.at_ rfl
          have K5 := bel_then K V
          have oF5 := own_below oF V
          have cx := X0.cell
          have ix : ∀ w, (Instr.index 60 (.agg #[.string (clockT xt.toNat), .string ⟨#[109, 105, 115, 112, 117, 110, 99, 104, 101, 100]⟩, .string ⟨#[115, 116, 111, 112, 112, 101, 100]⟩, .string ⟨#[100, 105, 100, 32, 110, 111, 116, 32, 115, 116, 97, 114, 116]⟩]) (.int .i64 2)).run Tryd.prog w = .ok (.string ⟨#[115, 116, 111, 112, 112, 101, 100]⟩) w := fun _ => by kernel_rfl
          clear V K oF
          go_wp2_with fail
          go_quiet ((go_at_call 30; exact quiet_rightG (clockText_any xt.toNat _ _ HTN.out.1 HTN.out.2)))
          have q0 := Quiet.mk (wr.alloc (.cells #[.string xn, .string xc, .int .i64 2, .int .i64 xt] 42)) nq
          have X1 := X0.quiet q0
          have K6 := bel_quiet K5 q0
          have oF6 := own_below oF5 (q0.below _)
          clear cx q0 K5 oF5 X0 ix
          generalize (wr.alloc (.cells #[.string xn, .string xc, .int .i64 2, .int .i64 xt] 42)).drewN nq = wv at *
          have cx := X1.cell
          have s0 : ¬ 9223372036854775807 < 1 + 1 := by omega
          have s1 : ¬ 9223372036854775807 < 1 + 1 + xn.size := by omega
          have s2 : ¬ 9223372036854775807 < 1 + 1 + xn.size + 2 := by omega
          have s3 : ¬ 9223372036854775807 < 1 + 1 + xn.size + 2 + xc.size := by omega
          have s4 : ¬ 9223372036854775807 < 1 + 1 + xn.size + 2 + xc.size + 2 := by omega
          have s5 : ¬ 9223372036854775807 < 1 + 1 + xn.size + 2 + xc.size + 2 + 7 := by omega
          have s6 : ¬ 9223372036854775807 < 1 + 1 + xn.size + 2 + xc.size + 2 + 7 + 1 := by omega
          have s7 : ¬ 9223372036854775807 < tx.size + (1 + 1 + xn.size + 2 + xc.size + 2 + 7 + 1) := by omega
          have HX := Lib.hid (show tx ++ lineT xs ⟨xn, xc, 2, xt⟩ ++ ⟨#[10]⟩ = tx ++ (⟨#[45]⟩ ++ ⟨#[32]⟩ ++ xn ++ ⟨#[32, 40]⟩ ++ xc ++ ⟨#[41, 32]⟩ ++ ⟨#[115, 116, 111, 112, 112, 101, 100]⟩ ++ ⟨#[10]⟩) by
            rw [show lineT xs ⟨xn, xc, 2, xt⟩ = ⟨#[45]⟩ ++ (⟨#[32]⟩ ++ xn ++ ⟨#[32, 40]⟩ ++ xc ++ ⟨#[41, 32]⟩) ++ ⟨#[115, 116, 111, 112, 112, 101, 100]⟩ from rfl]
            simp only [ByteArray.append_assoc])
          go_wp2_with fail
          go_roundw
          case rel => exact ⟨k + 1, by have := HLT.out; omega, by go_num, by rw [HN.out, HX.out], HSZ2, oF6, K6⟩
          case measure => have := HLT.out; simp [intOf]; omega
        have h3 : xs0 = 3 := by omega
        subst h3
        have V : Below wr.heap.size wr (wr.alloc (.cells #[.string xn, .string xc, .int .i64 3, .int .i64 xt] 42)) := (Below.refl _ _).alloc (Nat.le_refl _) _
        have X0 : Blk (wr.alloc (.cells #[.string xn, .string xc, .int .i64 3, .int .i64 xt] 42)) wr.heap.size 42 [.string xn, .string xc, .int .i64 3, .int .i64 xt] := Blk.at_ rfl
        have K5 := bel_then K V
        have oF5 := own_below oF V
        have cx := X0.cell
        have ix : ∀ w, (Instr.index 60 (.agg #[.string (clockT xt.toNat), .string ⟨#[109, 105, 115, 112, 117, 110, 99, 104, 101, 100]⟩, .string ⟨#[115, 116, 111, 112, 112, 101, 100]⟩, .string ⟨#[100, 105, 100, 32, 110, 111, 116, 32, 115, 116, 97, 114, 116]⟩]) (.int .i64 3)).run Tryd.prog w = .ok (.string ⟨#[100, 105, 100, 32, 110, 111, 116, 32, 115, 116, 97, 114, 116]⟩) w := fun _ => by kernel_rfl
        clear V K oF
        go_wp2_with fail
        go_quiet ((go_at_call 30; exact quiet_rightG (clockText_any xt.toNat _ _ HTN.out.1 HTN.out.2)))
        have q0 := Quiet.mk (wr.alloc (.cells #[.string xn, .string xc, .int .i64 3, .int .i64 xt] 42)) nq
        have X1 := X0.quiet q0
        have K6 := bel_quiet K5 q0
        have oF6 := own_below oF5 (q0.below _)
        clear cx q0 K5 oF5 X0 ix
        generalize (wr.alloc (.cells #[.string xn, .string xc, .int .i64 3, .int .i64 xt] 42)).drewN nq = wv at *
        have cx := X1.cell
        have s0 : ¬ 9223372036854775807 < 1 + 1 := by omega
        have s1 : ¬ 9223372036854775807 < 1 + 1 + xn.size := by omega
        have s2 : ¬ 9223372036854775807 < 1 + 1 + xn.size + 2 := by omega
        have s3 : ¬ 9223372036854775807 < 1 + 1 + xn.size + 2 + xc.size := by omega
        have s4 : ¬ 9223372036854775807 < 1 + 1 + xn.size + 2 + xc.size + 2 := by omega
        have s5 : ¬ 9223372036854775807 < 1 + 1 + xn.size + 2 + xc.size + 2 + 13 := by omega
        have s6 : ¬ 9223372036854775807 < 1 + 1 + xn.size + 2 + xc.size + 2 + 13 + 1 := by omega
        have s7 : ¬ 9223372036854775807 < tx.size + (1 + 1 + xn.size + 2 + xc.size + 2 + 13 + 1) := by omega
        have HX := Lib.hid (show tx ++ lineT xs ⟨xn, xc, 3, xt⟩ ++ ⟨#[10]⟩ = tx ++ (⟨#[45]⟩ ++ ⟨#[32]⟩ ++ xn ++ ⟨#[32, 40]⟩ ++ xc ++ ⟨#[41, 32]⟩ ++ ⟨#[100, 105, 100, 32, 110, 111, 116, 32, 115, 116, 97, 114, 116]⟩ ++ ⟨#[10]⟩) by
          rw [show lineT xs ⟨xn, xc, 3, xt⟩ = ⟨#[45]⟩ ++ (⟨#[32]⟩ ++ xn ++ ⟨#[32, 40]⟩ ++ xc ++ ⟨#[41, 32]⟩) ++ ⟨#[100, 105, 100, 32, 110, 111, 116, 32, 115, 116, 97, 114, 116]⟩ from rfl]
          simp only [ByteArray.append_assoc])
        go_wp2_with fail
        go_roundw
        case rel => exact ⟨k + 1, by have := HLT.out; omega, by go_num, by rw [HN.out, HX.out], HSZ2, oF6, K6⟩
        case measure => have := HLT.out; simp [intOf]; omega
      · have HE := Lib.hid (show reportL xs (Z.take k) = reportL xs Z by rw [List.take_of_length_le (by omega)])
        obtain ⟨tx, htx⟩ : ∃ tx, reportL xs (Z.take k) = tx := ⟨_, rfl⟩
        rw [htx] at HE ⊢
        have HR2 := Lib.hid (HR.out.trans (by rw [← HE.out]))
        clear htx
        go_wp2_with fail
        go_ret2
        rw [HR2.out]
        exact ⟨rfl, K⟩


end Go.Proofs.YtbcblmbpjecilaaDoor
