/- RaceSummary, as the program and as the reference have it. -/
import Derived.Test.YtbcblmbpjecilaaDoorRep2
import Derived.Test.YtbcblmbpjecilaaDoorClock
namespace Go.Proofs.YtbcblmbpjecilaaDoor
open Go.RowKit

theorem clock_size {t : Nat} (h : t ≤ 36000) : (clockT t).size ≤ 8 := by
  have h1 := two_size (t / 60 % 60) (by omega)
  have h2 := two_size (t % 60) (by omega)
  have h3 := num2 (n := t / 3600) (by omega)
  have e1 : (⟨#[58]⟩ : ByteArray).size = 1 := rfl
  unfold clockT
  split <;> simp only [ByteArray.size_append] <;> omega
theorem line_name {xs : List ReportLine} (h : linesB xs = true) : ∀ x ∈ xs, x.name.size ≤ 10 ∧ x.club.size ≤ 10 := by
  intro x hx
  obtain ⟨j, hj, rfl⟩ := List.getElem_of_mem hx
  have h2 := ((linesB_at h).2 j hj).1
  unfold lineB wordB at h2
  simp only [Bool.and_eq_true] at h2
  exact ⟨(inB_true h2.1.1.1.2).2 |> fun h => by omega, (inB_true h2.1.1.2.2).2 |> fun h => by omega⟩
def summT (xs : List ReportLine) : ByteArray := match finL xs with
  | [] => ⟨#[110, 111, 98, 111, 100, 121, 32, 102, 105, 110, 105, 115, 104, 101, 100]⟩
  | x :: _ => numT (finL xs).length ++ ⟨#[32, 102, 105, 110, 105, 115, 104, 101, 100, 44, 32]⟩ ++ x.name ++ ⟨#[32, 119, 111, 110, 32, 105, 110, 32]⟩ ++ clockT x.time.toNat
def summM (xs : List ReportLine) : ByteArray × Bool := if linesB xs then (summT xs, true) else (⟨#[]⟩, false)
theorem summT_nil {xs : List ReportLine} (h : (finL xs).length = 0) : summT xs = ⟨#[110, 111, 98, 111, 100, 121, 32, 102, 105, 110, 105, 115, 104, 101, 100]⟩ := by
  unfold summT
  rw [List.eq_nil_of_length_eq_zero h]
theorem summT_cons {xs : List ReportLine} (h : 0 < (finL xs).length) : summT xs = numT (finL xs).length ++ ⟨#[32, 102, 105, 110, 105, 115, 104, 101, 100, 44, 32]⟩ ++ (finL xs)[0].name ++ ⟨#[32, 119, 111, 110, 32, 105, 110, 32]⟩ ++ clockT (finL xs)[0].time.toNat := by
  have e1 : finL xs = (finL xs)[0] :: (finL xs).drop 1 := by
    have := List.drop_eq_getElem_cons h
    simpa using this
  generalize hF : finL xs = F at *
  unfold summT
  rw [hF]
  cases F with
  | nil => simp at h
  | cons x l => rfl
theorem fin_count (xs : List ReportLine) : (finL xs).length = (xs.filter fun x => x.status == 0).length := by
  rw [finL_eq]
  exact ((sortR_perm lessL xs).filter _).length_eq
theorem summM_size (xs : List ReportLine) : (summM xs).1.size ≤ 1000 := by
  unfold summM
  split
  · rename_i h
    rcases Nat.eq_zero_or_pos (finL xs).length with h0 | h0
    · rw [summT_nil h0]; decide
    · rw [summT_cons h0]
      have hm := fin_mem (List.getElem_mem h0)
      have h1 := line_name h _ hm
      have h2 := (line_facts h).2 _ hm
      have h3 := clock_size (t := (finL xs)[0].time.toNat) (by omega)
      have h4 := num2 (n := (finL xs).length) (by have := fin_len xs; have := (line_facts h).1; omega)
      have e1 : (⟨#[32, 102, 105, 110, 105, 115, 104, 101, 100, 44, 32]⟩ : ByteArray).size = 11 := rfl
      have e2 : (⟨#[32, 119, 111, 110, 32, 105, 110, 32]⟩ : ByteArray).size = 8 := rfl
      show (numT (finL xs).length ++ ⟨#[32, 102, 105, 110, 105, 115, 104, 101, 100, 44, 32]⟩ ++ (finL xs)[0].name ++ ⟨#[32, 119, 111, 110, 32, 105, 110, 32]⟩ ++ clockT (finL xs)[0].time.toNat).size ≤ 1000
      simp only [ByteArray.size_append]
      omega
  · show (0 : Nat) ≤ 1000
    omega

set_option maxRecDepth 100000 in
set_option maxHeartbeats 4000000 in
theorem RaceSummary_any (A : Option Addr) (n c : Nat) (xs : List ReportLine) (w : World) (hx : Sees w 0 4 A n (xs.flatMap ReportLine.enc)) (hn : n ≤ 1048576) (hnc : n ≤ c) (hs : ∀ x ∈ xs, x.upto 9223372036854775807) :
    Calls Tryd.prog 15 #[.slice A n c] w fun e w' => e = .returned (.tuple #[.string (summM xs).1, .bool (summM xs).2]) ∧ Below w.heap.size w w' := by
  have hl := hx.count (by decide) (fun _ => rfl)
  cases g : linesB xs
  · have HR := Lib.hid (show summM xs = (⟨#[]⟩, false) by simp [summM, g])
    have HG := Lib.hid g
    clear g
    go_enter Tryd.func15, Tryd.ntmps15
    go_wp2_with fail
    refine (AreLines_any _ _ _ _ _ hx hn hnc hs).mono ?_
    rw [HG.out]
    rintro e w1 ⟨rfl, b1⟩
    go_wp2_with fail
    go_ret2
    rw [HR.out]
    exact ⟨rfl, b1⟩
  · have hR : summM xs = (summT xs, true) := by simp [summM, g]
    have hn12 : n ≤ 12 := by have := (line_facts g).1; omega
    have HT := Lib.hid (show ∀ x ∈ finL xs, (0 ≤ x.time ∧ x.time ≤ 36000) ∧ x.name.size ≤ 10 from fun x hx => ⟨((line_facts g).2 x (fin_mem hx)).2, (line_name g x (fin_mem hx)).1⟩)
    have hF12 : (finL xs).length ≤ 12 := Nat.le_trans (fin_len xs) (line_facts g).1
    have HG := Lib.hid g
    have HS0 := Lib.hid (fun h => summT_nil (xs := xs) h)
    have HS1 := Lib.hid (fun h => summT_cons (xs := xs) h)
    have HR := Lib.hid hR
    clear g hl hR
    go_enter Tryd.func15, Tryd.ntmps15
    go_wp2_with fail
    refine (AreLines_any _ _ _ _ _ hx hn hnc hs).mono ?_
    rw [HG.out]
    rintro e w1 ⟨rfl, b1⟩
    go_wp2_with fail
    refine (finished_any A n c xs w1 (hx.next b1) hn12).mono ?_
    rintro e w2 ⟨A3, c3, rfl, o3, b3⟩
    have K2 := bel_then b1 b3
    obtain ⟨F, hF⟩ : ∃ F, finL xs = F := ⟨_, rfl⟩
    rw [hF] at HT hF12 o3 HS0 HS1 ⊢
    clear hF b1 b3
    rcases Nat.eq_zero_or_pos F.length with h0 | h0
    · have HR2 := Lib.hid (HR.out.trans (by rw [HS0.out h0]))
      have hb : ((F.length : Int) == 0) = true := by rw [h0]; rfl
      clear h0
      go_wp2_with fail
      go_ret2
      rw [HR2.out]
      exact ⟨rfl, K2⟩
    · have HR2 := Lib.hid (HR.out.trans (by rw [HS1.out h0]))
      have hb : ((F.length : Int) == 0) = false := beq_eq_false_iff_ne.2 (by omega)
      obtain ⟨b3, off3, rfl, hk3, x0, x1, x2, x3⟩ := (Sees.of_own o3).elem4 (fun _ => rfl) h0
      simp only [Nat.zero_mul, Nat.add_zero] at x0 x1 x2 x3
      have hx0 := HT.out F[0] (List.getElem_mem h0)
      obtain ⟨x, hxk⟩ : ∃ x, F[0]'h0 = x := ⟨_, rfl⟩
      rw [show F[0]'h0 = x from hxk] at hx0 HR2
      rw [show F[0]'hk3 = x from hxk] at x0 x1 x2 x3
      obtain ⟨⟨t0, t1⟩, hnm⟩ := hx0
      have htn : x.time = (x.time.toNat : Int) := by omega
      have hcs := clock_size (t := x.time.toNat) (by omega)
      have HTN := Lib.hid (And.intro htn (show x.time.toNat ≤ 36000 by omega))
      obtain ⟨m, hm⟩ : ∃ m, F.length = m := ⟨_, rfl⟩
      rw [hm] at h0 hb hF12 HR2 o3 ⊢
      have hi1 : (0 : Int) < (m : Int) := by omega
      have hn2 := num2 (n := m) (by omega)
      have f1 : ¬ 9223372036854775807 < (numT m).size + 11 := by omega
      have f2 : ¬ 9223372036854775807 < (numT m).size + 11 + x.name.size := by omega
      have f3 : ¬ 9223372036854775807 < (numT m).size + 11 + x.name.size + 8 := by omega
      have f4 : ¬ 9223372036854775807 < (numT m).size + 11 + x.name.size + 8 + (clockT x.time.toNat).size := by omega
      clear htn hxk hm
      go_wp2_with fail
      go_quiet ((first | (go_at_call 41; exact quiet_rightG (Itoa_z m _ _ rfl (by omega))) | (go_at_call 30; exact quiet_rightG (clockText_any x.time.toNat _ _ HTN.out.1 HTN.out.2))))
      go_wp2_with fail
      go_ret2
      rw [HR2.out]
      exact ⟨rfl, bel_drewN K2 _⟩

set_option maxRecDepth 100000 in
set_option maxHeartbeats 4000000 in
theorem specRaceSummary_any (A : Option Addr) (n c : Nat) (xs : List ReportLine) (w : World) (hx : Sees w 0 4 A n (xs.flatMap ReportLine.enc)) (hn : n ≤ 1048576) (hs : ∀ x ∈ xs, x.upto 9223372036854775807) :
    Calls Tryd.prog 13 #[.slice A n c] w fun e w' => e = .returned (.tuple #[.string (summM xs).1, .bool (summM xs).2]) ∧ Below w.heap.size w w' := by
  have hl := hx.count (by decide) (fun _ => rfl)
  cases g : linesB xs
  · have HR := Lib.hid (show summM xs = (⟨#[]⟩, false) by simp [summM, g])
    have HG := Lib.hid g
    clear g
    go_enter Tryd.func13, Tryd.ntmps13
    go_wp2_with fail
    refine (l26Good_any _ _ _ _ _ hx hn hs).mono ?_
    rw [HG.out]
    rintro e w1 ⟨rfl, b1⟩
    go_wp2_with fail
    go_ret2
    rw [HR.out]
    exact ⟨rfl, b1⟩
  · have hR : summM xs = (summT xs, true) := by simp [summM, g]
    have hn12 : n ≤ 12 := by have := (line_facts g).1; omega
    have HT := Lib.hid (show ∀ x ∈ sortL xs, (0 ≤ x.time ∧ x.time ≤ 36000) ∧ x.name.size ≤ 10 from fun x hx => ⟨((line_facts g).2 x (sortL_mem.1 hx)).2, (line_name g x (sortL_mem.1 hx)).1⟩)
    have HSP := Lib.hid (fin_split g)
    have hF12 : (finL xs).length ≤ 12 := Nat.le_trans (fin_len xs) (line_facts g).1
    have hFZ : (finL xs).length ≤ (sortL xs).length := by rw [sortL_length]; exact fin_len xs
    have HCN := Lib.hid (fin_count xs)
    have HG := Lib.hid g
    have HS0 := Lib.hid (fun h => summT_nil (xs := xs) h)
    have HS1 := Lib.hid (fun h => summT_cons (xs := xs) h)
    have HR := Lib.hid hR
    have HL := Lib.hid hl
    have HZL := Lib.hid (show (sortL xs).length = n by rw [sortL_length]; exact hl)
    clear g hl hR
    go_enter Tryd.func13, Tryd.ntmps13
    go_wp2_with fail
    refine (l26Good_any _ _ _ _ _ hx hn hs).mono ?_
    rw [HG.out]
    rintro e w1 ⟨rfl, b1⟩
    go_wp2_with fail
    go_loop [4, 5] (fun cv iv => ∃ k : Nat, k ≤ n ∧ iv = .int .i64 (k : Int) ∧ cv = .int .i64 (((xs.take k).filter fun x => x.status == 0).length : Nat)) (fun _ iv => n - (intOf iv).toNat)
    case atStart => exact ⟨0, Nat.zero_le _, rfl, rfl⟩
    case round =>
      obtain ⟨k, hk, rfl, rfl⟩ := hrel
      by_cases hlt : k < n
      · obtain ⟨b3, off3, rfl, hk3, x0, x1, x2, x3⟩ := (hx.next b1).elem4 (fun _ => rfl) hlt
        have HN := Lib.hid (filter_next (p := fun x : ReportLine => x.status == 0) hk3)
        obtain ⟨x, hxk⟩ : ∃ x, xs[k]'hk3 = x := ⟨_, rfl⟩
        rw [show xs[k]'hk3 = x from hxk] at x0 x1 x2 x3 HN
        have hle : ((xs.take k).filter fun x => x.status == 0).length ≤ 12 := Nat.le_trans (List.length_filter_le _ _) (by rw [List.length_take]; omega)
        have HLT := Lib.hid hlt
        clear hxk
        cases hs0 : x.status == 0
        · have HN2 := Lib.hid (show ((xs.take (k + 1)).filter fun x => x.status == 0).length = ((xs.take k).filter fun x => x.status == 0).length by rw [HN.out, if_neg (by simp [hs0])])
          obtain ⟨cn, hcn⟩ : ∃ cn, ((xs.take k).filter fun x => x.status == 0).length = cn := ⟨_, rfl⟩
          rw [hcn] at HN2 hle ⊢
          clear hcn
          go_wp2_with fail
          go_round
          case rel => exact ⟨k + 1, by have := HLT.out; omega, by go_num, by rw [HN2.out]⟩
          case measure => have := HLT.out; simp [intOf]; omega
        · have HN2 := Lib.hid (show ((xs.take (k + 1)).filter fun x => x.status == 0).length = ((xs.take k).filter fun x => x.status == 0).length + 1 by rw [HN.out, if_pos (by simp [hs0])]; simp)
          obtain ⟨cn, hcn⟩ : ∃ cn, ((xs.take k).filter fun x => x.status == 0).length = cn := ⟨_, rfl⟩
          rw [hcn] at HN2 hle ⊢
          clear hcn
          go_wp2_with fail
          go_round
          case rel => exact ⟨k + 1, by have := HLT.out; omega, by go_num, by rw [HN2.out]; go_num⟩
          case measure => have := HLT.out; simp [intOf]; omega
      · have hkn : k = n := by omega
        have hcnt : ((xs.take k).filter fun x => x.status == 0).length = (finL xs).length := by rw [HCN.out, List.take_of_length_le (by rw [HL.out]; omega)]
        rw [hcnt]
        clear hcnt hkn
        rcases Nat.eq_zero_or_pos (finL xs).length with h0 | h0
        · have HR2 := Lib.hid (HR.out.trans (by rw [HS0.out h0]))
          have hb : (((finL xs).length : Int) == 0) = true := by rw [h0]; rfl
          clear h0
          go_wp2_with fail
          go_ret2
          rw [HR2.out]
          exact ⟨rfl, b1⟩
        · have HR2 := Lib.hid (HR.out.trans (by rw [HS1.out h0]))
          have hb : (((finL xs).length : Int) == 0) = false := beq_eq_false_iff_ne.2 (by omega)
          go_wp2_with fail
          refine (l26Sort_any A n c xs w1 (hx.next b1) hn12).mono ?_
          rintro e w2 ⟨A3, c3, rfl, o3, b3⟩
          have K2 := bel_then b1 b3
          have hz0 : 0 < (sortL xs).length := by omega
          have hfz : (finL xs)[0]'h0 = (sortL xs)[0]'hz0 := by
            have e1 := congrArg (fun l => l[0]?) HSP.out.1
            simp only [List.getElem?_take_of_lt h0, List.getElem?_eq_getElem hz0, List.getElem?_eq_getElem h0] at e1
            exact Option.some.inj e1
          rw [hfz] at HR2
          obtain ⟨b4, off3, rfl, hk3, x0, x1, x2, x3⟩ := (Sees.of_own o3).elem4 (fun _ => rfl) hz0
          simp only [Nat.zero_mul, Nat.add_zero] at x0 x1 x2 x3
          have hx0 := HT.out ((sortL xs)[0]'hz0) (List.getElem_mem hz0)
          obtain ⟨x, hxk⟩ : ∃ x, (sortL xs)[0]'hz0 = x := ⟨_, rfl⟩
          rw [show (sortL xs)[0]'hz0 = x from hxk] at hx0 HR2
          rw [show (sortL xs)[0]'hk3 = x from hxk] at x0 x1 x2 x3
          obtain ⟨⟨t0, t1⟩, hnm⟩ := hx0
          have htn : x.time = (x.time.toNat : Int) := by omega
          have hcs := clock_size (t := x.time.toNat) (by omega)
          have HTN := Lib.hid (And.intro htn (show x.time.toNat ≤ 36000 by omega))
          obtain ⟨m, hm⟩ : ∃ m, (finL xs).length = m := ⟨_, rfl⟩
          rw [hm] at h0 hb hF12 hFZ HR2 ⊢
          obtain ⟨zl, hzl⟩ : ∃ zl, (sortL xs).length = zl := ⟨_, rfl⟩
          rw [hzl] at hz0 hFZ o3 ⊢
          have hi1 : (0 : Int) < (zl : Int) := by omega
          have V : Below w2.heap.size w2 (w2.alloc (.cells #[.string x.name, .string x.club, .int .i64 x.status, .int .i64 x.time] 42)) := (Below.refl _ _).alloc (Nat.le_refl _) _
          have X0 : Blk (w2.alloc (.cells #[.string x.name, .string x.club, .int .i64 x.status, .int .i64 x.time] 42)) w2.heap.size 42 [.string x.name, .string x.club, .int .i64 x.status, .int .i64 x.time] := Blk.at_ rfl
          have K5 := bel_then K2 V
          have cx := X0.cell
          have hn2 := num2 (n := m) (by omega)
          have f1 : ¬ 9223372036854775807 < (numT m).size + 11 := by omega
          have f2 : ¬ 9223372036854775807 < (numT m).size + 11 + x.name.size := by omega
          have f3 : ¬ 9223372036854775807 < (numT m).size + 11 + x.name.size + 8 := by omega
          have f4 : ¬ 9223372036854775807 < (numT m).size + 11 + x.name.size + 8 + (clockT x.time.toNat).size := by omega
          clear htn hxk hm hfz hzl V K2 b1 b3
          go_wp2_with fail
          go_quiet ((first | (go_at_call 37; exact quiet_rightG (Num_z m _ _ rfl (by omega))) | (go_at_call 28; exact quiet_rightG (l26Clock_any x.time.toNat _ _ HTN.out.1 HTN.out.2))))
          go_wp2_with fail
          go_ret2
          rw [HR2.out]
          exact ⟨rfl, bel_drewN K5 _⟩

end Go.Proofs.YtbcblmbpjecilaaDoor
