/- GapsBehind and ClubTimes, as the program and as the reference have them. -/
import Derived.Test.YtbcblmbpjecilaaDoorRep
namespace Go.Proofs.YtbcblmbpjecilaaDoor
open Go.RowKit

def lastT (ts : List Int) (k : Nat) : Int := if k = 0 then 0 else ts.getD (k - 1) 0
def gapAt (ts : List Int) (i : Nat) : Int := if i = 0 then 0 else ts.getD i 0 - ts.getD (i - 1) 0
def gapsT (ts : List Int) (k : Nat) : List Int := (List.range k).map (gapAt ts)
def timesL (l : List ReportLine) : List Int := l.map fun x => x.time
def gapsM (xs : List ReportLine) : Option (List Int) := if linesB xs then some (gapsT (timesL (finL xs)) (finL xs).length) else none
theorem gapsT_next (ts : List Int) (k : Nat) : gapsT ts (k + 1) = gapsT ts k ++ [gapAt ts k] := by simp [gapsT, List.range_succ]
theorem gapsT_length (ts : List Int) (k : Nat) : (gapsT ts k).length = k := by simp [gapsT]
theorem timesL_get {l : List ReportLine} {k : Nat} (hk : k < l.length) : (timesL l).getD k 0 = l[k].time := by
  unfold timesL
  rw [List.getD_eq_getElem?_getD, List.getElem?_map, List.getElem?_eq_getElem hk]; rfl
theorem fin_len (xs : List ReportLine) : (finL xs).length ≤ xs.length := by
  unfold finL
  exact Nat.le_trans (List.length_filter_le _ _) (by rw [sortL_length]; exact Nat.le_refl _)
theorem gapsM_len (xs : List ReportLine) : ((gapsM xs).getD []).length ≤ 12 := by
  unfold gapsM
  split
  · rename_i h
    simp only [Option.getD_some, gapsT_length]
    exact Nat.le_trans (fin_len xs) (line_facts h).1
  · simp
theorem fin_mem {xs : List ReportLine} {x : ReportLine} (h : x ∈ finL xs) : x ∈ xs := sortL_mem.1 (List.mem_filter.1 h).1
/-- those who finished stand first -/
theorem fin_split {xs : List ReportLine} (h : linesB xs = true) : finL xs = (sortL xs).take (finL xs).length ∧ ∀ (hm : (finL xs).length < (sortL xs).length), ¬ ((sortL xs)[(finL xs).length]).status = 0 := by
  have h1 := filter_zero (f := fun x : ReportLine => x.status) (sortL_status xs) (fun x hx => ((line_facts h).2 x (sortL_mem.1 hx)).1.1) (finL xs).length (by rw [finL_eq])
  rw [← finL_eq] at h1
  exact h1
def clubStep (club : ByteArray) (p : Int × Int) (x : ReportLine) : Int × Int := if x.club = club ∧ 0 < p.1 then (p.1 - 1, p.2 + x.time) else p
def clubRun (club : ByteArray) (l : List ReportLine) (best : Int) : Int × Int := l.foldl (clubStep club) (best, 0)
def clubStep2 (club : ByteArray) (p : Int × Int) (x : ReportLine) : Int × Int := if x.status = 0 then clubStep club p x else p
def clubRun2 (club : ByteArray) (l : List ReportLine) (best : Int) : Int × Int := l.foldl (clubStep2 club) (best, 0)
theorem club_filter (club : ByteArray) : ∀ (l : List ReportLine) (p : Int × Int), (l.filter fun x => x.status == 0).foldl (clubStep club) p = l.foldl (clubStep2 club) p
  | [], _ => rfl
  | x :: l, p => by
    rw [List.foldl_cons]
    by_cases h : x.status = 0
    · rw [List.filter_cons, if_pos (by simp [h]), List.foldl_cons, show clubStep2 club p x = clubStep club p x by unfold clubStep2; rw [if_pos h]]
      exact club_filter club l _
    · rw [List.filter_cons, if_neg (by simp [h]), show clubStep2 club p x = p by unfold clubStep2; rw [if_neg h]]
      exact club_filter club l _
theorem clubRun_fin (club : ByteArray) (xs : List ReportLine) (best : Int) : clubRun club (finL xs) best = clubRun2 club (sortL xs) best := by
  rw [finL_eq]; exact club_filter club _ _
theorem clubStep_bd {club : ByteArray} {p : Int × Int} {x : ReportLine} (hx : 0 ≤ x.time ∧ x.time ≤ 36000) (hp : 0 ≤ p.1) : 0 ≤ (clubStep club p x).1 ∧ (clubStep club p x).1 ≤ p.1 ∧ p.2 ≤ (clubStep club p x).2 ∧ (clubStep club p x).2 ≤ p.2 + 36000 := by
  unfold clubStep
  split
  · exact ⟨by show 0 ≤ p.1 - 1; omega, by show p.1 - 1 ≤ p.1; omega, by show p.2 ≤ p.2 + x.time; omega, by show p.2 + x.time ≤ p.2 + 36000; omega⟩
  · exact ⟨hp, Int.le_refl _, Int.le_refl _, by omega⟩
theorem clubRun2_next {club : ByteArray} {l : List ReportLine} {best : Int} {k : Nat} (hk : k < l.length) : clubRun2 club (l.take (k + 1)) best = clubStep2 club (clubRun2 club (l.take k) best) l[k] := by
  unfold clubRun2
  rw [List.take_succ_eq_append_getElem hk, List.foldl_append]; rfl
theorem clubRun_next {club : ByteArray} {l : List ReportLine} {best : Int} {k : Nat} (hk : k < l.length) : clubRun club (l.take (k + 1)) best = clubStep club (clubRun club (l.take k) best) l[k] := by
  unfold clubRun
  rw [List.take_succ_eq_append_getElem hk, List.foldl_append]; rfl
theorem club2_stop (club : ByteArray) : ∀ (l : List ReportLine) (p : Int × Int), p.1 ≤ 0 → l.foldl (clubStep2 club) p = p
  | [], _, _ => rfl
  | x :: l, p, h => by
    have e1 : clubStep2 club p x = p := by
      unfold clubStep2 clubStep
      split
      · rw [if_neg (by omega)]
      · rfl
    rw [List.foldl_cons, e1]
    exact club2_stop club l p h
theorem clubRun2_stop {club : ByteArray} {l : List ReportLine} {best : Int} {k : Nat} (h : (clubRun2 club (l.take k) best).1 ≤ 0) : clubRun2 club l best = clubRun2 club (l.take k) best := by
  have e1 : clubRun2 club l best = (l.drop k).foldl (clubStep2 club) (clubRun2 club (l.take k) best) := by
    unfold clubRun2
    rw [← List.foldl_append, List.take_append_drop]
  rw [e1, club2_stop club _ _ h]
def clubM (xs : List ReportLine) (club : ByteArray) (best : Int) : Option Int := if linesB xs && inB best 1 12 then (if 0 < (clubRun2 club (sortL xs) best).1 then none else some (clubRun2 club (sortL xs) best).2) else none
/-- A number, and a word on whether there is one. -/
def GivesNum (w : World) (R : Option Int) (e : Ending) (w' : World) : Prop := e = .returned (.tuple #[.int .i64 (R.getD 0), .bool R.isSome]) ∧ Below w.heap.size w w'

set_option maxRecDepth 100000 in
set_option maxHeartbeats 4000000 in
theorem ClubTimes_any (A : Option Addr) (n c : Nat) (xs : List ReportLine) (club : ByteArray) (best : Int) (w : World) (hx : Sees w 0 4 A n (xs.flatMap ReportLine.enc)) (hn : n ≤ 1048576) (hnc : n ≤ c) (hs : ∀ x ∈ xs, x.upto 9223372036854775807) :
    Calls Tryd.prog 22 #[.slice A n c, .string club, .int .i64 best] w (GivesNum w (clubM xs club best)) := by
  have hl := hx.count (by decide) (fun _ => rfl)
  cases g : linesB xs
  · have HR := Lib.hid (show clubM xs club best = none by simp [clubM, g])
    have HG := Lib.hid g
    clear g
    go_enter Tryd.func22, Tryd.ntmps22
    go_wp2_with fail
    refine (AreLines_any _ _ _ _ _ hx hn hnc hs).mono ?_
    rw [HG.out]
    rintro e w1 ⟨rfl, b1⟩
    go_wp2_with fail
    go_ret2
    rw [HR.out]
    exact ⟨rfl, b1⟩
  cases g2 : inB best 1 12
  · have HR := Lib.hid (show clubM xs club best = none by simp [clubM, g2])
    have HG := Lib.hid g
    have HB := Lib.hid g2
    clear g g2
    go_enter Tryd.func22, Tryd.ntmps22
    go_wp2_with fail
    refine (AreLines_any _ _ _ _ _ hx hn hnc hs).mono ?_
    rw [HG.out]
    rintro e w1 ⟨rfl, b1⟩
    go_wp2_with fail
    refine (inside_any _ _ _ _).mono ?_
    rintro e w' ⟨rfl, rfl⟩
    rw [HB.out]
    go_wp2_with fail
    go_ret2
    rw [HR.out]
    exact ⟨rfl, b1⟩
  · have HR := Lib.hid (show clubM xs club best = if 0 < (clubRun2 club (sortL xs) best).1 then none else some (clubRun2 club (sortL xs) best).2 by simp [clubM, g, g2])
    have hn12 : n ≤ 12 := by have := (line_facts g).1; omega
    have hbest := inB_true g2
    have hb1 := hbest.1
    have hb2 := hbest.2
    have HT := Lib.hid (show ∀ x ∈ finL xs, 0 ≤ x.time ∧ x.time ≤ 36000 from fun x hx => ((line_facts g).2 x (fin_mem hx)).2)
    have hZ12 : (finL xs).length ≤ 12 := Nat.le_trans (fin_len xs) (line_facts g).1
    have HRUN := Lib.hid (show clubRun2 club (sortL xs) best = clubRun club (finL xs) best from (clubRun_fin club xs best).symm)
    have HG := Lib.hid g
    have HB := Lib.hid g2
    clear g g2 hl hbest
    go_enter Tryd.func22, Tryd.ntmps22
    go_wp2_with fail
    refine (AreLines_any _ _ _ _ _ hx hn hnc hs).mono ?_
    rw [HG.out]
    rintro e w1 ⟨rfl, b1⟩
    go_wp2_with fail
    refine (inside_any _ _ _ _).mono ?_
    rintro e w' ⟨rfl, rfl⟩
    rw [HB.out]
    go_wp2_with fail
    refine (finished_any A n c xs w1 (hx.next b1) hn12).mono ?_
    rintro e w2 ⟨A3, c3, rfl, o3, b3⟩
    have K2 := bel_then b1 b3
    have o3' := own_base o3 (Nat.zero_le _)
    clear o3 b3 b1
    obtain ⟨Z, hZ⟩ : ∃ Z, finL xs = Z := ⟨_, rfl⟩
    rw [hZ] at HT hZ12 HRUN o3' ⊢
    clear hZ
    go_wp2_with fail
    go_loopw [2, 8, 22] (fun b s i wr => ∃ k : Nat, k ≤ Z.length ∧ i = .int .i64 (k : Int) ∧ b = .int .i64 (clubRun club (Z.take k) best).1 ∧ s = .int .i64 (clubRun club (Z.take k) best).2 ∧ Hid (0 ≤ (clubRun club (Z.take k) best).1 ∧ (clubRun club (Z.take k) best).1 ≤ best ∧ 0 ≤ (clubRun club (Z.take k) best).2 ∧ (clubRun club (Z.take k) best).2 ≤ 36000 * (k : Int)) ∧ wr.ownsRow 0 42 4 (.slice A3 Z.length c3) Z.length (Z.flatMap ReportLine.enc) ∧ Below w.heap.size w wr) (fun _ _ i _ => Z.length - (intOf i).toNat)
    case atStart => exact ⟨0, Nat.zero_le _, rfl, rfl, rfl, Lib.hid (show 0 ≤ best ∧ best ≤ best ∧ (0 : Int) ≤ 0 ∧ (0 : Int) ≤ 36000 * ((0 : Nat) : Int) by omega), o3', K2⟩
    case round =>
      obtain ⟨k, hk, rfl, rfl, rfl, HP, oF, K⟩ := hrel
      clear o3' K2
      obtain ⟨hp1, hp2, hp3, hp4⟩ := HP.out
      by_cases hlt : k < Z.length
      · obtain ⟨b3, off3, rfl, hk3, x0, x1, x2, x3⟩ := (Sees.of_own oF).elem4 (fun _ => rfl) hlt
        obtain ⟨x, hxk⟩ : ∃ x, Z[k]'hlt = x := ⟨_, rfl⟩
        have hxt : 0 ≤ x.time ∧ x.time ≤ 36000 := HT.out x (hxk ▸ List.getElem_mem hlt)
        have HN := clubRun_next (club := club) (best := best) hlt
        rw [show Z[k]'hlt = x from hxk] at HN
        rw [show Z[k]'hk3 = x from hxk] at x0 x1 x2 x3
        have hbd := clubStep_bd (club := club) (p := clubRun club (Z.take k) best) (x := x) hxt hp1
        have HLT := Lib.hid hlt
        have hk12 : (k : Int) ≤ 12 := by omega
        obtain ⟨p, hp⟩ : ∃ p, clubRun club (Z.take k) best = p := ⟨_, rfl⟩
        rw [hp] at hp1 hp2 hp3 hp4 hbd HN ⊢
        clear hxk hp HP
        obtain ⟨pb, ps⟩ := p
        simp only at hp1 hp2 hp3 hp4
        have hps : ps ≤ 36000 * 12 := by omega
        have V : Below wr.heap.size wr (wr.alloc (.cells #[.string x.name, .string x.club, .int .i64 x.status, .int .i64 x.time] 42)) := (Below.refl _ _).alloc (Nat.le_refl _) _
        have X0 : Blk (wr.alloc (.cells #[.string x.name, .string x.club, .int .i64 x.status, .int .i64 x.time] 42)) wr.heap.size 42 [.string x.name, .string x.club, .int .i64 x.status, .int .i64 x.time] := Blk.at_ rfl
        have cx := X0.cell
        have oF5 := own_below oF V
        have K5 := bel_then K V
        clear V oF K
        by_cases hc : x.club = club
        · have hcb : (x.club.toList == club.toList) = true := by rw [str_beq, decide_eq_true hc]
          by_cases hb : 0 < pb
          · have HS := Lib.hid (show clubRun club (Z.take (k + 1)) best = (pb - 1, ps + x.time) from HN.trans (by unfold clubStep; rw [if_pos ⟨hc, hb⟩]))
            have HBD := Lib.hid (show 0 ≤ pb - 1 ∧ pb - 1 ≤ best ∧ 0 ≤ ps + x.time ∧ ps + x.time ≤ 36000 * ((k + 1 : Nat) : Int) by omega)
            clear HN hbd
            try clear hc
            try clear hs0
            go_wp2_with fail
            go_roundw
            case rel => exact ⟨k + 1, by have := HLT.out; omega, by go_num, by rw [HS.out], by rw [HS.out], Lib.hid (by rw [HS.out]; exact HBD.out), oF5, K5⟩
            case measure => have := HLT.out; simp [intOf]; omega
          · have HS := Lib.hid (show clubRun club (Z.take (k + 1)) best = (pb, ps) from HN.trans (by unfold clubStep; rw [if_neg (fun h => hb h.2)]))
            have HBD := Lib.hid (show 0 ≤ pb ∧ pb ≤ best ∧ 0 ≤ ps ∧ ps ≤ 36000 * ((k + 1 : Nat) : Int) by omega)
            clear HN hbd
            try clear hc
            try clear hs0
            go_wp2_with fail
            go_roundw
            case rel => exact ⟨k + 1, by have := HLT.out; omega, by go_num, by rw [HS.out], by rw [HS.out], Lib.hid (by rw [HS.out]; exact HBD.out), oF5, K5⟩
            case measure => have := HLT.out; simp [intOf]; omega
        · have hcb : (x.club.toList == club.toList) = false := by rw [str_beq, decide_eq_false hc]
          have HS := Lib.hid (show clubRun club (Z.take (k + 1)) best = (pb, ps) from HN.trans (by unfold clubStep; rw [if_neg (fun h => hc h.1)]))
          have HBD := Lib.hid (show 0 ≤ pb ∧ pb ≤ best ∧ 0 ≤ ps ∧ ps ≤ 36000 * ((k + 1 : Nat) : Int) by omega)
          clear HN hbd
          try clear hc
          try clear hs0
          go_wp2_with fail
          go_roundw
          case rel => exact ⟨k + 1, by have := HLT.out; omega, by go_num, by rw [HS.out], by rw [HS.out], Lib.hid (by rw [HS.out]; exact HBD.out), oF5, K5⟩
          case measure => have := HLT.out; simp [intOf]; omega
      · obtain rfl : k = Z.length := by omega
        have HE := Lib.hid (show clubRun club (Z.take Z.length) best = clubRun club Z best by rw [List.take_length])
        obtain ⟨p, hp⟩ : ∃ p, clubRun club (Z.take Z.length) best = p := ⟨_, rfl⟩
        rw [hp] at hp1 hp2 hp3 hp4 HE ⊢
        clear hp HP
        obtain ⟨pb, ps⟩ := p
        simp only at hp1 hp2 hp3 hp4
        clear hp4
        by_cases hb : 0 < pb
        · have HR2 := Lib.hid (show clubM xs club best = none by rw [HR.out, HRUN.out, ← HE.out, if_pos hb])
          go_wp2_with fail
          go_ret2
          rw [HR2.out]
          exact ⟨rfl, K⟩
        · have HR2 := Lib.hid (show clubM xs club best = some ps by rw [HR.out, HRUN.out, ← HE.out, if_neg hb])
          go_wp2_with fail
          go_ret2
          rw [HR2.out]
          exact ⟨rfl, K⟩

set_option maxRecDepth 100000 in
set_option maxHeartbeats 4000000 in
theorem specClubTimes_any (A : Option Addr) (n c : Nat) (xs : List ReportLine) (club : ByteArray) (best : Int) (w : World) (hx : Sees w 0 4 A n (xs.flatMap ReportLine.enc)) (hn : n ≤ 1048576) (hs : ∀ x ∈ xs, x.upto 9223372036854775807) :
    Calls Tryd.prog 23 #[.slice A n c, .string club, .int .i64 best] w (GivesNum w (clubM xs club best)) := by
  have hl := hx.count (by decide) (fun _ => rfl)
  cases g : linesB xs
  · have HR := Lib.hid (show clubM xs club best = none by simp [clubM, g])
    have HG := Lib.hid g
    clear g
    go_enter Tryd.func23, Tryd.ntmps23
    go_wp2_with fail
    refine (l26Good_any _ _ _ _ _ hx hn hs).mono ?_
    rw [HG.out]
    rintro e w1 ⟨rfl, b1⟩
    go_wp2_with fail
    go_ret2
    rw [HR.out]
    exact ⟨rfl, b1⟩
  cases g2 : inB best 1 12
  · have HR := Lib.hid (show clubM xs club best = none by simp [clubM, g2])
    have HG := Lib.hid g
    have HB := Lib.hid g2
    clear g g2
    go_enter Tryd.func23, Tryd.ntmps23
    go_wp2_with fail
    refine (l26Good_any _ _ _ _ _ hx hn hs).mono ?_
    rw [HG.out]
    rintro e w1 ⟨rfl, b1⟩
    go_wp2_with fail
    refine (l1In_any _ _ _ _).mono ?_
    rintro e w' ⟨rfl, rfl⟩
    rw [HB.out]
    go_wp2_with fail
    go_ret2
    rw [HR.out]
    exact ⟨rfl, b1⟩
  · have HR := Lib.hid (show clubM xs club best = if 0 < (clubRun2 club (sortL xs) best).1 then none else some (clubRun2 club (sortL xs) best).2 by simp [clubM, g, g2])
    have hn12 : n ≤ 12 := by have := (line_facts g).1; omega
    have hbest := inB_true g2
    have hb1 := hbest.1
    have hb2 := hbest.2
    have HT := Lib.hid (show ∀ x ∈ sortL xs, 0 ≤ x.time ∧ x.time ≤ 36000 from fun x hx => ((line_facts g).2 x (sortL_mem.1 hx)).2)
    have hZ12 : (sortL xs).length ≤ 12 := Nat.le_trans (by rw [sortL_length]; exact Nat.le_refl _) (line_facts g).1
    have HG := Lib.hid g
    have HB := Lib.hid g2
    clear g g2 hl hbest
    go_enter Tryd.func23, Tryd.ntmps23
    go_wp2_with fail
    refine (l26Good_any _ _ _ _ _ hx hn hs).mono ?_
    rw [HG.out]
    rintro e w1 ⟨rfl, b1⟩
    go_wp2_with fail
    refine (l1In_any _ _ _ _).mono ?_
    rintro e w' ⟨rfl, rfl⟩
    rw [HB.out]
    go_wp2_with fail
    refine (l26Sort_any A n c xs w1 (hx.next b1) hn12).mono ?_
    rintro e w2 ⟨A3, c3, rfl, o3, b3⟩
    have K2 := bel_then b1 b3
    have o3' := own_base o3 (Nat.zero_le _)
    clear o3 b3 b1
    obtain ⟨Z, hZ⟩ : ∃ Z, sortL xs = Z := ⟨_, rfl⟩
    rw [hZ] at HT hZ12 HR o3' ⊢
    clear hZ
    go_wp2_with fail
    go_loopw [8, 9, 11] (fun s b i wr => ∃ k : Nat, k ≤ Z.length ∧ i = .int .i64 (k : Int) ∧ b = .int .i64 (best - (clubRun2 club (Z.take k) best).1) ∧ s = .int .i64 (clubRun2 club (Z.take k) best).2 ∧ Hid (0 ≤ (clubRun2 club (Z.take k) best).1 ∧ (clubRun2 club (Z.take k) best).1 ≤ best ∧ 0 ≤ (clubRun2 club (Z.take k) best).2 ∧ (clubRun2 club (Z.take k) best).2 ≤ 36000 * (k : Int)) ∧ wr.ownsRow 0 42 4 (.slice A3 Z.length c3) Z.length (Z.flatMap ReportLine.enc) ∧ Below w.heap.size w wr) (fun _ _ i _ => Z.length - (intOf i).toNat)
    case atStart => exact ⟨0, Nat.zero_le _, rfl, by show Value.int .i64 0 = .int .i64 (best - best); rw [Int.sub_self], rfl, Lib.hid (show 0 ≤ best ∧ best ≤ best ∧ (0 : Int) ≤ 0 ∧ (0 : Int) ≤ 36000 * ((0 : Nat) : Int) by omega), o3', K2⟩
    case round =>
      obtain ⟨k, hk, rfl, rfl, rfl, HP, oF, K⟩ := hrel
      clear o3' K2
      obtain ⟨hp1, hp2, hp3, hp4⟩ := HP.out
      by_cases hlt : k < Z.length
      · obtain ⟨b3, off3, rfl, hk3, x0, x1, x2, x3⟩ := (Sees.of_own oF).elem4 (fun _ => rfl) hlt
        obtain ⟨x, hxk⟩ : ∃ x, Z[k]'hlt = x := ⟨_, rfl⟩
        have hxt : 0 ≤ x.time ∧ x.time ≤ 36000 := HT.out x (hxk ▸ List.getElem_mem hlt)
        have HN := clubRun2_next (club := club) (best := best) hlt
        rw [show Z[k]'hlt = x from hxk] at HN
        rw [show Z[k]'hk3 = x from hxk] at x0 x1 x2 x3
        have hbd := clubStep_bd (club := club) (p := clubRun2 club (Z.take k) best) (x := x) hxt hp1
        have HLT := Lib.hid hlt
        have hk12 : (k : Int) ≤ 12 := by omega
        obtain ⟨p, hp⟩ : ∃ p, clubRun2 club (Z.take k) best = p := ⟨_, rfl⟩
        rw [hp] at hp1 hp2 hp3 hp4 hbd HN ⊢
        have HP2 := Lib.hid hp
        clear hxk hp HP
        obtain ⟨pb, ps⟩ := p
        simp only at hp1 hp2 hp3 hp4
        have hps : ps ≤ 36000 * 12 := by omega
        by_cases hb : 0 < pb
        · by_cases hs0 : x.status = 0
          · have hsb : (x.status == 0) = true := by simp [hs0]
            by_cases hc : x.club = club
            · have hcb : (x.club.toList == club.toList) = true := by rw [str_beq, decide_eq_true hc]
              have HS := Lib.hid (show clubRun2 club (Z.take (k + 1)) best = ((pb - 1), (ps + x.time)) from HN.trans (by unfold clubStep2 clubStep; rw [if_pos hs0, if_pos ⟨hc, hb⟩]))
              have HBD := Lib.hid (show 0 ≤ (pb - 1) ∧ (pb - 1) ≤ best ∧ 0 ≤ (ps + x.time) ∧ (ps + x.time) ≤ 36000 * ((k + 1 : Nat) : Int) by omega)
              clear HN hbd
              try clear hc
              try clear hs0
              go_wp2_with fail
              go_roundw
              case rel => exact ⟨k + 1, by have := HLT.out; omega, by go_num, by rw [HS.out]; congr 1; omega, by rw [HS.out], Lib.hid (by rw [HS.out]; exact HBD.out), oF, K⟩
              case measure => have := HLT.out; simp [intOf]; omega
            · have hcb : (x.club.toList == club.toList) = false := by rw [str_beq, decide_eq_false hc]
              have HS := Lib.hid (show clubRun2 club (Z.take (k + 1)) best = (pb, ps) from HN.trans (by unfold clubStep2 clubStep; rw [if_pos hs0, if_neg (fun h => hc h.1)]))
              have HBD := Lib.hid (show 0 ≤ pb ∧ pb ≤ best ∧ 0 ≤ ps ∧ ps ≤ 36000 * ((k + 1 : Nat) : Int) by omega)
              clear HN hbd
              try clear hc
              try clear hs0
              go_wp2_with fail
              go_roundw
              case rel => exact ⟨k + 1, by have := HLT.out; omega, by go_num, by rw [HS.out], by rw [HS.out], Lib.hid (by rw [HS.out]; exact HBD.out), oF, K⟩
              case measure => have := HLT.out; simp [intOf]; omega
          · have hsb : (x.status == 0) = false := by simp [hs0]
            have HS := Lib.hid (show clubRun2 club (Z.take (k + 1)) best = (pb, ps) from HN.trans (by unfold clubStep2; rw [if_neg hs0]))
            have HBD := Lib.hid (show 0 ≤ pb ∧ pb ≤ best ∧ 0 ≤ ps ∧ ps ≤ 36000 * ((k + 1 : Nat) : Int) by omega)
            clear HN hbd
            try clear hc
            try clear hs0
            go_wp2_with fail
            go_roundw
            case rel => exact ⟨k + 1, by have := HLT.out; omega, by go_num, by rw [HS.out], by rw [HS.out], Lib.hid (by rw [HS.out]; exact HBD.out), oF, K⟩
            case measure => have := HLT.out; simp [intOf]; omega
        · have HST := Lib.hid (show clubRun2 club Z best = (pb, ps) from (clubRun2_stop (k := k) (by rw [HP2.out]; show pb ≤ 0; omega)).trans HP2.out)
          have HR2 := Lib.hid (show clubM xs club best = some ps by rw [HR.out, HST.out, if_neg hb])
          clear HN hbd
          go_wp2_with fail
          go_ret2
          rw [HR2.out]
          exact ⟨rfl, K⟩
      · obtain rfl : k = Z.length := by omega
        have HE := Lib.hid (show clubRun2 club (Z.take Z.length) best = clubRun2 club Z best by rw [List.take_length])
        obtain ⟨p, hp⟩ : ∃ p, clubRun2 club (Z.take Z.length) best = p := ⟨_, rfl⟩
        rw [hp] at hp1 hp2 hp3 hp4 HE ⊢
        clear hp HP
        obtain ⟨pb, ps⟩ := p
        simp only at hp1 hp2 hp3 hp4
        clear hp4
        by_cases hb : 0 < pb
        · have HR2 := Lib.hid (show clubM xs club best = none by rw [HR.out, ← HE.out, if_pos hb])
          go_wp2_with fail
          go_ret2
          rw [HR2.out]
          exact ⟨rfl, K⟩
        · have HR2 := Lib.hid (show clubM xs club best = some ps by rw [HR.out, ← HE.out, if_neg hb])
          go_wp2_with fail
          go_ret2
          rw [HR2.out]
          exact ⟨rfl, K⟩

end Go.Proofs.YtbcblmbpjecilaaDoor
