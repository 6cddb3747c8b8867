/- GapsBehind and ClubTimes, as the program and as the reference have them. -/
import Derived.Test.YtbcblmbpjecilaaGreatDoorRep
namespace Go.Proofs.YtbcblmbpjecilaaGreatDoor
open Go.RowKit

def lastT (ts : List Int) (k : Nat) : Int := if k = 0 then 0 else ts.getD (k - 1) 0
def gapAt (ts : List Int) (i : Nat) : Int := if i = 0 then 0 else ts.getD i 0 - ts.getD (i - 1) 0
def gapsT (ts : List Int) (k : Nat) : List Int := (List.range k).map (gapAt ts)
def timesL (l : List ReportLine) : List Int := l.map fun x => x.time
def gapsM (xs : List ReportLine) : Option (List Int) := if linesB xs then some (gapsT (timesL (finL xs)) (finL xs).length) else none
theorem gapsT_next (ts : List Int) (k : Nat) : gapsT ts (k + 1) = gapsT ts k ++ [gapAt ts k] := by simp [gapsT, List.range_succ]
theorem gapsT_length (ts : List Int) (k : Nat) : (gapsT ts k).length = k := by simp [gapsT]
theorem timesL_get {l : List ReportLine} {k : Nat} (hk : k < l.length) : (timesL l).getD k 0 = l[k].time := by
  unfold timesL
  rw [List.getD_eq_getElem?_getD, List.getElem?_map, List.getElem?_eq_getElem hk]; rfl
theorem fin_len (xs : List ReportLine) : (finL xs).length ≤ xs.length := by
  unfold finL
  exact Nat.le_trans (List.length_filter_le _ _) (by rw [sortL_length]; exact Nat.le_refl _)
theorem gapsM_len (xs : List ReportLine) : ((gapsM xs).getD []).length ≤ 12 := by
  unfold gapsM
  split
  · rename_i h
    simp only [Option.getD_some, gapsT_length]
    exact Nat.le_trans (fin_len xs) (line_facts h).1
  · simp
theorem fin_mem {xs : List ReportLine} {x : ReportLine} (h : x ∈ finL xs) : x ∈ xs := sortL_mem.1 (List.mem_filter.1 h).1
/-- those who finished stand first -/
theorem fin_split {xs : List ReportLine} (h : linesB xs = true) : finL xs = (sortL xs).take (finL xs).length ∧ ∀ (hm : (finL xs).length < (sortL xs).length), ¬ ((sortL xs)[(finL xs).length]).status = 0 := by
  have h1 := filter_zero (f := fun x : ReportLine => x.status) (sortL_status xs) (fun x hx => ((line_facts h).2 x (sortL_mem.1 hx)).1.1) (finL xs).length (by rw [finL_eq])
  rw [← finL_eq] at h1
  exact h1
def clubStep (club : ByteArray) (p : Int × Int) (x : ReportLine) : Int × Int := if x.club = club ∧ 0 < p.1 then (p.1 - 1, p.2 + x.time) else p
def clubRun (club : ByteArray) (l : List ReportLine) (best : Int) : Int × Int := l.foldl (clubStep club) (best, 0)
def clubStep2 (club : ByteArray) (p : Int × Int) (x : ReportLine) : Int × Int := if x.status = 0 then clubStep club p x else p
def clubRun2 (club : ByteArray) (l : List ReportLine) (best : Int) : Int × Int := l.foldl (clubStep2 club) (best, 0)
theorem club_filter (club : ByteArray) : ∀ (l : List ReportLine) (p : Int × Int), (l.filter fun x => x.status == 0).foldl (clubStep club) p = l.foldl (clubStep2 club) p
  | [], _ => rfl
  | x :: l, p => by
    rw [List.foldl_cons]
    by_cases h : x.status = 0
    · rw [List.filter_cons, if_pos (by simp [h]), List.foldl_cons, show clubStep2 club p x = clubStep club p x by unfold clubStep2; rw [if_pos h]]
      exact club_filter club l _
    · rw [List.filter_cons, if_neg (by simp [h]), show clubStep2 club p x = p by unfold clubStep2; rw [if_neg h]]
      exact club_filter club l _
theorem clubRun_fin (club : ByteArray) (xs : List ReportLine) (best : Int) : clubRun club (finL xs) best = clubRun2 club (sortL xs) best := by
  rw [finL_eq]; exact club_filter club _ _
theorem clubStep_bd {club : ByteArray} {p : Int × Int} {x : ReportLine} (hx : 0 ≤ x.time ∧ x.time ≤ 36000) (hp : 0 ≤ p.1) : 0 ≤ (clubStep club p x).1 ∧ (clubStep club p x).1 ≤ p.1 ∧ p.2 ≤ (clubStep club p x).2 ∧ (clubStep club p x).2 ≤ p.2 + 36000 := by
  unfold clubStep
  split
  · exact ⟨by show 0 ≤ p.1 - 1; omega, by show p.1 - 1 ≤ p.1; omega, by show p.2 ≤ p.2 + x.time; omega, by show p.2 + x.time ≤ p.2 + 36000; omega⟩
  · exact ⟨hp, Int.le_refl _, Int.le_refl _, by omega⟩
theorem clubRun2_next {club : ByteArray} {l : List ReportLine} {best : Int} {k : Nat} (hk : k < l.length) : clubRun2 club (l.take (k + 1)) best = clubStep2 club (clubRun2 club (l.take k) best) l[k] := by
  unfold clubRun2
  rw [List.take_succ_eq_append_getElem hk, List.foldl_append]; rfl
theorem clubRun_next {club : ByteArray} {l : List ReportLine} {best : Int} {k : Nat} (hk : k < l.length) : clubRun club (l.take (k + 1)) best = clubStep club (clubRun club (l.take k) best) l[k] := by
  unfold clubRun
  rw [List.take_succ_eq_append_getElem hk, List.foldl_append]; rfl
theorem club2_stop (club : ByteArray) : ∀ (l : List ReportLine) (p : Int × Int), p.1 ≤ 0 → l.foldl (clubStep2 club) p = p
  | [], _, _ => rfl
  | x :: l, p, h => by
    have e1 : clubStep2 club p x = p := by
      unfold clubStep2 clubStep
      split
      · rw [if_neg (by omega)]
      · rfl
    rw [List.foldl_cons, e1]
    exact club2_stop club l p h
theorem clubRun2_stop {club : ByteArray} {l : List ReportLine} {best : Int} {k : Nat} (h : (clubRun2 club (l.take k) best).1 ≤ 0) : clubRun2 club l best = clubRun2 club (l.take k) best := by
  have e1 : clubRun2 club l best = (l.drop k).foldl (clubStep2 club) (clubRun2 club (l.take k) best) := by
    unfold clubRun2
    rw [← List.foldl_append, List.take_append_drop]
  rw [e1, club2_stop club _ _ h]
def clubM (xs : List ReportLine) (club : ByteArray) (best : Int) : Option Int := if linesB xs && inB best 1 12 then (if 0 < (clubRun2 club (sortL xs) best).1 then none else some (clubRun2 club (sortL xs) best).2) else none
/-- A number, and a word on whether there is one. -/
def GivesNum (w : World) (R : Option Int) (e : Ending) (w' : World) : Prop := e = .returned (.tuple #[.int .i64 (R.getD 0), .bool R.isSome]) ∧ Below w.heap.size w w'

set_option maxRecDepth 100000 in
set_option maxHeartbeats 4000000 in
theorem GapsBehind_any (A : Option Addr) (n c : Nat) (xs : List ReportLine) (w : World) (hx : Sees w 0 4 A n (xs.flatMap ReportLine.enc)) (hn : n ≤ 1048576) (hnc : n ≤ c) (hs : ∀ x ∈ xs, x.upto 9223372036854775807) :
    Calls Tryz.prog 16 #[.slice A n c] w (GivesInts w (gapsM xs)) := by
  have hl := hx.count (by decide) (fun _ => rfl)
  cases g : linesB xs
  · have HR := Lib.hid (show gapsM xs = none by simp [gapsM, g])
    have HG := Lib.hid g
    clear g
    go_enter Tryz.func16, Tryz.ntmps16
    go_wp2_with fail
    refine (AreLines_any _ _ _ _ _ hx hn hnc hs).mono ?_
    rw [HG.out]
    rintro e w1 ⟨rfl, b1⟩
    go_wp2_with fail
    go_ret2
    rw [HR.out]
    exact gives_nil b1
  · have HR := Lib.hid (show gapsM xs = some (gapsT (timesL (finL xs)) (finL xs).length) by simp [gapsM, g])
    have hn12 : n ≤ 12 := by have := (line_facts g).1; omega
    have HT := Lib.hid (show ∀ x ∈ finL xs, 0 ≤ x.time ∧ x.time ≤ 36000 from fun x hx => ((line_facts g).2 x (fin_mem hx)).2)
    have hF12 : (finL xs).length ≤ 12 := Nat.le_trans (fin_len xs) (line_facts g).1
    have HG := Lib.hid g
    clear g hl
    go_enter Tryz.func16, Tryz.ntmps16
    go_wp2_with fail
    refine (AreLines_any _ _ _ _ _ hx hn hnc hs).mono ?_
    rw [HG.out]
    rintro e w1 ⟨rfl, b1⟩
    have K1 : Below w.heap.size w (w1.alloc (.cells #[] 3)) := b1.alloc b1.size _
    have O1 := own_empty w1 3 1
    have hx1 := hx.next b1
    have q1 : Below w1.heap.size w1 (w1.alloc (.cells #[] 3)) := (Below.refl _ _).alloc (Nat.le_refl _) _
    have z1 : w1.heap.size < (w1.alloc (.cells #[] 3)).heap.size := by simp
    have bz := b1.size
    go_wp2_with fail
    refine (finished_any A n c xs _ (hx1.next q1) hn12).mono ?_
    rintro e w2 ⟨A3, c3, rfl, o3, b3⟩
    have K2 := bel_then K1 b3
    have O2 := own_below O1 b3
    have hfar : ∀ b, OwnB A3 b → ¬ OwnB (some ⟨w1.heap.size, 0, none⟩) b := fun b h1 h2 => by
      have h3 := (own_top o3 h1).1
      have h4 : w1.heap.size = b := by simpa [OwnB, Value.ownBlock] using h2
      omega
    have HFAR := Lib.hid hfar
    have o3' := own_base o3 (Nat.zero_le _)
    have z2 : w1.heap.size ≤ w2.heap.size := by have := b3.size; omega
    clear hfar o3 b3 K1 O1 hx1 q1 z1 b1
    obtain ⟨F, hF⟩ : ∃ F, finL xs = F := ⟨_, rfl⟩
    rw [hF] at HR HT hF12 o3' ⊢
    obtain ⟨bo, hbo⟩ : ∃ bo, w1.heap.size = bo := ⟨_, rfl⟩
    rw [hbo] at O2 HFAR z2 bz ⊢
    clear hF hbo
    go_wp2_with fail
    go_loopw [4, 5, 16] (fun v b i wr => ∃ (k : Nat) (A' : Option Addr) (c' : Nat), k ≤ F.length ∧ i = .int .i64 (k : Int) ∧ v = .slice A' k c' ∧ b = .int .i64 (lastT (timesL F) k) ∧ wr.ownsRow bo 3 1 (.slice A' k c') k (ints (gapsT (timesL F) k)) ∧ wr.ownsRow 0 41 4 (.slice A3 F.length c3) F.length (F.flatMap ReportLine.enc) ∧ Hid (∀ b, OwnB A3 b → ¬ OwnB A' b) ∧ bo ≤ wr.heap.size ∧ Below w.heap.size w wr) (fun _ _ i _ => F.length - (intOf i).toNat)
    case atStart => exact ⟨0, _, _, Nat.zero_le _, rfl, rfl, rfl, O2, o3', HFAR, z2, K2⟩
    case round =>
      obtain ⟨k, A', c', hk, rfl, rfl, rfl, hown, oF, HFR, z, K⟩ := hrel
      clear O2 o3' HFAR z2 K2
      by_cases hlt : k < F.length
      · obtain ⟨b3, off3, rfl, hk3, x0, x1, x2, x3⟩ := (Sees.of_own oF).elem4 (fun _ => rfl) hlt
        have HN := Lib.hid (gapsT_next (timesL F) k)
        have HG2 := Lib.hid (timesL_get hlt)
        have HLT := Lib.hid hlt
        obtain ⟨x, hxk⟩ : ∃ x, F[k] = x := ⟨_, rfl⟩
        have hxt : 0 ≤ x.time ∧ x.time ≤ 36000 := HT.out x (hxk ▸ List.getElem_mem hlt)
        rw [show F[k]'hlt = x from hxk] at HG2
        rw [show F[k] = x from hxk] at x0 x1 x2 x3
        have V : Below wr.heap.size wr (wr.alloc (.cells #[.string x.name, .string x.club, .int .i64 x.status, .int .i64 x.time] 41)) := (Below.refl _ _).alloc (Nat.le_refl _) _
        have X0 : Blk (wr.alloc (.cells #[.string x.name, .string x.club, .int .i64 x.status, .int .i64 x.time] 41)) wr.heap.size 41 [.string x.name, .string x.club, .int .i64 x.status, .int .i64 x.time] := Blk.at_ rfl
        have O5 := own_below hown V
        have oF5 := own_below oF V
        have K5 := bel_then K V
        have hb3 := World.block_lt_of_cell? wr _ x0
        have z5 : bo ≤ (wr.alloc (.cells #[.string x.name, .string x.club, .int .i64 x.status, .int .i64 x.time] 41)).heap.size := by simp; omega
        have hXA : ∀ b, OwnB A' b → b ≠ wr.heap.size := fun b hb => by have := (own_top hown hb).2; omega
        have HXA := Lib.hid hXA
        have cx := X0.cell
        have hk12 : k ≤ 12 := by omega
        rcases Nat.eq_zero_or_pos k with hk0 | hk0
        · have HA := Lib.hid (show gapAt (timesL F) k = 0 by unfold gapAt; rw [if_pos hk0])
          have HLS := Lib.hid (show lastT (timesL F) (k + 1) = x.time from HG2.out)
          have hnot : ¬ 0 < k := by omega
          clear hXA V hown oF K hxk hk0
          go_wp2_with (at_builtin; go_loud (refine wpList_pushNew rfl _ _ _ rfl Tryz.underlying36 info_int rfl (by decide) rfl O5 rfl (by simp) (by rfl) (by rfl) (by omega) (by decide) (by omega) ?_); intro A6 c6 w6 o6 h6 b6 q6; have X6 := (X0.only h6 (fun h => HXA.out _ h rfl)).cell; clear cx)
          go_roundw
          case rel => exact ⟨k + 1, A6, c6, by have := HLT.out; omega, by go_num, rfl, by rw [HLS.out], by rw [HN.out, HA.out, ints_append]; exact o6, own_only oF5 h6 (fun b h1 h2 => HFR.out b h1 h2), Lib.hid (fun b h1 h2 => by
            rcases q6 b h2 with h5 | h5
            · exact HFR.out b h1 h5
            · have := (own_top oF5 h1).2; omega), by have := b6.size; omega, K5.trans (b6.mono (by omega))⟩
          case measure => have := HLT.out; simp [intOf]; omega
        · have hprev : lastT (timesL F) k = F[k - 1].time := by
            unfold lastT
            rw [if_neg (by omega), timesL_get (by omega)]
          have hpt := HT.out (F[k - 1]'(by omega)) (List.getElem_mem _)
          have HA := Lib.hid (show gapAt (timesL F) k = x.time - lastT (timesL F) k by
            unfold gapAt
            rw [if_neg (by omega), HG2.out]
            unfold lastT
            rw [if_neg (by omega)])
          have HLS := Lib.hid (show lastT (timesL F) (k + 1) = x.time from HG2.out)
          rw [← hprev] at hpt
          obtain ⟨bt, hbt⟩ : ∃ bt, lastT (timesL F) k = bt := ⟨_, rfl⟩
          rw [hbt] at HA hpt ⊢
          have hgt : decide ((0 : Int) < (k : Int)) = true := decide_eq_true (by omega)
          clear hXA V hown oF K hxk hprev hbt
          go_wp2_with (at_builtin; go_loud (refine wpList_pushNew rfl _ _ _ rfl Tryz.underlying36 info_int rfl (by decide) rfl O5 rfl (by simp) (by rfl) (by rfl) (by omega) (by decide) (by omega) ?_); intro A6 c6 w6 o6 h6 b6 q6; have X6 := (X0.only h6 (fun h => HXA.out _ h rfl)).cell; clear cx)
          go_roundw
          case rel => exact ⟨k + 1, A6, c6, by have := HLT.out; omega, by go_num, rfl, by rw [HLS.out], by rw [HN.out, HA.out, ints_append]; exact o6, own_only oF5 h6 (fun b h1 h2 => HFR.out b h1 h2), Lib.hid (fun b h1 h2 => by
            rcases q6 b h2 with h5 | h5
            · exact HFR.out b h1 h5
            · have := (own_top oF5 h1).2; omega), by have := b6.size; omega, K5.trans (b6.mono (by omega))⟩
          case measure => have := HLT.out; simp [intOf]; omega
      · obtain rfl : k = F.length := by omega
        go_wp2_with fail
        go_ret2
        rw [HR.out]
        exact ⟨A', c', by simp [gapsT_length], by simpa [gapsT_length] using own_base hown bz, K⟩

set_option maxRecDepth 100000 in
set_option maxHeartbeats 4000000 in
theorem specGapsBehind_any (A : Option Addr) (n c : Nat) (xs : List ReportLine) (w : World) (hx : Sees w 0 4 A n (xs.flatMap ReportLine.enc)) (hn : n ≤ 1048576) (hs : ∀ x ∈ xs, x.upto 9223372036854775807) :
    Calls Tryz.prog 17 #[.slice A n c] w (GivesInts w (gapsM xs)) := by
  have hl := hx.count (by decide) (fun _ => rfl)
  have K0 : Below w.heap.size w (w.alloc (.cells #[] 3)) := (Below.refl _ _).alloc (Nat.le_refl _) _
  have O0 := own_empty w 3 1
  have z0 : w.heap.size < (w.alloc (.cells #[] 3)).heap.size := by simp
  cases g : linesB xs
  · have HR := Lib.hid (show gapsM xs = none by simp [gapsM, g])
    have HG := Lib.hid g
    clear g
    go_enter Tryz.func17, Tryz.ntmps17
    go_wp2_with fail
    refine (l26Good_any _ _ _ _ _ (hx.next K0) hn hs).mono ?_
    rw [HG.out]
    rintro e w1 ⟨rfl, b1⟩
    go_wp2_with fail
    go_ret2
    rw [HR.out]
    exact ⟨_, _, rfl, own_below O0 b1, bel_then K0 b1⟩
  · have HR := Lib.hid (show gapsM xs = some (gapsT (timesL (finL xs)) (finL xs).length) by simp [gapsM, g])
    have hn12 : n ≤ 12 := by have := (line_facts g).1; omega
    have HT := Lib.hid (show ∀ x ∈ sortL xs, 0 ≤ x.time ∧ x.time ≤ 36000 from fun x hx => ((line_facts g).2 x (sortL_mem.1 hx)).2)
    have HSP := Lib.hid (fin_split g)
    have hZ12 : (sortL xs).length ≤ 12 := by rw [sortL_length]; exact (line_facts g).1
    have hmZ : (finL xs).length ≤ (sortL xs).length := by rw [sortL_length]; exact fin_len xs
    have HFS := Lib.hid (show ∀ x ∈ finL xs, x.status = 0 from fun x hx => by
      rw [finL_eq] at hx
      simpa using (List.mem_filter.1 hx).2)
    have HG := Lib.hid g
    clear g hl
    go_enter Tryz.func17, Tryz.ntmps17
    go_wp2_with fail
    refine (l26Good_any _ _ _ _ _ (hx.next K0) hn hs).mono ?_
    rw [HG.out]
    rintro e w1 ⟨rfl, b1⟩
    have hx1 := (hx.next K0).next b1
    have K1 := bel_then K0 b1
    have O1 := own_below O0 b1
    have z1 := b1.size
    clear b1 K0 O0
    go_wp2_with fail
    refine (l26Sort_any A n c xs _ hx1 hn12).mono ?_
    rintro e w2 ⟨A3, c3, rfl, o3, b3⟩
    have K2 := bel_then K1 b3
    have O2 := own_below O1 b3
    have HFAR := Lib.hid (show ∀ b, OwnB A3 b → ¬ OwnB (some ⟨w.heap.size, 0, none⟩) b from fun b h1 h2 => by
      have h3 := (own_top o3 h1).1
      have h4 : w.heap.size = b := by simpa [OwnB, Value.ownBlock] using h2
      omega)
    have o3' := own_base o3 (Nat.zero_le _)
    clear o3 b3 K1 O1 hx1 z1 z0
    obtain ⟨Z, hZ⟩ : ∃ Z, sortL xs = Z := ⟨_, rfl⟩
    obtain ⟨F, hF⟩ : ∃ F, finL xs = F := ⟨_, rfl⟩
    rw [hZ] at HT hZ12 hmZ HSP o3' ⊢
    rw [hF] at HR hmZ HSP HFS
    clear hZ hF
    obtain ⟨m, hm⟩ : ∃ m, F.length = m := ⟨_, rfl⟩
    rw [hm] at hmZ HSP HR
    have HM := Lib.hid hm
    clear hm
    go_wp2_with fail
    go_loopw [4, 6] (fun v i wr => ∃ (k : Nat) (A' : Option Addr) (c' : Nat), k ≤ m ∧ i = .int .i64 (k : Int) ∧ v = .slice A' k c' ∧ wr.ownsRow (w.heap.size) 3 1 (.slice A' k c') k (ints (gapsT (timesL F) k)) ∧ wr.ownsRow 0 41 4 (.slice A3 Z.length c3) Z.length (Z.flatMap ReportLine.enc) ∧ Hid (∀ b, OwnB A3 b → ¬ OwnB A' b) ∧ Below w.heap.size w wr) (fun _ i _ => m - (intOf i).toNat)
    case atStart => exact ⟨0, _, _, Nat.zero_le _, rfl, rfl, O2, o3', HFAR, K2⟩
    case round =>
      obtain ⟨k, A', c', hk, rfl, rfl, hown, oF, HFR, K⟩ := hrel
      clear O2 o3' HFAR K2
      by_cases hlt : k < m
      · have hkZ : k < Z.length := by omega
        have hkF : k < F.length := by rw [HM.out]; exact hlt
        have hFk : F[k] = Z[k] := by
          have e1 := congrArg (fun l => l[k]?) HSP.out.1
          simp only [List.getElem?_take_of_lt hlt, List.getElem?_eq_getElem hkZ, List.getElem?_eq_getElem hkF] at e1
          exact Option.some.inj e1
        have hst : Z[k].status = 0 := hFk ▸ HFS.out _ (List.getElem_mem hkF)
        obtain ⟨b3, off3, rfl, hk3, x0, x1, x2, x3⟩ := (Sees.of_own oF).elem4 (fun _ => rfl) hkZ
        have HN := Lib.hid (gapsT_next (timesL F) k)
        have HG2 := Lib.hid (show (timesL F).getD k 0 = Z[k].time by rw [timesL_get hkF, hFk])
        have HLT := Lib.hid hlt
        obtain ⟨x, hxk⟩ : ∃ x, Z[k]'hkZ = x := ⟨_, rfl⟩
        have hxt : 0 ≤ x.time ∧ x.time ≤ 36000 := HT.out x (hxk ▸ List.getElem_mem hkZ)
        rw [show Z[k]'hkZ = x from hxk] at HG2 hst
        rw [show Z[k]'hk3 = x from hxk] at x0 x1 x2 x3
        rw [hst] at x2
        have hb3 := World.block_lt_of_cell? wr _ x0
        have hk12 : k ≤ 12 := by omega
        rcases Nat.eq_zero_or_pos k with hk0 | hk0
        · have HA := Lib.hid (show gapAt (timesL F) k = 0 by unfold gapAt; rw [if_pos hk0])
          have hb0 : ((k : Int) == 0) = true := by rw [hk0]; rfl
          have z6 := K.size
          clear hk0 hst hxk hFk
          go_wp2_with (at_builtin; go_loud (refine wpList_pushNew rfl _ _ _ rfl Tryz.underlying36 info_int rfl (by decide) rfl hown rfl (by simp) (by rfl) (by rfl) (by omega) (by decide) (by omega) ?_); intro A6 c6 w6 o6 h6 b6 q6)
          go_roundw
          case rel => exact ⟨k + 1, A6, c6, by have := HLT.out; omega, by go_num, rfl, by rw [HN.out, HA.out, ints_append]; exact o6, own_only oF h6 (fun b h1 h2 => HFR.out b h1 h2), Lib.hid (fun b h1 h2 => by
            rcases q6 b h2 with h5 | h5
            · exact HFR.out b h1 h5
            · have := (own_top oF h1).2; omega), K.trans b6⟩
          case measure => have := HLT.out; simp [intOf]; omega
        · obtain ⟨q, hkq⟩ : ∃ q, k = q + 1 := ⟨k - 1, by omega⟩
          have hqF : q < F.length := by omega
          have hqZ : q < Z.length := by omega
          have hFq : F[q] = Z[q] := by
            have e1 := congrArg (fun l => l[q]?) HSP.out.1
            simp only [List.getElem?_take_of_lt (show q < m by omega), List.getElem?_eq_getElem hqZ, List.getElem?_eq_getElem hqF] at e1
            exact Option.some.inj e1
          obtain ⟨b', off', ey, hky, y0, y1, y2, y3⟩ := (Sees.of_own oF).elem4 (fun _ => rfl) hqZ
          injection ey with ey
          injection ey with e1 e2
          subst e1 e2
          obtain ⟨y, hyk⟩ : ∃ y, Z[q]'hqZ = y := ⟨_, rfl⟩
          have hyt : 0 ≤ y.time ∧ y.time ≤ 36000 := HT.out y (hyk ▸ List.getElem_mem hqZ)
          rw [show Z[q]'hky = y from hyk] at y0 y1 y2 y3
          have HA := Lib.hid (show gapAt (timesL F) k = x.time - y.time by
            unfold gapAt
            rw [if_neg (by omega), HG2.out, hkq, Nat.add_sub_cancel, timesL_get hqF, hFq, hyk])
          have hb0 : ((k : Int) == 0) = false := beq_eq_false_iff_ne.2 (by omega)
          have V : Below wr.heap.size wr (wr.alloc (.cells #[.int .i64 (x.time - y.time)] 3)).drew := bel_quiet ((Below.refl _ _).alloc (Nat.le_refl _) _) (Quiet.one _)
          have O6 := own_below hown V
          have oF6 := own_below oF V
          have K6 := bel_then K V
          have B6 : Blk (wr.alloc (.cells #[.int .i64 (x.time - y.time)] 3)).drew wr.heap.size 3 [.int .i64 (x.time - y.time)] := (Blk.at_ rfl).quiet (Quiet.one _)
          have x6 := (V.cell (p := ⟨b3, off3 + k * 4 + 3, none⟩) hb3).trans x3
          have y6 := (V.cell (p := ⟨b3, off3 + q * 4 + 3, none⟩) hb3).trans y3
          have HNE := Lib.hid (HFR.out b3 rfl)
          have HB6 := Lib.hid (Nat.lt_of_lt_of_le hb3 V.size)
          have HSZ := Lib.hid K6.size
          have hw1 : IntKind.i64.wrap ((k : Int) - 1) = (q : Int) := by rw [IntWalk.i64_in _ (by omega)]; omega
          have hw2 : IntKind.i64.wrap (x.time - y.time) = x.time - y.time := IntWalk.i64_in _ (by omega)
          have hi0 : (0 : Int) ≤ (k : Int) := by omega
          have hi1 : (k : Int) < (Z.length : Int) := by omega
          have hi2 : (0 : Int) ≤ (q : Int) := by omega
          have hi3 : (q : Int) < (Z.length : Int) := by omega
          clear hk0 hst hxk hFk hkq hyk hFq V
          go_wp2_with fail
          refine wp_region_held_drew (S := fun w' => w'.cell? ⟨b3, off3 + k * 4 + 3, none⟩ = some (.int .i64 x.time) ∧ w'.cell? ⟨b3, off3 + q * 4 + 3, none⟩ = some (.int .i64 y.time)) (by kernel_rfl) (by (try dsimp only); first | go_keep | exact ⟨(cell_only h6 HNE.out HB6.out).trans x6, (cell_only h6 HNE.out HB6.out).trans y6⟩) (fun hHeld => ?_)
          refine wpAnyH_take (i := 0) (v := ?_) rfl (by kernel_rfl) (by kernel_rfl) (by kernel_rfl) (fun _ _ _ h => h) (Or.inl ⟨by rfl, ?_⟩) (by assumption) ?_
          rotate_left 1
          · (intro w hSw; (try dsimp only at hSw); go_simp; try with_reducible rfl)
          simp only [Act.put, List.setIfInBounds_toArray, List.set_cons_zero, List.set_cons_succ, List.getElem_toArray, List.getElem_cons_zero]
          refine wpAnyH_take (i := 1) (v := ?_) rfl (by kernel_rfl) (by kernel_rfl) (by kernel_rfl) (fun _ _ _ h => h) (Or.inl ⟨by rfl, ?_⟩) (by assumption) ?_
          rotate_left 1
          · (intro w hSw; (try dsimp only at hSw); go_simp; try with_reducible rfl)
          simp only [Act.put, List.setIfInBounds_toArray, List.set_cons_zero, List.set_cons_succ, List.getElem_toArray, List.getElem_cons_zero, List.getElem_cons_succ]
          refine wpAnyH_take (i := 2) (v := ?_) rfl (by kernel_rfl) (by kernel_rfl) (by kernel_rfl) (fun _ _ _ h => h) (Or.inl ⟨by rfl, ?_⟩) (by assumption) ?_
          rotate_left 1
          · (intro w hSw; (try dsimp only at hSw); go_simp; try with_reducible rfl)
          simp only [Act.put, List.setIfInBounds_toArray, List.set_cons_zero, List.set_cons_succ, List.getElem_toArray, List.getElem_cons_zero, List.getElem_cons_succ]
          refine wpAnyH_take (i := 3) (v := ?_) rfl (by kernel_rfl) (by kernel_rfl) (by kernel_rfl) (fun _ _ _ h => h) (Or.inl ⟨by rfl, ?_⟩) (by assumption) ?_
          rotate_left 1
          · (intro w hSw; (try dsimp only at hSw); go_simp; try with_reducible rfl)
          simp only [Act.put, List.setIfInBounds_toArray, List.set_cons_zero, List.set_cons_succ, List.getElem_toArray, List.getElem_cons_zero, List.getElem_cons_succ]
          refine wpAnyH_take (i := 4) (v := ?_) rfl (by kernel_rfl) (by kernel_rfl) (by kernel_rfl) (fun _ _ _ h => h) (Or.inl ⟨by rfl, ?_⟩) (by assumption) ?_
          rotate_left 1
          · (intro w hSw; (try dsimp only at hSw); go_simp; try with_reducible rfl)
          simp only [Act.put, List.setIfInBounds_toArray, List.set_cons_zero, List.set_cons_succ, List.getElem_toArray, List.getElem_cons_zero, List.getElem_cons_succ]
          refine wpAnyH_take (i := 5) (v := ?_) rfl (by kernel_rfl) (by kernel_rfl) (by kernel_rfl) (fun _ _ _ h => h) (Or.inl ⟨by rfl, ?_⟩) (by assumption) ?_
          rotate_left 1
          · (intro w hSw; (try dsimp only at hSw); go_simp; try with_reducible rfl)
          simp only [Act.put, List.setIfInBounds_toArray, List.set_cons_zero, List.set_cons_succ, List.getElem_toArray, List.getElem_cons_zero, List.getElem_cons_succ]
          refine wpAnyH_take (i := 6) (v := ?_) rfl (by kernel_rfl) (by kernel_rfl) (by kernel_rfl) (fun _ _ _ h => h) (Or.inl ⟨by rfl, ?_⟩) (by assumption) ?_
          rotate_left 1
          · (intro w hSw; (try dsimp only at hSw); go_simp; try with_reducible rfl)
          simp only [Act.put, List.setIfInBounds_toArray, List.set_cons_zero, List.set_cons_succ, List.getElem_toArray, List.getElem_cons_zero, List.getElem_cons_succ]
          refine wpAnyH_take (i := 7) (v := ?_) rfl (by kernel_rfl) (by kernel_rfl) (by kernel_rfl) (fun _ _ _ h => h) (Or.inl ⟨by rfl, ?_⟩) (by assumption) ?_
          rotate_left 1
          · (intro w hSw; (try dsimp only at hSw); go_simp; try with_reducible rfl)
          simp only [Act.put, List.setIfInBounds_toArray, List.set_cons_zero, List.set_cons_succ, List.getElem_toArray, List.getElem_cons_zero, List.getElem_cons_succ]
          refine wpAnyH_take (i := 8) (v := ?_) rfl (by kernel_rfl) (by kernel_rfl) (by kernel_rfl) (fun _ _ _ h => h) (Or.inl ⟨by rfl, ?_⟩) (by assumption) ?_
          rotate_left 1
          · (intro w hSw; (try dsimp only at hSw); go_simp; try with_reducible rfl)
          simp only [Act.put, List.setIfInBounds_toArray, List.set_cons_zero, List.set_cons_succ, List.getElem_toArray, List.getElem_cons_zero, List.getElem_cons_succ]
          refine wpAnyH_take (i := 9) (v := ?_) rfl (by kernel_rfl) (by kernel_rfl) (by kernel_rfl) (fun _ _ _ h => h) (Or.inl ⟨by rfl, ?_⟩) (by assumption) ?_
          rotate_left 1
          · (intro w hSw; (try dsimp only at hSw); go_simp; try with_reducible rfl)
          simp only [Act.put, List.setIfInBounds_toArray, List.set_cons_zero, List.set_cons_succ, List.getElem_toArray, List.getElem_cons_zero, List.getElem_cons_succ]
          refine wpAnyH_take (i := 10) (v := ?_) rfl (by kernel_rfl) (by kernel_rfl) (by kernel_rfl) (fun _ _ _ h => h) (Or.inl ⟨by rfl, ?_⟩) (by assumption) ?_
          rotate_left 1
          · (intro w hSw; (try dsimp only at hSw); go_simp; try with_reducible rfl)
          simp only [Act.put, List.setIfInBounds_toArray, List.set_cons_zero, List.set_cons_succ, List.getElem_toArray, List.getElem_cons_zero, List.getElem_cons_succ]
          refine wpAnyH_take (i := 11) (v := ?_) rfl (by kernel_rfl) (by kernel_rfl) (by kernel_rfl) (fun _ _ _ h => h) (Or.inl ⟨by rfl, ?_⟩) (by assumption) ?_
          rotate_left 1
          · (intro w hSw; (try dsimp only at hSw); go_simp; try with_reducible rfl)
          simp only [Act.put, List.setIfInBounds_toArray, List.set_cons_zero, List.set_cons_succ, List.getElem_toArray, List.getElem_cons_zero, List.getElem_cons_succ]
          refine wpAnyH_take (i := 12) (v := ?_) rfl (by kernel_rfl) (by kernel_rfl) (by kernel_rfl) (fun _ _ _ h => h) (Or.inl ⟨by rfl, ?_⟩) (by assumption) ?_
          rotate_left 1
          · (intro w hSw; (try dsimp only at hSw); go_simp; try with_reducible rfl)
          simp only [Act.put, List.setIfInBounds_toArray, List.set_cons_zero, List.set_cons_succ, List.getElem_toArray, List.getElem_cons_zero, List.getElem_cons_succ]
          refine wpAnyH_ready (rs := [13]) (by kernel_rfl) (by simp) ?_
          refine AllReadyH.cons rfl (fun K hK => ?_) AllReadyH.nil
          go_simp
          refine hK.out _ _ (by (try dsimp only); first | go_keep | exact ⟨(cell_only h6 HNE.out HB6.out).trans x6, (cell_only h6 HNE.out HB6.out).trans y6⟩) (fun hHeld => ?_)
          clear hK K
          try simp only [Act.put, List.setIfInBounds_toArray, List.set_cons_zero, List.set_cons_succ, List.getElem_toArray, List.getElem_cons_zero, List.getElem_cons_succ]
          refine wpAnyH_ready (rs := [14]) (by kernel_rfl) (by simp) ?_
          refine AllReadyH.cons rfl (fun K hK => ?_) AllReadyH.nil
          refine step_cat rfl _ _ _ (by rfl) Tryz.underlying36 info_int rfl (by decide) (by rfl) O6 (by rfl) (m := 1) (B6.sees (s := 1) (Nat.zero_le _) rfl) (by simp [Value.oneCell']) (by omega) (by omega) (by decide) (by have := HSZ.out; omega) ?_
          intro A6 c6 w6 o6 h6 b6 q6
          refine hK.out _ _ (by (try dsimp only); first | go_keep | exact ⟨(cell_only h6 HNE.out HB6.out).trans x6, (cell_only h6 HNE.out HB6.out).trans y6⟩) (fun hHeld => ?_)
          clear hK K
          try simp only [Act.put, List.setIfInBounds_toArray, List.set_cons_zero, List.set_cons_succ, List.getElem_toArray, List.getElem_cons_zero, List.getElem_cons_succ]
          refine wpAnyH_take (i := 15) (v := ?_) rfl (by kernel_rfl) (by kernel_rfl) (by kernel_rfl) (fun _ _ _ h => h) (Or.inl ⟨by rfl, ?_⟩) (by assumption) ?_
          rotate_left 1
          · (intro w hSw; (try dsimp only at hSw); go_simp; try with_reducible rfl)
          simp only [Act.put, List.setIfInBounds_toArray, List.set_cons_zero, List.set_cons_succ, List.getElem_toArray, List.getElem_cons_zero, List.getElem_cons_succ]
          refine wpAnyH_done (by kernel_rfl) ?_ _
          go_wp2_with fail
          go_roundw
          case rel => exact ⟨k + 1, A6, c6, by have := HLT.out; omega, by go_num, rfl, by rw [HN.out, HA.out, ints_append]; exact o6, own_only oF6 h6 (fun b h1 h2 => HFR.out b h1 h2), Lib.hid (fun b h1 h2 => by
            rcases q6 b h2 with h5 | h5
            · exact HFR.out b h1 h5
            · have := (own_top oF6 h1).2; omega), K6.trans b6⟩
          case measure => have := HLT.out; simp [intOf]; omega
      · obtain rfl : k = m := by omega
        have HRR := Lib.hid (show (gapsT (timesL F) k).length = k from gapsT_length _ _)
        by_cases hend : k < Z.length
        · obtain ⟨b3, off3, rfl, hk3, x0, x1, x2, x3⟩ := (Sees.of_own oF).elem4 (fun _ => rfl) hend
          have hne := HSP.out.2 hend
          obtain ⟨x, hxk⟩ : ∃ x, Z[k]'hend = x := ⟨_, rfl⟩
          rw [show Z[k]'hend = x from hxk] at hne
          rw [show Z[k]'hk3 = x from hxk] at x0 x1 x2 x3
          have hb0 : (x.status == 0) = false := beq_eq_false_iff_ne.2 hne
          clear hne hxk
          go_wp2_with fail
          go_ret2
          rw [HR.out]
          exact ⟨A', c', by rw [Option.getD_some, HRR.out]; rfl, by rw [Option.getD_some, HRR.out]; exact hown, K⟩
        · go_wp2_with fail
          go_ret2
          rw [HR.out]
          exact ⟨A', c', by rw [Option.getD_some, HRR.out]; rfl, by rw [Option.getD_some, HRR.out]; exact hown, K⟩

end Go.Proofs.YtbcblmbpjecilaaGreatDoor
