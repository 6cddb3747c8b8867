/- The walk of the law FnReports. -/
import Derived.Test.YtbcblmbpjecilaaGreatDoorRLines
namespace Go.Proofs.YtbcblmbpjecilaaGreatDoor
open Go.RowKit

set_option maxRecDepth 100000 in
set_option maxHeartbeats 40000000 in
theorem FnReports_any (A : Option Addr) (n c : Nat) (w : World) (hC : CodeIn w A n) (hn : n ≤ 9223372036854775807) (hg : GlP w) :
    Calls Tryz.prog 3 #[.slice A n c] w fun e w' => e = .returned (.bool true) ∧ Below w.heap.size w w' := by
  have K := Below.refl w.heap.size w
  go_enter Tryz.func3, Tryz.ntmps3
  go_wp2_with fail
  refine (rBig_any A n c w hn).mono ?_
  rintro e w' ⟨rfl, rfl⟩
  by_cases hbig : 65536 < n
  · rw [decide_eq_true hbig]
    go_wp2_with fail
    go_ret
    exact ⟨rfl, K⟩
  rw [decide_eq_false hbig]
  have hm : n ≤ 1000000 := by omega
  clear hbig
  have hgl := hg
  clear hg
  go_wp2_with fail
  refine (DrawClockText_any A n c w hC hm).mono ?_
  rintro e w2 ⟨z, rfl, b⟩
  have K' := bel_then K b
  replace hC := hC.next b
  replace hgl := hgl.next b
  replace K := K'
  clear K' b
  obtain ⟨T, hT⟩ : ∃ T, (clockText z).1 = T := ⟨_, rfl⟩
  obtain ⟨o, ho⟩ : ∃ o, (clockText z).2 = o := ⟨_, rfl⟩
  have hTs : T.size ≤ 8 := by rw [← hT]; exact clockText_size z
  have hback : o = true → parseT T = (z, true) := by rw [← hT, ← ho]; exact clock_back
  have HT := Lib.hid hT
  have HO := Lib.hid ho
  have HBK := Lib.hid hback
  clear hT ho hback
  go_wp2_with fail
  have cc := ClockText_any z w2
  rw [HT.out, HO.out] at cc
  refine cc.mono ?_
  clear cc
  rintro e w3 ⟨rfl, b⟩
  have K' := bel_then K b
  replace hC := hC.next b
  replace hgl := hgl.next b
  replace K := K'
  clear K' b
  go_wp2_with fail
  have cc := specClockText_any z w3
  rw [HT.out, HO.out] at cc
  refine cc.mono ?_
  clear cc
  rintro e w4 ⟨rfl, b⟩
  have K' := bel_then K b
  replace hC := hC.next b
  replace hgl := hgl.next b
  replace K := K'
  clear K' b
  have htt : (T.toList == T.toList) = true := beq_self_eq_true _
  have hoo : (o != o) = false := bne_self_eq_false o
  go_wp2_with fail
  refine (ParseClock_any T w4 (by omega) hgl).mono ?_
  rintro e w5 ⟨rfl, b⟩
  have K' := bel_then K b
  replace hC := hC.next b
  replace hgl := hgl.next b
  replace K := K'
  clear K' b
  clear htt hoo
  cases o with
  | true =>
    have hpz := HBK.out rfl
    rw [hpz]
    clear hpz HBK HT HO
    go_wp2_with fail
    refine (DrawParseClock_any A n c w5 hC hm).mono ?_
    rintro e w6 ⟨t, rfl, ht9, b⟩
    have K' := bel_then K b
    replace hC := hC.next b
    replace hgl := hgl.next b
    replace K := K'
    clear K' b
    obtain ⟨P2, hP2⟩ : ∃ P, (parseT t).1 = P := ⟨_, rfl⟩
    obtain ⟨o2, ho2⟩ : ∃ P, (parseT t).2 = P := ⟨_, rfl⟩
    have HP2 := Lib.hid hP2
    have HO2 := Lib.hid ho2
    clear hP2 ho2
    go_wp2_with fail
    have cc := ParseClock_any t w6 (by omega) hgl
    rw [HP2.out, HO2.out] at cc
    refine cc.mono ?_
    clear cc
    rintro e w7 ⟨rfl, b⟩
    have K' := bel_then K b
    replace hC := hC.next b
    replace hgl := hgl.next b
    replace K := K'
    clear K' b
    go_wp2_with fail
    have cc := specParseClock_any t w7 (by omega)
    rw [HP2.out, HO2.out] at cc
    refine cc.mono ?_
    clear cc
    rintro e w8 ⟨rfl, b⟩
    have K' := bel_then K b
    replace hC := hC.next b
    replace hgl := hgl.next b
    replace K := K'
    clear K' b
    have hpp : (P2 == P2) = true := beq_self_eq_true _
    have hoo : (o2 != o2) = false := bne_self_eq_false o2
    clear HP2 HO2
    go_wp2_with fail
    refine (DrawSortLines_any A n c w8 hC hm).mono ?_
    rintro e w9 ⟨B, d, xs, rfl, L1, b⟩
    have K' := bel_then K b
    replace hC := hC.next b
    replace hgl := hgl.next b
    replace K := K'
    clear K' b
    obtain ⟨Z, hZ⟩ : ∃ Z, (sortLines xs).getD [] = Z := ⟨_, rfl⟩
    obtain ⟨G, hG⟩ : ∃ G, (gapsM xs).getD [] = G := ⟨_, rfl⟩
    obtain ⟨C, hCn⟩ : ∃ C, (lineCounts xs).getD [] = C := ⟨_, rfl⟩
    have hZl : Z.length ≤ 12 := by rw [← hZ]; exact sortLines_len xs
    have hGl : G.length ≤ 12 := by rw [← hG]; exact gapsM_len xs
    have hCl : C.length ≤ 4 := by rw [← hCn]; exact lineCounts_len xs
    have HZ := Lib.hid hZ
    have HG := Lib.hid hG
    have HC := Lib.hid hCn
    clear hZ hG hCn
    cases hg : linesB xs with
    | false =>
      have HS := Lib.hid (show (sortLines xs).isSome = false by unfold sortLines; rw [hg]; rfl)
      have HGS := Lib.hid (show (gapsM xs).isSome = false by unfold gapsM; rw [hg]; rfl)
      have HCS := Lib.hid (show (lineCounts xs).isSome = false by unfold lineCounts; rw [hg]; rfl)
      have h0 : ¬ 0 < G.length := by rw [← HG.out]; unfold gapsM; rw [hg]; simp
      have HL := Lib.hid hg
      clear hg
      go_wp2_with fail
      have cc := SortLines_any B xs.length d xs w9 L1.sees (by have := L1.small; omega) L1.cap L1.upto
      unfold GivesLns at cc
      rw [HZ.out, HS.out] at cc
      refine cc.mono ?_
      clear cc
      rintro e w10 ⟨AS, cS, rfl, oS, b⟩
      have SS := (Sees.of_own oS).less (Nat.zero_le _)
      clear oS
      have K' := bel_then K b
      replace hC := hC.next b
      replace hgl := hgl.next b
      replace L1 := L1.next b
      replace K := K'
      clear K' b
      go_wp2_with fail
      have cc := specSortLines_any B xs.length d xs w10 L1.sees (by have := L1.small; omega) L1.upto
      unfold GivesLns at cc
      rw [HZ.out, HS.out] at cc
      refine cc.mono ?_
      clear cc
      rintro e w11 ⟨AT, cT, rfl, oT, b⟩
      have ST := (Sees.of_own oT).less (Nat.zero_le _)
      clear oT
      have K' := bel_then K b
      replace hC := hC.next b
      replace hgl := hgl.next b
      replace L1 := L1.next b
      replace SS := SS.next b
      replace K := K'
      clear K' b
      go_wp2_with fail
      refine (rLines_any AS AT _ _ cS cT 0 0 Z Z w11 SS ST rfl (by omega)).mono ?_
      rintro e w12 ⟨rfl, qq⟩
      have b := qq.below w11.heap.size
      clear qq
      have K' := bel_then K b
      replace hC := hC.next b
      replace hgl := hgl.next b
      replace L1 := L1.next b
      replace SS := SS.next b
      replace ST := ST.next b
      replace K := K'
      clear K' b
      go_wp2_with fail
      have cc := AreLines_any B xs.length d xs w12 L1.sees (by have := L1.small; omega) L1.cap L1.upto
      rw [HL.out] at cc
      refine cc.mono ?_
      clear cc
      rintro e w13 ⟨rfl, b⟩
      have K' := bel_then K b
      replace hC := hC.next b
      replace hgl := hgl.next b
      replace L1 := L1.next b
      replace SS := SS.next b
      replace ST := ST.next b
      replace K := K'
      clear K' b
      clear ST
      go_wp2_with fail
      have cc := GapsBehind_any B xs.length d xs w13 L1.sees (by have := L1.small; omega) L1.cap L1.upto
      unfold GivesInts at cc
      rw [HG.out, HGS.out] at cc
      refine cc.mono ?_
      clear cc
      rintro e w14 ⟨AG, cG, rfl, oG, b⟩
      have SG := (Sees.of_own oG).less (Nat.zero_le _)
      clear oG
      have K' := bel_then K b
      replace hC := hC.next b
      replace hgl := hgl.next b
      replace L1 := L1.next b
      replace SS := SS.next b
      replace K := K'
      clear K' b
      go_wp2_with fail
      have cc := specGapsBehind_any B xs.length d xs w14 L1.sees (by have := L1.small; omega) L1.upto
      unfold GivesInts at cc
      rw [HG.out, HGS.out] at cc
      refine cc.mono ?_
      clear cc
      rintro e w15 ⟨AH, cH, rfl, oH, b⟩
      have SH := (Sees.of_own oH).less (Nat.zero_le _)
      clear oH
      have K' := bel_then K b
      replace hC := hC.next b
      replace hgl := hgl.next b
      replace L1 := L1.next b
      replace SS := SS.next b
      replace SG := SG.next b
      replace K := K'
      clear K' b
      go_wp2_with fail
      refine (rInts_any AG AH _ _ cG cH 0 0 G G w15 SG SH rfl (by omega)).mono ?_
      rintro e w16 ⟨rfl, qq⟩
      have b := qq.below w15.heap.size
      clear qq
      have K' := bel_then K b
      replace hC := hC.next b
      replace hgl := hgl.next b
      replace L1 := L1.next b
      replace SS := SS.next b
      replace SG := SG.next b
      replace SH := SH.next b
      replace K := K'
      clear K' b
      clear SH
      have hgz : ((G.length : Int) == 0) = true := beq_iff_eq.2 (by omega)
      have hg0 : (G.length : Int) ≤ 0 := by omega
      have hg1 : ¬ (0 : Int) < (G.length : Int) := by omega
      have hg2 : decide (0 < G.length) = false := decide_eq_false h0
      go_wp2_with fail
      go_quiet (fail)
      go_wp2_with fail
      clear hgz hg0 hg1 hg2
      clear SS SG
      have cc := fun q => LineCounts_any B xs.length d xs (w16.drewN q) (L1.next ((Quiet.mk _ q).below _)).sees (by have := L1.small; omega) L1.cap L1.upto
      unfold GivesInts at cc
      rw [HC.out, HCS.out] at cc
      refine (cc _).mono ?_
      clear cc
      rintro e w17 ⟨AC, cC, rfl, oC, b⟩
      have SC := (Sees.of_own oC).less (Nat.zero_le _)
      clear oC
      have K' := bel_then (bel_drewN K _) b
      replace hC := (hC.next ((Quiet.mk _ _).below _)).next b
      replace hgl := (hgl.next ((Quiet.mk _ _).below _)).next b
      replace L1 := (L1.next ((Quiet.mk _ _).below _)).next b
      replace K := K'
      clear K' b
      go_wp2_with fail
      have cc := specLineCounts_any B xs.length d xs w17 L1.sees (by have := L1.small; omega) L1.upto
      unfold GivesInts at cc
      rw [HC.out, HCS.out] at cc
      refine cc.mono ?_
      clear cc
      rintro e w18 ⟨AD, cD, rfl, oD, b⟩
      have SD := (Sees.of_own oD).less (Nat.zero_le _)
      clear oD
      have K' := bel_then K b
      replace hC := hC.next b
      replace hgl := hgl.next b
      replace L1 := L1.next b
      replace SC := SC.next b
      replace K := K'
      clear K' b
      go_wp2_with fail
      refine (rInts_any AC AD _ _ cC cD 0 0 _ _ w18 SC SD rfl (by omega)).mono ?_
      rintro e w19 ⟨rfl, qq⟩
      have b := qq.below w18.heap.size
      clear qq
      have K' := bel_then K b
      replace hC := hC.next b
      replace hgl := hgl.next b
      replace L1 := L1.next b
      replace SC := SC.next b
      replace SD := SD.next b
      replace K := K'
      clear K' b
      clear SD
      go_wp2_with fail
      go_ret
      exact ⟨rfl, K⟩
    | true =>
      have HS := Lib.hid (show (sortLines xs).isSome = true by unfold sortLines; rw [hg]; rfl)
      have HGS := Lib.hid (show (gapsM xs).isSome = true by unfold gapsM; rw [hg]; rfl)
      have HCS := Lib.hid (show (lineCounts xs).isSome = true by unfold lineCounts; rw [hg]; rfl)
      have FG : GapsFacts xs Z G := by rw [← HZ.out, ← HG.out, show sortLines xs = some (sortL xs) by unfold sortLines; rw [hg]; rfl, show gapsM xs = some (gapsT (timesL (finL xs)) (finL xs).length) by unfold gapsM; rw [hg]; rfl]; exact gaps_facts hg
      have FC : C.sum = (xs.length : Int) ∧ (∃ c1 c2 c3, C = [(G.length : Int), c1, c2, c3]) ∧ ∀ c ∈ C, -36000 ≤ c ∧ c ≤ 36000 := by
        obtain ⟨f1, f2, f3⟩ := counts_facts hg
        rw [← HC.out, ← HG.out, show lineCounts xs = some (countsL xs) by unfold lineCounts; rw [hg]; rfl, show gapsM xs = some (gapsT (timesL (finL xs)) (finL xs).length) by unfold gapsM; rw [hg]; rfl]
        exact ⟨f1, ⟨_, _, _, by show countsL xs = _; unfold countsL; rw [f2]; rfl⟩, f3⟩
      have HF := Lib.hid FG
      have HFC := Lib.hid FC
      clear FG FC
      have HL := Lib.hid hg
      clear hg
      by_cases h0 : 0 < G.length
      · go_wp2_with fail
        have cc := SortLines_any B xs.length d xs w9 L1.sees (by have := L1.small; omega) L1.cap L1.upto
        unfold GivesLns at cc
        rw [HZ.out, HS.out] at cc
        refine cc.mono ?_
        clear cc
        rintro e w20 ⟨AS, cS, rfl, oS, b⟩
        have SS := (Sees.of_own oS).less (Nat.zero_le _)
        clear oS
        have K' := bel_then K b
        replace hC := hC.next b
        replace hgl := hgl.next b
        replace L1 := L1.next b
        replace K := K'
        clear K' b
        go_wp2_with fail
        have cc := specSortLines_any B xs.length d xs w20 L1.sees (by have := L1.small; omega) L1.upto
        unfold GivesLns at cc
        rw [HZ.out, HS.out] at cc
        refine cc.mono ?_
        clear cc
        rintro e w21 ⟨AT, cT, rfl, oT, b⟩
        have ST := (Sees.of_own oT).less (Nat.zero_le _)
        clear oT
        have K' := bel_then K b
        replace hC := hC.next b
        replace hgl := hgl.next b
        replace L1 := L1.next b
        replace SS := SS.next b
        replace K := K'
        clear K' b
        go_wp2_with fail
        refine (rLines_any AS AT _ _ cS cT 0 0 Z Z w21 SS ST rfl (by omega)).mono ?_
        rintro e w22 ⟨rfl, qq⟩
        have b := qq.below w21.heap.size
        clear qq
        have K' := bel_then K b
        replace hC := hC.next b
        replace hgl := hgl.next b
        replace L1 := L1.next b
        replace SS := SS.next b
        replace ST := ST.next b
        replace K := K'
        clear K' b
        go_wp2_with fail
        have cc := AreLines_any B xs.length d xs w22 L1.sees (by have := L1.small; omega) L1.cap L1.upto
        rw [HL.out] at cc
        refine cc.mono ?_
        clear cc
        rintro e w23 ⟨rfl, b⟩
        have K' := bel_then K b
        replace hC := hC.next b
        replace hgl := hgl.next b
        replace L1 := L1.next b
        replace SS := SS.next b
        replace ST := ST.next b
        replace K := K'
        clear K' b
        clear ST
        obtain ⟨Kn, hKn⟩ : ∃ Kn, G.length = Kn + 1 := ⟨G.length - 1, by omega⟩
        have HKN := Lib.hid hKn
        have hK12 : Kn + 1 ≤ 12 := by omega
        go_wp2_with fail
        have cc := GapsBehind_any B xs.length d xs w23 L1.sees (by have := L1.small; omega) L1.cap L1.upto
        unfold GivesInts at cc
        rw [HG.out, HGS.out, HKN.out] at cc
        refine cc.mono ?_
        clear cc
        rintro e w24 ⟨AG, cG, rfl, oG, b⟩
        have SG := (Sees.of_own oG).less (Nat.zero_le _)
        clear oG
        have K' := bel_then K b
        replace hC := hC.next b
        replace hgl := hgl.next b
        replace L1 := L1.next b
        replace SS := SS.next b
        replace K := K'
        clear K' b
        go_wp2_with fail
        have cc := specGapsBehind_any B xs.length d xs w24 L1.sees (by have := L1.small; omega) L1.upto
        unfold GivesInts at cc
        rw [HG.out, HGS.out, HKN.out] at cc
        refine cc.mono ?_
        clear cc
        rintro e w25 ⟨AH, cH, rfl, oH, b⟩
        have SH := (Sees.of_own oH).less (Nat.zero_le _)
        clear oH
        have K' := bel_then K b
        replace hC := hC.next b
        replace hgl := hgl.next b
        replace L1 := L1.next b
        replace SS := SS.next b
        replace SG := SG.next b
        replace K := K'
        clear K' b
        go_wp2_with fail
        refine (rInts_any AG AH _ _ cG cH 0 0 G G w25 SG SH rfl (by omega)).mono ?_
        rintro e w26 ⟨rfl, qq⟩
        have b := qq.below w25.heap.size
        clear qq
        have K' := bel_then K b
        replace hC := hC.next b
        replace hgl := hgl.next b
        replace L1 := L1.next b
        replace SS := SS.next b
        replace SG := SG.next b
        replace SH := SH.next b
        replace K := K'
        clear K' b
        clear SH
        have hFl := HF.out.len
        have hFle := HF.out.le
        have HSM := Lib.hid (HF.out.sum h0 (by omega))
        have HEA := Lib.hid HF.out.each
        obtain ⟨gb, go_, hAS, hk1, k0, k1, k2, k3⟩ := SS.elem4 (k := Kn) (fun _ => rfl) (by omega)
        obtain ⟨gb', go_', hAS', hk2, j0, j1, j2, j3⟩ := SS.elem4 (k := 0) (fun _ => rfl) (by omega)
        rw [hAS] at hAS'
        injection hAS' with hAS'
        injection hAS' with e1 e2 _
        subst e1 e2
        subst hAS
        have ht1 := (HF.out.times _ (List.getElem_mem hk1))
        have ht2 := (HF.out.times _ (List.getElem_mem hk2))
        clear k0 k1 k2 j0 j1 j2
        simp only [Nat.zero_mul, Nat.add_zero] at j3
        have hsum : (Z[Kn]'hk1).time - (Z[0]'hk2).time = G.sum := by
          have := HSM.out
          simp only [HKN.out, Nat.add_sub_cancel] at this
          exact this
        obtain ⟨ta, hta⟩ : ∃ t, (Z[Kn]'hk1).time = t := ⟨_, rfl⟩
        obtain ⟨tb, htb⟩ : ∃ t, (Z[0]'hk2).time = t := ⟨_, rfl⟩
        rw [hta] at k3 ht1 hsum
        rw [htb] at j3 ht2 hsum
        clear hta htb HSM hk2
        have hlz : ((Z.length : Int) != (xs.length : Int)) = false := by rw [bne_eq_false_iff_eq]; omega
        have hlz2 : ((Z.length : Int) == (xs.length : Int)) = true := by rw [beq_iff_eq]; omega
        have hkz : Kn < Z.length := hk1
        have hkz2 : (Kn : Int) < (Z.length : Int) := by omega
        have hzp : 0 < Z.length := by omega
        have hcm1 : ((ta - tb) == G.sum) = true := by rw [beq_iff_eq]; exact hsum
        have hcm2 : ((ta - tb) != G.sum) = false := by rw [bne_eq_false_iff_eq]; exact hsum
        have ha1 := ht1.1
        have ha2 := ht1.2
        have ha3 := ht2.1
        have ha4 := ht2.2
        have HSG : ∀ q, Sees (w26.drewN q) 0 1 AG (Kn + 1) (ints G) := fun q => SG.next ((Quiet.mk _ q).below _)
        have HSGh := Lib.hid HSG
        have hdd : ((Kn + 1 : Nat) : Int) - 1 = (Kn : Int) := by omega
        have hpp1 : (0 : Int) < ((Kn + 1 : Nat) : Int) := by omega
        clear hsum HSG hFl hFle ht1 ht2 h0 hKn hk1 hZl hGl hCl
        have hwr : IntKind.i64.wrap (ta - tb) = ta - tb := IntWalk.i64_in _ (by omega)
        have hwr2 : IntKind.i64.wrap (Kn : Int) = (Kn : Int) := IntWalk.i64_in _ (by omega)
        go_wp2_with fail
        go_quiet ((go_at_call 19; exact quiet_rightG (rSum_any AG (Kn + 1) cG G _ (HSGh.out _) (by omega) HEA.out)))
        go_wp2_with fail
        clear HSGh HEA hcm1 hcm2 hlz hlz2 hdd hpp1 hwr hwr2 hkz hkz2 hzp k3 j3 ha1 ha2 ha3 ha4
        clear SS SG
        obtain ⟨hCs, ⟨c1, c2, c3, hCe⟩, hCb⟩ := HFC.out
        rw [HKN.out] at hCe
        subst hCe
        have HCL := Lib.hid (show [((Kn + 1 : Nat) : Int), c1, c2, c3].length = 4 from rfl)
        have HCB := Lib.hid hCb
        obtain ⟨S, hS⟩ : ∃ S, [((Kn + 1 : Nat) : Int), c1, c2, c3].sum = S := ⟨_, rfl⟩
        rw [hS] at hCs
        have HSS := Lib.hid hS
        have hSx : (S == (xs.length : Int)) = true := by rw [beq_iff_eq]; exact hCs
        clear hS hCs hCb
        have cc := fun q => LineCounts_any B xs.length d xs (w26.drewN q) (L1.next ((Quiet.mk _ q).below _)).sees (by have := L1.small; omega) L1.cap L1.upto
        unfold GivesInts at cc
        rw [HC.out, HCS.out, HCL.out] at cc
        refine (cc _).mono ?_
        clear cc
        rintro e w28 ⟨AC, cC, rfl, oC, b⟩
        have SC := (Sees.of_own oC).less (Nat.zero_le _)
        clear oC
        have K' := bel_then (bel_drewN K _) b
        replace hC := (hC.next ((Quiet.mk _ _).below _)).next b
        replace hgl := (hgl.next ((Quiet.mk _ _).below _)).next b
        replace L1 := (L1.next ((Quiet.mk _ _).below _)).next b
        replace K := K'
        clear K' b
        go_wp2_with fail
        have cc := specLineCounts_any B xs.length d xs w28 L1.sees (by have := L1.small; omega) L1.upto
        unfold GivesInts at cc
        rw [HC.out, HCS.out, HCL.out] at cc
        refine cc.mono ?_
        clear cc
        rintro e w29 ⟨AD, cD, rfl, oD, b⟩
        have SD := (Sees.of_own oD).less (Nat.zero_le _)
        clear oD
        have K' := bel_then K b
        replace hC := hC.next b
        replace hgl := hgl.next b
        replace L1 := L1.next b
        replace SC := SC.next b
        replace K := K'
        clear K' b
        go_wp2_with fail
        refine (rInts_any AC AD _ _ cC cD 0 0 _ _ w29 SC SD rfl (by omega)).mono ?_
        rintro e w30 ⟨rfl, qq⟩
        have b := qq.below w29.heap.size
        clear qq
        have K' := bel_then K b
        replace hC := hC.next b
        replace hgl := hgl.next b
        replace L1 := L1.next b
        replace SC := SC.next b
        replace SD := SD.next b
        replace K := K'
        clear K' b
        clear SD
        go_wp2_with fail
        refine (rSum_any AC 4 cC _ w30 SC (by decide) HCB.out).mono ?_
        rintro e w31 ⟨rfl, qq⟩
        have b := qq.below w30.heap.size
        clear qq
        have K' := bel_then K b
        replace hC := hC.next b
        replace hgl := hgl.next b
        replace L1 := L1.next b
        replace SC := SC.next b
        replace K := K'
        clear K' b
        rw [HSS.out]
        obtain ⟨cb, coff, rfl, hc0, hcc⟩ := SC.int (k := 0) (by decide)
        simp only [List.getElem_cons_zero, Nat.add_zero] at hcc
        go_wp2_with fail
        go_ret
        exact ⟨rfl, K⟩
      · go_wp2_with fail
        have cc := SortLines_any B xs.length d xs w9 L1.sees (by have := L1.small; omega) L1.cap L1.upto
        unfold GivesLns at cc
        rw [HZ.out, HS.out] at cc
        refine cc.mono ?_
        clear cc
        rintro e w32 ⟨AS, cS, rfl, oS, b⟩
        have SS := (Sees.of_own oS).less (Nat.zero_le _)
        clear oS
        have K' := bel_then K b
        replace hC := hC.next b
        replace hgl := hgl.next b
        replace L1 := L1.next b
        replace K := K'
        clear K' b
        go_wp2_with fail
        have cc := specSortLines_any B xs.length d xs w32 L1.sees (by have := L1.small; omega) L1.upto
        unfold GivesLns at cc
        rw [HZ.out, HS.out] at cc
        refine cc.mono ?_
        clear cc
        rintro e w33 ⟨AT, cT, rfl, oT, b⟩
        have ST := (Sees.of_own oT).less (Nat.zero_le _)
        clear oT
        have K' := bel_then K b
        replace hC := hC.next b
        replace hgl := hgl.next b
        replace L1 := L1.next b
        replace SS := SS.next b
        replace K := K'
        clear K' b
        go_wp2_with fail
        refine (rLines_any AS AT _ _ cS cT 0 0 Z Z w33 SS ST rfl (by omega)).mono ?_
        rintro e w34 ⟨rfl, qq⟩
        have b := qq.below w33.heap.size
        clear qq
        have K' := bel_then K b
        replace hC := hC.next b
        replace hgl := hgl.next b
        replace L1 := L1.next b
        replace SS := SS.next b
        replace ST := ST.next b
        replace K := K'
        clear K' b
        go_wp2_with fail
        have cc := AreLines_any B xs.length d xs w34 L1.sees (by have := L1.small; omega) L1.cap L1.upto
        rw [HL.out] at cc
        refine cc.mono ?_
        clear cc
        rintro e w35 ⟨rfl, b⟩
        have K' := bel_then K b
        replace hC := hC.next b
        replace hgl := hgl.next b
        replace L1 := L1.next b
        replace SS := SS.next b
        replace ST := ST.next b
        replace K := K'
        clear K' b
        clear ST
        go_wp2_with fail
        have cc := GapsBehind_any B xs.length d xs w35 L1.sees (by have := L1.small; omega) L1.cap L1.upto
        unfold GivesInts at cc
        rw [HG.out, HGS.out] at cc
        refine cc.mono ?_
        clear cc
        rintro e w36 ⟨AG, cG, rfl, oG, b⟩
        have SG := (Sees.of_own oG).less (Nat.zero_le _)
        clear oG
        have K' := bel_then K b
        replace hC := hC.next b
        replace hgl := hgl.next b
        replace L1 := L1.next b
        replace SS := SS.next b
        replace K := K'
        clear K' b
        go_wp2_with fail
        have cc := specGapsBehind_any B xs.length d xs w36 L1.sees (by have := L1.small; omega) L1.upto
        unfold GivesInts at cc
        rw [HG.out, HGS.out] at cc
        refine cc.mono ?_
        clear cc
        rintro e w37 ⟨AH, cH, rfl, oH, b⟩
        have SH := (Sees.of_own oH).less (Nat.zero_le _)
        clear oH
        have K' := bel_then K b
        replace hC := hC.next b
        replace hgl := hgl.next b
        replace L1 := L1.next b
        replace SS := SS.next b
        replace SG := SG.next b
        replace K := K'
        clear K' b
        go_wp2_with fail
        refine (rInts_any AG AH _ _ cG cH 0 0 G G w37 SG SH rfl (by omega)).mono ?_
        rintro e w38 ⟨rfl, qq⟩
        have b := qq.below w37.heap.size
        clear qq
        have K' := bel_then K b
        replace hC := hC.next b
        replace hgl := hgl.next b
        replace L1 := L1.next b
        replace SS := SS.next b
        replace SG := SG.next b
        replace SH := SH.next b
        replace K := K'
        clear K' b
        clear SH
        have hgz : ((G.length : Int) == 0) = true := beq_iff_eq.2 (by omega)
        have hg0 : (G.length : Int) ≤ 0 := by omega
        have hg1 : ¬ (0 : Int) < (G.length : Int) := by omega
        have hg2 : decide (0 < G.length) = false := decide_eq_false h0
        go_wp2_with fail
        go_quiet (fail)
        go_wp2_with fail
        clear hgz hg0 hg1 hg2
        clear SS SG
        obtain ⟨hCs, ⟨c1, c2, c3, hCe⟩, hCb⟩ := HFC.out
        obtain ⟨Kn, hKn⟩ : ∃ Kn, G.length = Kn := ⟨_, rfl⟩
        rw [hKn] at hCe ⊢
        clear hKn
        subst hCe
        have HCL := Lib.hid (show [(Kn : Int), c1, c2, c3].length = 4 from rfl)
        have HCB := Lib.hid hCb
        obtain ⟨S, hS⟩ : ∃ S, [(Kn : Int), c1, c2, c3].sum = S := ⟨_, rfl⟩
        rw [hS] at hCs
        have HSS := Lib.hid hS
        have hSx : (S == (xs.length : Int)) = true := by rw [beq_iff_eq]; exact hCs
        clear hS hCs hCb
        have cc := fun q => LineCounts_any B xs.length d xs (w38.drewN q) (L1.next ((Quiet.mk _ q).below _)).sees (by have := L1.small; omega) L1.cap L1.upto
        unfold GivesInts at cc
        rw [HC.out, HCS.out, HCL.out] at cc
        refine (cc _).mono ?_
        clear cc
        rintro e w39 ⟨AC, cC, rfl, oC, b⟩
        have SC := (Sees.of_own oC).less (Nat.zero_le _)
        clear oC
        have K' := bel_then (bel_drewN K _) b
        replace hC := (hC.next ((Quiet.mk _ _).below _)).next b
        replace hgl := (hgl.next ((Quiet.mk _ _).below _)).next b
        replace L1 := (L1.next ((Quiet.mk _ _).below _)).next b
        replace K := K'
        clear K' b
        go_wp2_with fail
        have cc := specLineCounts_any B xs.length d xs w39 L1.sees (by have := L1.small; omega) L1.upto
        unfold GivesInts at cc
        rw [HC.out, HCS.out, HCL.out] at cc
        refine cc.mono ?_
        clear cc
        rintro e w40 ⟨AD, cD, rfl, oD, b⟩
        have SD := (Sees.of_own oD).less (Nat.zero_le _)
        clear oD
        have K' := bel_then K b
        replace hC := hC.next b
        replace hgl := hgl.next b
        replace L1 := L1.next b
        replace SC := SC.next b
        replace K := K'
        clear K' b
        go_wp2_with fail
        refine (rInts_any AC AD _ _ cC cD 0 0 _ _ w40 SC SD rfl (by omega)).mono ?_
        rintro e w41 ⟨rfl, qq⟩
        have b := qq.below w40.heap.size
        clear qq
        have K' := bel_then K b
        replace hC := hC.next b
        replace hgl := hgl.next b
        replace L1 := L1.next b
        replace SC := SC.next b
        replace SD := SD.next b
        replace K := K'
        clear K' b
        clear SD
        go_wp2_with fail
        refine (rSum_any AC 4 cC _ w41 SC (by decide) HCB.out).mono ?_
        rintro e w42 ⟨rfl, qq⟩
        have b := qq.below w41.heap.size
        clear qq
        have K' := bel_then K b
        replace hC := hC.next b
        replace hgl := hgl.next b
        replace L1 := L1.next b
        replace SC := SC.next b
        replace K := K'
        clear K' b
        rw [HSS.out]
        obtain ⟨cb, coff, rfl, hc0, hcc⟩ := SC.int (k := 0) (by decide)
        simp only [List.getElem_cons_zero, Nat.add_zero] at hcc
        go_wp2_with fail
        go_ret
        exact ⟨rfl, K⟩
  | false =>
    generalize (parseT T).1 = P at *
    generalize (parseT T).2 = o1 at *
    clear HBK HT HO
    go_wp2_with fail
    refine (DrawParseClock_any A n c w5 hC hm).mono ?_
    rintro e w43 ⟨t, rfl, ht9, b⟩
    have K' := bel_then K b
    replace hC := hC.next b
    replace hgl := hgl.next b
    replace K := K'
    clear K' b
    obtain ⟨P2, hP2⟩ : ∃ P, (parseT t).1 = P := ⟨_, rfl⟩
    obtain ⟨o2, ho2⟩ : ∃ P, (parseT t).2 = P := ⟨_, rfl⟩
    have HP2 := Lib.hid hP2
    have HO2 := Lib.hid ho2
    clear hP2 ho2
    go_wp2_with fail
    have cc := ParseClock_any t w43 (by omega) hgl
    rw [HP2.out, HO2.out] at cc
    refine cc.mono ?_
    clear cc
    rintro e w44 ⟨rfl, b⟩
    have K' := bel_then K b
    replace hC := hC.next b
    replace hgl := hgl.next b
    replace K := K'
    clear K' b
    go_wp2_with fail
    have cc := specParseClock_any t w44 (by omega)
    rw [HP2.out, HO2.out] at cc
    refine cc.mono ?_
    clear cc
    rintro e w45 ⟨rfl, b⟩
    have K' := bel_then K b
    replace hC := hC.next b
    replace hgl := hgl.next b
    replace K := K'
    clear K' b
    have hpp : (P2 == P2) = true := beq_self_eq_true _
    have hoo : (o2 != o2) = false := bne_self_eq_false o2
    clear HP2 HO2
    go_wp2_with fail
    refine (DrawSortLines_any A n c w45 hC hm).mono ?_
    rintro e w46 ⟨B, d, xs, rfl, L1, b⟩
    have K' := bel_then K b
    replace hC := hC.next b
    replace hgl := hgl.next b
    replace K := K'
    clear K' b
    obtain ⟨Z, hZ⟩ : ∃ Z, (sortLines xs).getD [] = Z := ⟨_, rfl⟩
    obtain ⟨G, hG⟩ : ∃ G, (gapsM xs).getD [] = G := ⟨_, rfl⟩
    obtain ⟨C, hCn⟩ : ∃ C, (lineCounts xs).getD [] = C := ⟨_, rfl⟩
    have hZl : Z.length ≤ 12 := by rw [← hZ]; exact sortLines_len xs
    have hGl : G.length ≤ 12 := by rw [← hG]; exact gapsM_len xs
    have hCl : C.length ≤ 4 := by rw [← hCn]; exact lineCounts_len xs
    have HZ := Lib.hid hZ
    have HG := Lib.hid hG
    have HC := Lib.hid hCn
    clear hZ hG hCn
    cases hg : linesB xs with
    | false =>
      have HS := Lib.hid (show (sortLines xs).isSome = false by unfold sortLines; rw [hg]; rfl)
      have HGS := Lib.hid (show (gapsM xs).isSome = false by unfold gapsM; rw [hg]; rfl)
      have HCS := Lib.hid (show (lineCounts xs).isSome = false by unfold lineCounts; rw [hg]; rfl)
      have h0 : ¬ 0 < G.length := by rw [← HG.out]; unfold gapsM; rw [hg]; simp
      have HL := Lib.hid hg
      clear hg
      go_wp2_with fail
      have cc := SortLines_any B xs.length d xs w46 L1.sees (by have := L1.small; omega) L1.cap L1.upto
      unfold GivesLns at cc
      rw [HZ.out, HS.out] at cc
      refine cc.mono ?_
      clear cc
      rintro e w47 ⟨AS, cS, rfl, oS, b⟩
      have SS := (Sees.of_own oS).less (Nat.zero_le _)
      clear oS
      have K' := bel_then K b
      replace hC := hC.next b
      replace hgl := hgl.next b
      replace L1 := L1.next b
      replace K := K'
      clear K' b
      go_wp2_with fail
      have cc := specSortLines_any B xs.length d xs w47 L1.sees (by have := L1.small; omega) L1.upto
      unfold GivesLns at cc
      rw [HZ.out, HS.out] at cc
      refine cc.mono ?_
      clear cc
      rintro e w48 ⟨AT, cT, rfl, oT, b⟩
      have ST := (Sees.of_own oT).less (Nat.zero_le _)
      clear oT
      have K' := bel_then K b
      replace hC := hC.next b
      replace hgl := hgl.next b
      replace L1 := L1.next b
      replace SS := SS.next b
      replace K := K'
      clear K' b
      go_wp2_with fail
      refine (rLines_any AS AT _ _ cS cT 0 0 Z Z w48 SS ST rfl (by omega)).mono ?_
      rintro e w49 ⟨rfl, qq⟩
      have b := qq.below w48.heap.size
      clear qq
      have K' := bel_then K b
      replace hC := hC.next b
      replace hgl := hgl.next b
      replace L1 := L1.next b
      replace SS := SS.next b
      replace ST := ST.next b
      replace K := K'
      clear K' b
      go_wp2_with fail
      have cc := AreLines_any B xs.length d xs w49 L1.sees (by have := L1.small; omega) L1.cap L1.upto
      rw [HL.out] at cc
      refine cc.mono ?_
      clear cc
      rintro e w50 ⟨rfl, b⟩
      have K' := bel_then K b
      replace hC := hC.next b
      replace hgl := hgl.next b
      replace L1 := L1.next b
      replace SS := SS.next b
      replace ST := ST.next b
      replace K := K'
      clear K' b
      clear ST
      go_wp2_with fail
      have cc := GapsBehind_any B xs.length d xs w50 L1.sees (by have := L1.small; omega) L1.cap L1.upto
      unfold GivesInts at cc
      rw [HG.out, HGS.out] at cc
      refine cc.mono ?_
      clear cc
      rintro e w51 ⟨AG, cG, rfl, oG, b⟩
      have SG := (Sees.of_own oG).less (Nat.zero_le _)
      clear oG
      have K' := bel_then K b
      replace hC := hC.next b
      replace hgl := hgl.next b
      replace L1 := L1.next b
      replace SS := SS.next b
      replace K := K'
      clear K' b
      go_wp2_with fail
      have cc := specGapsBehind_any B xs.length d xs w51 L1.sees (by have := L1.small; omega) L1.upto
      unfold GivesInts at cc
      rw [HG.out, HGS.out] at cc
      refine cc.mono ?_
      clear cc
      rintro e w52 ⟨AH, cH, rfl, oH, b⟩
      have SH := (Sees.of_own oH).less (Nat.zero_le _)
      clear oH
      have K' := bel_then K b
      replace hC := hC.next b
      replace hgl := hgl.next b
      replace L1 := L1.next b
      replace SS := SS.next b
      replace SG := SG.next b
      replace K := K'
      clear K' b
      go_wp2_with fail
      refine (rInts_any AG AH _ _ cG cH 0 0 G G w52 SG SH rfl (by omega)).mono ?_
      rintro e w53 ⟨rfl, qq⟩
      have b := qq.below w52.heap.size
      clear qq
      have K' := bel_then K b
      replace hC := hC.next b
      replace hgl := hgl.next b
      replace L1 := L1.next b
      replace SS := SS.next b
      replace SG := SG.next b
      replace SH := SH.next b
      replace K := K'
      clear K' b
      clear SH
      have hgz : ((G.length : Int) == 0) = true := beq_iff_eq.2 (by omega)
      have hg0 : (G.length : Int) ≤ 0 := by omega
      have hg1 : ¬ (0 : Int) < (G.length : Int) := by omega
      have hg2 : decide (0 < G.length) = false := decide_eq_false h0
      go_wp2_with fail
      go_quiet (fail)
      go_wp2_with fail
      clear hgz hg0 hg1 hg2
      clear SS SG
      have cc := fun q => LineCounts_any B xs.length d xs (w53.drewN q) (L1.next ((Quiet.mk _ q).below _)).sees (by have := L1.small; omega) L1.cap L1.upto
      unfold GivesInts at cc
      rw [HC.out, HCS.out] at cc
      refine (cc _).mono ?_
      clear cc
      rintro e w54 ⟨AC, cC, rfl, oC, b⟩
      have SC := (Sees.of_own oC).less (Nat.zero_le _)
      clear oC
      have K' := bel_then (bel_drewN K _) b
      replace hC := (hC.next ((Quiet.mk _ _).below _)).next b
      replace hgl := (hgl.next ((Quiet.mk _ _).below _)).next b
      replace L1 := (L1.next ((Quiet.mk _ _).below _)).next b
      replace K := K'
      clear K' b
      go_wp2_with fail
      have cc := specLineCounts_any B xs.length d xs w54 L1.sees (by have := L1.small; omega) L1.upto
      unfold GivesInts at cc
      rw [HC.out, HCS.out] at cc
      refine cc.mono ?_
      clear cc
      rintro e w55 ⟨AD, cD, rfl, oD, b⟩
      have SD := (Sees.of_own oD).less (Nat.zero_le _)
      clear oD
      have K' := bel_then K b
      replace hC := hC.next b
      replace hgl := hgl.next b
      replace L1 := L1.next b
      replace SC := SC.next b
      replace K := K'
      clear K' b
      go_wp2_with fail
      refine (rInts_any AC AD _ _ cC cD 0 0 _ _ w55 SC SD rfl (by omega)).mono ?_
      rintro e w56 ⟨rfl, qq⟩
      have b := qq.below w55.heap.size
      clear qq
      have K' := bel_then K b
      replace hC := hC.next b
      replace hgl := hgl.next b
      replace L1 := L1.next b
      replace SC := SC.next b
      replace SD := SD.next b
      replace K := K'
      clear K' b
      clear SD
      go_wp2_with fail
      go_ret
      exact ⟨rfl, K⟩
    | true =>
      have HS := Lib.hid (show (sortLines xs).isSome = true by unfold sortLines; rw [hg]; rfl)
      have HGS := Lib.hid (show (gapsM xs).isSome = true by unfold gapsM; rw [hg]; rfl)
      have HCS := Lib.hid (show (lineCounts xs).isSome = true by unfold lineCounts; rw [hg]; rfl)
      have FG : GapsFacts xs Z G := by rw [← HZ.out, ← HG.out, show sortLines xs = some (sortL xs) by unfold sortLines; rw [hg]; rfl, show gapsM xs = some (gapsT (timesL (finL xs)) (finL xs).length) by unfold gapsM; rw [hg]; rfl]; exact gaps_facts hg
      have FC : C.sum = (xs.length : Int) ∧ (∃ c1 c2 c3, C = [(G.length : Int), c1, c2, c3]) ∧ ∀ c ∈ C, -36000 ≤ c ∧ c ≤ 36000 := by
        obtain ⟨f1, f2, f3⟩ := counts_facts hg
        rw [← HC.out, ← HG.out, show lineCounts xs = some (countsL xs) by unfold lineCounts; rw [hg]; rfl, show gapsM xs = some (gapsT (timesL (finL xs)) (finL xs).length) by unfold gapsM; rw [hg]; rfl]
        exact ⟨f1, ⟨_, _, _, by show countsL xs = _; unfold countsL; rw [f2]; rfl⟩, f3⟩
      have HF := Lib.hid FG
      have HFC := Lib.hid FC
      clear FG FC
      have HL := Lib.hid hg
      clear hg
      by_cases h0 : 0 < G.length
      · go_wp2_with fail
        have cc := SortLines_any B xs.length d xs w46 L1.sees (by have := L1.small; omega) L1.cap L1.upto
        unfold GivesLns at cc
        rw [HZ.out, HS.out] at cc
        refine cc.mono ?_
        clear cc
        rintro e w57 ⟨AS, cS, rfl, oS, b⟩
        have SS := (Sees.of_own oS).less (Nat.zero_le _)
        clear oS
        have K' := bel_then K b
        replace hC := hC.next b
        replace hgl := hgl.next b
        replace L1 := L1.next b
        replace K := K'
        clear K' b
        go_wp2_with fail
        have cc := specSortLines_any B xs.length d xs w57 L1.sees (by have := L1.small; omega) L1.upto
        unfold GivesLns at cc
        rw [HZ.out, HS.out] at cc
        refine cc.mono ?_
        clear cc
        rintro e w58 ⟨AT, cT, rfl, oT, b⟩
        have ST := (Sees.of_own oT).less (Nat.zero_le _)
        clear oT
        have K' := bel_then K b
        replace hC := hC.next b
        replace hgl := hgl.next b
        replace L1 := L1.next b
        replace SS := SS.next b
        replace K := K'
        clear K' b
        go_wp2_with fail
        refine (rLines_any AS AT _ _ cS cT 0 0 Z Z w58 SS ST rfl (by omega)).mono ?_
        rintro e w59 ⟨rfl, qq⟩
        have b := qq.below w58.heap.size
        clear qq
        have K' := bel_then K b
        replace hC := hC.next b
        replace hgl := hgl.next b
        replace L1 := L1.next b
        replace SS := SS.next b
        replace ST := ST.next b
        replace K := K'
        clear K' b
        go_wp2_with fail
        have cc := AreLines_any B xs.length d xs w59 L1.sees (by have := L1.small; omega) L1.cap L1.upto
        rw [HL.out] at cc
        refine cc.mono ?_
        clear cc
        rintro e w60 ⟨rfl, b⟩
        have K' := bel_then K b
        replace hC := hC.next b
        replace hgl := hgl.next b
        replace L1 := L1.next b
        replace SS := SS.next b
        replace ST := ST.next b
        replace K := K'
        clear K' b
        clear ST
        obtain ⟨Kn, hKn⟩ : ∃ Kn, G.length = Kn + 1 := ⟨G.length - 1, by omega⟩
        have HKN := Lib.hid hKn
        have hK12 : Kn + 1 ≤ 12 := by omega
        go_wp2_with fail
        have cc := GapsBehind_any B xs.length d xs w60 L1.sees (by have := L1.small; omega) L1.cap L1.upto
        unfold GivesInts at cc
        rw [HG.out, HGS.out, HKN.out] at cc
        refine cc.mono ?_
        clear cc
        rintro e w61 ⟨AG, cG, rfl, oG, b⟩
        have SG := (Sees.of_own oG).less (Nat.zero_le _)
        clear oG
        have K' := bel_then K b
        replace hC := hC.next b
        replace hgl := hgl.next b
        replace L1 := L1.next b
        replace SS := SS.next b
        replace K := K'
        clear K' b
        go_wp2_with fail
        have cc := specGapsBehind_any B xs.length d xs w61 L1.sees (by have := L1.small; omega) L1.upto
        unfold GivesInts at cc
        rw [HG.out, HGS.out, HKN.out] at cc
        refine cc.mono ?_
        clear cc
        rintro e w62 ⟨AH, cH, rfl, oH, b⟩
        have SH := (Sees.of_own oH).less (Nat.zero_le _)
        clear oH
        have K' := bel_then K b
        replace hC := hC.next b
        replace hgl := hgl.next b
        replace L1 := L1.next b
        replace SS := SS.next b
        replace SG := SG.next b
        replace K := K'
        clear K' b
        go_wp2_with fail
        refine (rInts_any AG AH _ _ cG cH 0 0 G G w62 SG SH rfl (by omega)).mono ?_
        rintro e w63 ⟨rfl, qq⟩
        have b := qq.below w62.heap.size
        clear qq
        have K' := bel_then K b
        replace hC := hC.next b
        replace hgl := hgl.next b
        replace L1 := L1.next b
        replace SS := SS.next b
        replace SG := SG.next b
        replace SH := SH.next b
        replace K := K'
        clear K' b
        clear SH
        have hFl := HF.out.len
        have hFle := HF.out.le
        have HSM := Lib.hid (HF.out.sum h0 (by omega))
        have HEA := Lib.hid HF.out.each
        obtain ⟨gb, go_, hAS, hk1, k0, k1, k2, k3⟩ := SS.elem4 (k := Kn) (fun _ => rfl) (by omega)
        obtain ⟨gb', go_', hAS', hk2, j0, j1, j2, j3⟩ := SS.elem4 (k := 0) (fun _ => rfl) (by omega)
        rw [hAS] at hAS'
        injection hAS' with hAS'
        injection hAS' with e1 e2 _
        subst e1 e2
        subst hAS
        have ht1 := (HF.out.times _ (List.getElem_mem hk1))
        have ht2 := (HF.out.times _ (List.getElem_mem hk2))
        clear k0 k1 k2 j0 j1 j2
        simp only [Nat.zero_mul, Nat.add_zero] at j3
        have hsum : (Z[Kn]'hk1).time - (Z[0]'hk2).time = G.sum := by
          have := HSM.out
          simp only [HKN.out, Nat.add_sub_cancel] at this
          exact this
        obtain ⟨ta, hta⟩ : ∃ t, (Z[Kn]'hk1).time = t := ⟨_, rfl⟩
        obtain ⟨tb, htb⟩ : ∃ t, (Z[0]'hk2).time = t := ⟨_, rfl⟩
        rw [hta] at k3 ht1 hsum
        rw [htb] at j3 ht2 hsum
        clear hta htb HSM hk2
        have hlz : ((Z.length : Int) != (xs.length : Int)) = false := by rw [bne_eq_false_iff_eq]; omega
        have hlz2 : ((Z.length : Int) == (xs.length : Int)) = true := by rw [beq_iff_eq]; omega
        have hkz : Kn < Z.length := hk1
        have hkz2 : (Kn : Int) < (Z.length : Int) := by omega
        have hzp : 0 < Z.length := by omega
        have hcm1 : ((ta - tb) == G.sum) = true := by rw [beq_iff_eq]; exact hsum
        have hcm2 : ((ta - tb) != G.sum) = false := by rw [bne_eq_false_iff_eq]; exact hsum
        have ha1 := ht1.1
        have ha2 := ht1.2
        have ha3 := ht2.1
        have ha4 := ht2.2
        have HSG : ∀ q, Sees (w63.drewN q) 0 1 AG (Kn + 1) (ints G) := fun q => SG.next ((Quiet.mk _ q).below _)
        have HSGh := Lib.hid HSG
        have hdd : ((Kn + 1 : Nat) : Int) - 1 = (Kn : Int) := by omega
        have hpp1 : (0 : Int) < ((Kn + 1 : Nat) : Int) := by omega
        clear hsum HSG hFl hFle ht1 ht2 h0 hKn hk1 hZl hGl hCl
        have hwr : IntKind.i64.wrap (ta - tb) = ta - tb := IntWalk.i64_in _ (by omega)
        have hwr2 : IntKind.i64.wrap (Kn : Int) = (Kn : Int) := IntWalk.i64_in _ (by omega)
        go_wp2_with fail
        go_quiet ((go_at_call 19; exact quiet_rightG (rSum_any AG (Kn + 1) cG G _ (HSGh.out _) (by omega) HEA.out)))
        go_wp2_with fail
        clear HSGh HEA hcm1 hcm2 hlz hlz2 hdd hpp1 hwr hwr2 hkz hkz2 hzp k3 j3 ha1 ha2 ha3 ha4
        clear SS SG
        obtain ⟨hCs, ⟨c1, c2, c3, hCe⟩, hCb⟩ := HFC.out
        rw [HKN.out] at hCe
        subst hCe
        have HCL := Lib.hid (show [((Kn + 1 : Nat) : Int), c1, c2, c3].length = 4 from rfl)
        have HCB := Lib.hid hCb
        obtain ⟨S, hS⟩ : ∃ S, [((Kn + 1 : Nat) : Int), c1, c2, c3].sum = S := ⟨_, rfl⟩
        rw [hS] at hCs
        have HSS := Lib.hid hS
        have hSx : (S == (xs.length : Int)) = true := by rw [beq_iff_eq]; exact hCs
        clear hS hCs hCb
        have cc := fun q => LineCounts_any B xs.length d xs (w63.drewN q) (L1.next ((Quiet.mk _ q).below _)).sees (by have := L1.small; omega) L1.cap L1.upto
        unfold GivesInts at cc
        rw [HC.out, HCS.out, HCL.out] at cc
        refine (cc _).mono ?_
        clear cc
        rintro e w65 ⟨AC, cC, rfl, oC, b⟩
        have SC := (Sees.of_own oC).less (Nat.zero_le _)
        clear oC
        have K' := bel_then (bel_drewN K _) b
        replace hC := (hC.next ((Quiet.mk _ _).below _)).next b
        replace hgl := (hgl.next ((Quiet.mk _ _).below _)).next b
        replace L1 := (L1.next ((Quiet.mk _ _).below _)).next b
        replace K := K'
        clear K' b
        go_wp2_with fail
        have cc := specLineCounts_any B xs.length d xs w65 L1.sees (by have := L1.small; omega) L1.upto
        unfold GivesInts at cc
        rw [HC.out, HCS.out, HCL.out] at cc
        refine cc.mono ?_
        clear cc
        rintro e w66 ⟨AD, cD, rfl, oD, b⟩
        have SD := (Sees.of_own oD).less (Nat.zero_le _)
        clear oD
        have K' := bel_then K b
        replace hC := hC.next b
        replace hgl := hgl.next b
        replace L1 := L1.next b
        replace SC := SC.next b
        replace K := K'
        clear K' b
        go_wp2_with fail
        refine (rInts_any AC AD _ _ cC cD 0 0 _ _ w66 SC SD rfl (by omega)).mono ?_
        rintro e w67 ⟨rfl, qq⟩
        have b := qq.below w66.heap.size
        clear qq
        have K' := bel_then K b
        replace hC := hC.next b
        replace hgl := hgl.next b
        replace L1 := L1.next b
        replace SC := SC.next b
        replace SD := SD.next b
        replace K := K'
        clear K' b
        clear SD
        go_wp2_with fail
        refine (rSum_any AC 4 cC _ w67 SC (by decide) HCB.out).mono ?_
        rintro e w68 ⟨rfl, qq⟩
        have b := qq.below w67.heap.size
        clear qq
        have K' := bel_then K b
        replace hC := hC.next b
        replace hgl := hgl.next b
        replace L1 := L1.next b
        replace SC := SC.next b
        replace K := K'
        clear K' b
        rw [HSS.out]
        obtain ⟨cb, coff, rfl, hc0, hcc⟩ := SC.int (k := 0) (by decide)
        simp only [List.getElem_cons_zero, Nat.add_zero] at hcc
        go_wp2_with fail
        go_ret
        exact ⟨rfl, K⟩
      · go_wp2_with fail
        have cc := SortLines_any B xs.length d xs w46 L1.sees (by have := L1.small; omega) L1.cap L1.upto
        unfold GivesLns at cc
        rw [HZ.out, HS.out] at cc
        refine cc.mono ?_
        clear cc
        rintro e w69 ⟨AS, cS, rfl, oS, b⟩
        have SS := (Sees.of_own oS).less (Nat.zero_le _)
        clear oS
        have K' := bel_then K b
        replace hC := hC.next b
        replace hgl := hgl.next b
        replace L1 := L1.next b
        replace K := K'
        clear K' b
        go_wp2_with fail
        have cc := specSortLines_any B xs.length d xs w69 L1.sees (by have := L1.small; omega) L1.upto
        unfold GivesLns at cc
        rw [HZ.out, HS.out] at cc
        refine cc.mono ?_
        clear cc
        rintro e w70 ⟨AT, cT, rfl, oT, b⟩
        have ST := (Sees.of_own oT).less (Nat.zero_le _)
        clear oT
        have K' := bel_then K b
        replace hC := hC.next b
        replace hgl := hgl.next b
        replace L1 := L1.next b
        replace SS := SS.next b
        replace K := K'
        clear K' b
        go_wp2_with fail
        refine (rLines_any AS AT _ _ cS cT 0 0 Z Z w70 SS ST rfl (by omega)).mono ?_
        rintro e w71 ⟨rfl, qq⟩
        have b := qq.below w70.heap.size
        clear qq
        have K' := bel_then K b
        replace hC := hC.next b
        replace hgl := hgl.next b
        replace L1 := L1.next b
        replace SS := SS.next b
        replace ST := ST.next b
        replace K := K'
        clear K' b
        go_wp2_with fail
        have cc := AreLines_any B xs.length d xs w71 L1.sees (by have := L1.small; omega) L1.cap L1.upto
        rw [HL.out] at cc
        refine cc.mono ?_
        clear cc
        rintro e w72 ⟨rfl, b⟩
        have K' := bel_then K b
        replace hC := hC.next b
        replace hgl := hgl.next b
        replace L1 := L1.next b
        replace SS := SS.next b
        replace ST := ST.next b
        replace K := K'
        clear K' b
        clear ST
        go_wp2_with fail
        have cc := GapsBehind_any B xs.length d xs w72 L1.sees (by have := L1.small; omega) L1.cap L1.upto
        unfold GivesInts at cc
        rw [HG.out, HGS.out] at cc
        refine cc.mono ?_
        clear cc
        rintro e w73 ⟨AG, cG, rfl, oG, b⟩
        have SG := (Sees.of_own oG).less (Nat.zero_le _)
        clear oG
        have K' := bel_then K b
        replace hC := hC.next b
        replace hgl := hgl.next b
        replace L1 := L1.next b
        replace SS := SS.next b
        replace K := K'
        clear K' b
        go_wp2_with fail
        have cc := specGapsBehind_any B xs.length d xs w73 L1.sees (by have := L1.small; omega) L1.upto
        unfold GivesInts at cc
        rw [HG.out, HGS.out] at cc
        refine cc.mono ?_
        clear cc
        rintro e w74 ⟨AH, cH, rfl, oH, b⟩
        have SH := (Sees.of_own oH).less (Nat.zero_le _)
        clear oH
        have K' := bel_then K b
        replace hC := hC.next b
        replace hgl := hgl.next b
        replace L1 := L1.next b
        replace SS := SS.next b
        replace SG := SG.next b
        replace K := K'
        clear K' b
        go_wp2_with fail
        refine (rInts_any AG AH _ _ cG cH 0 0 G G w74 SG SH rfl (by omega)).mono ?_
        rintro e w75 ⟨rfl, qq⟩
        have b := qq.below w74.heap.size
        clear qq
        have K' := bel_then K b
        replace hC := hC.next b
        replace hgl := hgl.next b
        replace L1 := L1.next b
        replace SS := SS.next b
        replace SG := SG.next b
        replace SH := SH.next b
        replace K := K'
        clear K' b
        clear SH
        have hgz : ((G.length : Int) == 0) = true := beq_iff_eq.2 (by omega)
        have hg0 : (G.length : Int) ≤ 0 := by omega
        have hg1 : ¬ (0 : Int) < (G.length : Int) := by omega
        have hg2 : decide (0 < G.length) = false := decide_eq_false h0
        go_wp2_with fail
        go_quiet (fail)
        go_wp2_with fail
        clear hgz hg0 hg1 hg2
        clear SS SG
        obtain ⟨hCs, ⟨c1, c2, c3, hCe⟩, hCb⟩ := HFC.out
        obtain ⟨Kn, hKn⟩ : ∃ Kn, G.length = Kn := ⟨_, rfl⟩
        rw [hKn] at hCe ⊢
        clear hKn
        subst hCe
        have HCL := Lib.hid (show [(Kn : Int), c1, c2, c3].length = 4 from rfl)
        have HCB := Lib.hid hCb
        obtain ⟨S, hS⟩ : ∃ S, [(Kn : Int), c1, c2, c3].sum = S := ⟨_, rfl⟩
        rw [hS] at hCs
        have HSS := Lib.hid hS
        have hSx : (S == (xs.length : Int)) = true := by rw [beq_iff_eq]; exact hCs
        clear hS hCs hCb
        have cc := fun q => LineCounts_any B xs.length d xs (w75.drewN q) (L1.next ((Quiet.mk _ q).below _)).sees (by have := L1.small; omega) L1.cap L1.upto
        unfold GivesInts at cc
        rw [HC.out, HCS.out, HCL.out] at cc
        refine (cc _).mono ?_
        clear cc
        rintro e w76 ⟨AC, cC, rfl, oC, b⟩
        have SC := (Sees.of_own oC).less (Nat.zero_le _)
        clear oC
        have K' := bel_then (bel_drewN K _) b
        replace hC := (hC.next ((Quiet.mk _ _).below _)).next b
        replace hgl := (hgl.next ((Quiet.mk _ _).below _)).next b
        replace L1 := (L1.next ((Quiet.mk _ _).below _)).next b
        replace K := K'
        clear K' b
        go_wp2_with fail
        have cc := specLineCounts_any B xs.length d xs w76 L1.sees (by have := L1.small; omega) L1.upto
        unfold GivesInts at cc
        rw [HC.out, HCS.out, HCL.out] at cc
        refine cc.mono ?_
        clear cc
        rintro e w77 ⟨AD, cD, rfl, oD, b⟩
        have SD := (Sees.of_own oD).less (Nat.zero_le _)
        clear oD
        have K' := bel_then K b
        replace hC := hC.next b
        replace hgl := hgl.next b
        replace L1 := L1.next b
        replace SC := SC.next b
        replace K := K'
        clear K' b
        go_wp2_with fail
        refine (rInts_any AC AD _ _ cC cD 0 0 _ _ w77 SC SD rfl (by omega)).mono ?_
        rintro e w78 ⟨rfl, qq⟩
        have b := qq.below w77.heap.size
        clear qq
        have K' := bel_then K b
        replace hC := hC.next b
        replace hgl := hgl.next b
        replace L1 := L1.next b
        replace SC := SC.next b
        replace SD := SD.next b
        replace K := K'
        clear K' b
        clear SD
        go_wp2_with fail
        refine (rSum_any AC 4 cC _ w78 SC (by decide) HCB.out).mono ?_
        rintro e w79 ⟨rfl, qq⟩
        have b := qq.below w78.heap.size
        clear qq
        have K' := bel_then K b
        replace hC := hC.next b
        replace hgl := hgl.next b
        replace L1 := L1.next b
        replace SC := SC.next b
        replace K := K'
        clear K' b
        rw [HSS.out]
        obtain ⟨cb, coff, rfl, hc0, hcc⟩ := SC.int (k := 0) (by decide)
        simp only [List.getElem_cons_zero, Nat.add_zero] at hcc
        go_wp2_with fail
        go_ret
        exact ⟨rfl, K⟩

end Go.Proofs.YtbcblmbpjecilaaGreatDoor
