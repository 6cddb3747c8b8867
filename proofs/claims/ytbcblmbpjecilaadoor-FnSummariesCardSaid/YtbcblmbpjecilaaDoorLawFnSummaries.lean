/- The walk of the law FnSummaries. -/
import Derived.Test.YtbcblmbpjecilaaDoorCurQ
import Derived.Test.YtbcblmbpjecilaaDoorSummP
import Derived.Test.YtbcblmbpjecilaaDoorRBig
namespace Go.Proofs.YtbcblmbpjecilaaDoor
open Go.RowKit

theorem take_count (s : ByteArray) (k : Nat) (h : k < s.size) : (s.data.toList.take (k + 1)).count 10 = (s.data.toList.take k).count 10 + if s[k] = 10 then 1 else 0 := by
  have hl : k < s.data.toList.length := by simpa using h
  rw [List.take_succ_eq_append_getElem hl, List.count_append]
  have e : s.data.toList[k] = s[k] := rfl
  rw [e]
  by_cases hc : s[k] = 10
  · rw [hc]; rfl
  · rw [if_neg hc, List.count_singleton, if_neg (by simpa using hc)]
set_option maxRecDepth 100000 in
set_option maxHeartbeats 40000000 in
theorem FnSummaries_any (A : Option Addr) (n c : Nat) (w : World) (hC : CodeIn w A n) (hn : n ≤ 9223372036854775807) :
    Calls Tryd.prog 7 #[.slice A n c] w fun e w' => e = .returned (.bool true) ∧ Below w.heap.size w w' := by
  have K := Below.refl w.heap.size w
  go_enter Tryd.func7, Tryd.ntmps7
  go_wp2_with fail
  refine (rBig_any A n c w hn).mono ?_
  rintro e w' ⟨rfl, rfl⟩
  by_cases hbig : 65536 < n
  · rw [decide_eq_true hbig]
    go_wp2_with fail
    go_ret
    exact ⟨rfl, K⟩
  rw [decide_eq_false hbig]
  have hm : n ≤ 1000000 := by omega
  clear hbig
  go_wp2_with fail
  refine (DrawReportText_any A n c w hC hm).mono ?_
  rintro e w2 ⟨B, d, xs, rfl, L1, b⟩
  have K' := bel_then K b
  replace hC := hC.next b
  replace K := K'
  clear K' b
  obtain ⟨T, hT⟩ : ∃ T, (reportM xs).1 = T := ⟨_, rfl⟩
  obtain ⟨o, ho⟩ : ∃ o, linesB xs = o := ⟨_, rfl⟩
  have hcnt : o = true → T.data.toList.count 10 = xs.length := fun h => by rw [← hT]; exact report_lines (by rw [report_told, ho, h])
  have hTs : T.size ≤ 9223372036854775807 := by rw [← hT]; exact Nat.le_trans (reportM_size xs) (by decide)
  have HT := Lib.hid hT
  have HO := Lib.hid ho
  have HCN := Lib.hid hcnt
  clear hT ho hcnt
  go_wp2_with fail
  have cc := ReportText_any B xs.length d xs w2 L1.sees (by have := L1.small; omega) L1.cap L1.upto
  try unfold GivesNum at cc
  rw [report_told, HT.out, HO.out] at cc
  refine cc.mono ?_
  clear cc
  rintro e w3 ⟨rfl, b⟩
  have K' := bel_then K b
  replace hC := hC.next b
  replace L1 := L1.next b
  replace K := K'
  clear K' b
  go_wp2_with fail
  have cc := specReportText_any B xs.length d xs w3 L1.sees (by have := L1.small; omega) L1.upto
  try unfold GivesNum at cc
  rw [report_told, HT.out, HO.out] at cc
  refine cc.mono ?_
  clear cc
  rintro e w4 ⟨rfl, b⟩
  have K' := bel_then K b
  replace hC := hC.next b
  replace L1 := L1.next b
  replace K := K'
  clear K' b
  have htt : (T.toList == T.toList) = true := beq_self_eq_true _
  have hoo : (o != o) = false := bne_self_eq_false _
  go_wp2_with fail
  go_loop [8, 9] (fun v i => ∃ k : Nat, k ≤ T.size ∧ i = .int .i64 k ∧ v = .int .i64 (((T.data.toList.take k).count 10 : Nat) : Int)) (fun _ i => T.size - (intOf i).toNat)
  case atStart => exact ⟨0, Nat.zero_le _, rfl, rfl⟩
  case round =>
    obtain ⟨k, hk, rfl, rfl⟩ := hrel
    have hle : (T.data.toList.take k).count 10 ≤ k := Nat.le_trans List.count_le_length (List.length_take_le _ _)
    by_cases hlt : k < T.size
    · have HN := Lib.hid (take_count T k hlt)
      by_cases hc : T[k] = 10
      · have hct : ((T[k].toNat : Int) == 10) = true := by rw [hc]; rfl
        have HM := Lib.hid (HN.out.trans (by rw [if_pos hc]))
        clear hc
        generalize (T.data.toList.take k).count 10 = q at *
        go_wp2_with fail
        go_round
        case rel => exact ⟨k + 1, by omega, by go_num, by rw [HM.out]; go_num⟩
        case measure => simp [intOf]; omega
      · have hct : ((T[k].toNat : Int) == 10) = false := by
          rw [beq_eq_false_iff_ne]
          intro e
          exact hc (UInt8.toNat_inj.1 (by have : (10 : UInt8).toNat = 10 := rfl; omega))
        have HM := Lib.hid (HN.out.trans (by rw [if_neg hc, Nat.add_zero]))
        clear hc
        generalize (T.data.toList.take k).count 10 = q at *
        go_wp2_with fail
        go_round
        case rel => exact ⟨k + 1, by omega, by go_num, by rw [HM.out]⟩
        case measure => simp [intOf]; omega
    · obtain rfl : k = T.size := by omega
      have hall : T.data.toList.take T.size = T.data.toList := List.take_of_length_le (by simp)
      have HA := Lib.hid hall
      clear hall
      rw [HA.out] at hle ⊢
      cases o with
      | true =>
        have hcn := HCN.out rfl
        rw [hcn]
        clear hcn hlt hle
        go_wp2_with fail
        refine (DrawClubTimes_any A n c w4 hC hm).mono ?_
        rintro e w5 ⟨B2, d2, ys, club, best, rfl, hbest, L2, b⟩
        have K' := bel_then K b
        replace hC := hC.next b
        replace L1 := L1.next b
        replace K := K'
        clear K' b
        obtain ⟨s1, hs1⟩ : ∃ s, (clubM ys club best).getD 0 = s := ⟨_, rfl⟩
        obtain ⟨o1, ho1⟩ : ∃ s, (clubM ys club best).isSome = s := ⟨_, rfl⟩
        obtain ⟨t1, ht1⟩ : ∃ s, (clubM ys club (best - 1)).getD 0 = s := ⟨_, rfl⟩
        obtain ⟨o2, ho2⟩ : ∃ s, (clubM ys club (best - 1)).isSome = s := ⟨_, rfl⟩
        have hless : o1 = true → o2 = true → t1 < s1 := by
          rw [← hs1, ← ho1, ← ht1, ← ho2]
          intro h1 h2
          obtain ⟨s, hs⟩ := Option.isSome_iff_exists.1 h1
          obtain ⟨t, ht⟩ := Option.isSome_iff_exists.1 h2
          rw [hs, ht]
          exact club_less hs ht
        have HS1 := Lib.hid hs1
        have HO1 := Lib.hid ho1
        have HT1 := Lib.hid ht1
        have HO2 := Lib.hid ho2
        have HLS := Lib.hid hless
        clear hs1 ho1 ht1 ho2 hless
        go_wp2_with fail
        have cc := ClubTimes_any B2 ys.length d2 ys club best w5 L2.sees (by have := L2.small; omega) L2.cap L2.upto
        try unfold GivesNum at cc
        rw [HS1.out, HO1.out] at cc
        refine cc.mono ?_
        clear cc
        rintro e w6 ⟨rfl, b⟩
        have K' := bel_then K b
        replace hC := hC.next b
        replace L1 := L1.next b
        replace L2 := L2.next b
        replace K := K'
        clear K' b
        go_wp2_with fail
        have cc := specClubTimes_any B2 ys.length d2 ys club best w6 L2.sees (by have := L2.small; omega) L2.upto
        try unfold GivesNum at cc
        rw [HS1.out, HO1.out] at cc
        refine cc.mono ?_
        clear cc
        rintro e w7 ⟨rfl, b⟩
        have K' := bel_then K b
        replace hC := hC.next b
        replace L1 := L1.next b
        replace L2 := L2.next b
        replace K := K'
        clear K' b
        have hrr : (s1 == s1) = true := beq_self_eq_true _
        have hro : (o1 != o1) = false := bne_self_eq_false _
        go_wp2_with fail
        have cc := ClubTimes_any B2 ys.length d2 ys club (best - 1) w7 L2.sees (by have := L2.small; omega) L2.cap L2.upto
        try unfold GivesNum at cc
        rw [HT1.out, HO2.out] at cc
        refine cc.mono ?_
        clear cc
        rintro e w8 ⟨rfl, b⟩
        have K' := bel_then K b
        replace hC := hC.next b
        replace L1 := L1.next b
        replace L2 := L2.next b
        replace K := K'
        clear K' b
        clear hrr hro L2
        cases o1 with
        | false =>
          clear HLS HS1 HO1 HT1 HO2
          obtain ⟨U, hU⟩ : ∃ U, (summM xs).1 = U := ⟨_, rfl⟩
          have HU := Lib.hid hU
          clear hU
          go_wp2_with fail
          have cc := RaceSummary_any B xs.length d xs w8 L1.sees (by have := L1.small; omega) L1.cap L1.upto
          try unfold GivesNum at cc
          rw [summ_told, HU.out, HO.out] at cc
          refine cc.mono ?_
          clear cc
          rintro e w9 ⟨rfl, b⟩
          have K' := bel_then K b
          replace hC := hC.next b
          replace L1 := L1.next b
          replace K := K'
          clear K' b
          go_wp2_with fail
          have cc := specRaceSummary_any B xs.length d xs w9 L1.sees (by have := L1.small; omega) L1.upto
          try unfold GivesNum at cc
          rw [summ_told, HU.out, HO.out] at cc
          refine cc.mono ?_
          clear cc
          rintro e w10 ⟨rfl, b⟩
          have K' := bel_then K b
          replace hC := hC.next b
          replace L1 := L1.next b
          replace K := K'
          clear K' b
          have huu : (U.toList == U.toList) = true := beq_self_eq_true _
          go_wp2_with fail
          refine (DrawIsReportLine_any A n c w10 hC hm).mono ?_
          rintro e w11 ⟨x, rfl, hx, b⟩
          have K' := bel_then K b
          replace hC := hC.next b
          replace L1 := L1.next b
          replace K := K'
          clear K' b
          go_wp2_with fail
          have U2 : Below w11.heap.size w11 (w11.alloc (.cells #[.string x.name, .string x.club, .int .i64 x.status, .int .i64 x.time] 42)) := (Below.refl _ _).alloc (Nat.le_refl _) _
          have Bx : Blk (w11.alloc (.cells #[.string x.name, .string x.club, .int .i64 x.status, .int .i64 x.time] 42)) w11.heap.size 42 [.string x.name, .string x.club, .int .i64 x.status, .int .i64 x.time] := Blk.at_ rfl
          have KB := bel_then K U2
          clear U2
          generalize (w11.alloc (.cells #[.string x.name, .string x.club, .int .i64 x.status, .int .i64 x.time] 42)) = wz at *
          generalize w11.heap.size = gx at *
          have b := (Quiet.one wz).below wz.heap.size
          refine wp_region_held_drew (S := fun w' => w'.cell? ⟨gx, 0, none⟩ = some (.string x.name) ∧ w'.cell? ⟨gx, 1, none⟩ = some (.string x.club) ∧ w'.cell? ⟨gx, 2, none⟩ = some (.int .i64 x.status) ∧ w'.cell? ⟨gx, 3, none⟩ = some (.int .i64 x.time)) (by kernel_rfl) (by (try dsimp only); exact ⟨(Bx.next b).cell 0, (Bx.next b).cell 1, (Bx.next b).cell 2, (Bx.next b).cell 3⟩) (fun hHeld => ?_)
          have K' := bel_then KB b
          replace Bx := Bx.next b
          replace KB := K'
          clear K' b
          generalize wz.drew = wd at *
          refine wpAnyH_take (i := 0) (v := ?_) rfl (by kernel_rfl) (by kernel_rfl) (by kernel_rfl) (fun _ _ _ h => h) (Or.inl ⟨by rfl, ?_⟩) (by assumption) ?_
          rotate_left 1
          · (intro w hSw; (try dsimp only at hSw); go_simp; try with_reducible rfl)
          simp only [Act.put, List.setIfInBounds_toArray, List.set_cons_zero, List.set_cons_succ, List.getElem_toArray, List.getElem_cons_zero]
          refine wpAnyH_take (i := 2) (v := ?_) rfl (by kernel_rfl) (by kernel_rfl) (by kernel_rfl) (fun _ _ _ h => h) (Or.inl ⟨by rfl, ?_⟩) (by assumption) ?_
          rotate_left 1
          · (intro w hSw; (try dsimp only at hSw); go_simp; try with_reducible rfl)
          simp only [Act.put, List.setIfInBounds_toArray, List.set_cons_zero, List.set_cons_succ, List.getElem_toArray, List.getElem_cons_zero, List.getElem_cons_succ]
          refine wpAnyH_ready (rs := [1]) (by kernel_rfl) (by simp) ?_
          refine AllReadyH.cons rfl (fun K hK => ?_) AllReadyH.nil
          go_simp
          refine (IsReportLine_any x _ hx).mono ?_
          rintro e wa ⟨rfl, b⟩
          have K' := bel_then KB b
          replace Bx := Bx.next b
          replace KB := K'
          clear K' b
          go_wp2_with fail
          refine hK.out _ _ (by (try dsimp only); exact ⟨Bx.cell 0, Bx.cell 1, Bx.cell 2, Bx.cell 3⟩) (fun hHeld => ?_)
          clear hK K
          refine wpAnyH_ready (rs := [3]) (by kernel_rfl) (by simp) ?_
          refine AllReadyH.cons rfl (fun K hK => ?_) AllReadyH.nil
          go_simp
          refine (specIsReportLine_any x _ hx).mono ?_
          rintro e wa ⟨rfl, b⟩
          have K' := bel_then KB b
          replace Bx := Bx.next b
          replace KB := K'
          clear K' b
          go_wp2_with fail
          refine hK.out _ _ (by (try dsimp only); exact ⟨Bx.cell 0, Bx.cell 1, Bx.cell 2, Bx.cell 3⟩) (fun hHeld => ?_)
          clear hK K
          refine wpAnyH_take (i := 4) (v := ?_) rfl (by kernel_rfl) (by kernel_rfl) (by kernel_rfl) (fun _ _ _ h => h) (Or.inl ⟨by rfl, ?_⟩) (by assumption) ?_
          rotate_left 1
          · (intro w hSw; (try dsimp only at hSw); go_simp; try with_reducible rfl)
          simp only [Act.put, List.setIfInBounds_toArray, List.set_cons_zero, List.set_cons_succ, List.getElem_toArray, List.getElem_cons_zero, List.getElem_cons_succ]
          refine wpAnyH_take (i := 5) (v := ?_) rfl (by kernel_rfl) (by kernel_rfl) (by kernel_rfl) (fun _ _ _ h => h) (Or.inl ⟨by rfl, ?_⟩) (by assumption) ?_
          rotate_left 1
          · (intro w hSw; (try dsimp only at hSw); go_simp; try with_reducible rfl)
          simp only [Act.put, List.setIfInBounds_toArray, List.set_cons_zero, List.set_cons_succ, List.getElem_toArray, List.getElem_cons_zero, List.getElem_cons_succ]
          refine wpAnyH_done (by kernel_rfl) ?_ _
          have hbb : (lineB x == lineB x) = true := beq_self_eq_true _
          go_wp2_with fail
          go_ret
          exact ⟨rfl, KB⟩
        | true =>
          cases o2 with
          | false =>
            clear HLS HS1 HO1 HT1 HO2
            obtain ⟨U, hU⟩ : ∃ U, (summM xs).1 = U := ⟨_, rfl⟩
            have HU := Lib.hid hU
            clear hU
            go_wp2_with fail
            have cc := RaceSummary_any B xs.length d xs w8 L1.sees (by have := L1.small; omega) L1.cap L1.upto
            try unfold GivesNum at cc
            rw [summ_told, HU.out, HO.out] at cc
            refine cc.mono ?_
            clear cc
            rintro e w12 ⟨rfl, b⟩
            have K' := bel_then K b
            replace hC := hC.next b
            replace L1 := L1.next b
            replace K := K'
            clear K' b
            go_wp2_with fail
            have cc := specRaceSummary_any B xs.length d xs w12 L1.sees (by have := L1.small; omega) L1.upto
            try unfold GivesNum at cc
            rw [summ_told, HU.out, HO.out] at cc
            refine cc.mono ?_
            clear cc
            rintro e w13 ⟨rfl, b⟩
            have K' := bel_then K b
            replace hC := hC.next b
            replace L1 := L1.next b
            replace K := K'
            clear K' b
            have huu : (U.toList == U.toList) = true := beq_self_eq_true _
            go_wp2_with fail
            refine (DrawIsReportLine_any A n c w13 hC hm).mono ?_
            rintro e w14 ⟨x, rfl, hx, b⟩
            have K' := bel_then K b
            replace hC := hC.next b
            replace L1 := L1.next b
            replace K := K'
            clear K' b
            go_wp2_with fail
            have U2 : Below w14.heap.size w14 (w14.alloc (.cells #[.string x.name, .string x.club, .int .i64 x.status, .int .i64 x.time] 42)) := (Below.refl _ _).alloc (Nat.le_refl _) _
            have Bx : Blk (w14.alloc (.cells #[.string x.name, .string x.club, .int .i64 x.status, .int .i64 x.time] 42)) w14.heap.size 42 [.string x.name, .string x.club, .int .i64 x.status, .int .i64 x.time] := Blk.at_ rfl
            have KB := bel_then K U2
            clear U2
            generalize (w14.alloc (.cells #[.string x.name, .string x.club, .int .i64 x.status, .int .i64 x.time] 42)) = wz at *
            generalize w14.heap.size = gx at *
            have b := (Quiet.one wz).below wz.heap.size
            refine wp_region_held_drew (S := fun w' => w'.cell? ⟨gx, 0, none⟩ = some (.string x.name) ∧ w'.cell? ⟨gx, 1, none⟩ = some (.string x.club) ∧ w'.cell? ⟨gx, 2, none⟩ = some (.int .i64 x.status) ∧ w'.cell? ⟨gx, 3, none⟩ = some (.int .i64 x.time)) (by kernel_rfl) (by (try dsimp only); exact ⟨(Bx.next b).cell 0, (Bx.next b).cell 1, (Bx.next b).cell 2, (Bx.next b).cell 3⟩) (fun hHeld => ?_)
            have K' := bel_then KB b
            replace Bx := Bx.next b
            replace KB := K'
            clear K' b
            generalize wz.drew = wd at *
            refine wpAnyH_take (i := 0) (v := ?_) rfl (by kernel_rfl) (by kernel_rfl) (by kernel_rfl) (fun _ _ _ h => h) (Or.inl ⟨by rfl, ?_⟩) (by assumption) ?_
            rotate_left 1
            · (intro w hSw; (try dsimp only at hSw); go_simp; try with_reducible rfl)
            simp only [Act.put, List.setIfInBounds_toArray, List.set_cons_zero, List.set_cons_succ, List.getElem_toArray, List.getElem_cons_zero]
            refine wpAnyH_take (i := 2) (v := ?_) rfl (by kernel_rfl) (by kernel_rfl) (by kernel_rfl) (fun _ _ _ h => h) (Or.inl ⟨by rfl, ?_⟩) (by assumption) ?_
            rotate_left 1
            · (intro w hSw; (try dsimp only at hSw); go_simp; try with_reducible rfl)
            simp only [Act.put, List.setIfInBounds_toArray, List.set_cons_zero, List.set_cons_succ, List.getElem_toArray, List.getElem_cons_zero, List.getElem_cons_succ]
            refine wpAnyH_ready (rs := [1]) (by kernel_rfl) (by simp) ?_
            refine AllReadyH.cons rfl (fun K hK => ?_) AllReadyH.nil
            go_simp
            refine (IsReportLine_any x _ hx).mono ?_
            rintro e wa ⟨rfl, b⟩
            have K' := bel_then KB b
            replace Bx := Bx.next b
            replace KB := K'
            clear K' b
            go_wp2_with fail
            refine hK.out _ _ (by (try dsimp only); exact ⟨Bx.cell 0, Bx.cell 1, Bx.cell 2, Bx.cell 3⟩) (fun hHeld => ?_)
            clear hK K
            refine wpAnyH_ready (rs := [3]) (by kernel_rfl) (by simp) ?_
            refine AllReadyH.cons rfl (fun K hK => ?_) AllReadyH.nil
            go_simp
            refine (specIsReportLine_any x _ hx).mono ?_
            rintro e wa ⟨rfl, b⟩
            have K' := bel_then KB b
            replace Bx := Bx.next b
            replace KB := K'
            clear K' b
            go_wp2_with fail
            refine hK.out _ _ (by (try dsimp only); exact ⟨Bx.cell 0, Bx.cell 1, Bx.cell 2, Bx.cell 3⟩) (fun hHeld => ?_)
            clear hK K
            refine wpAnyH_take (i := 4) (v := ?_) rfl (by kernel_rfl) (by kernel_rfl) (by kernel_rfl) (fun _ _ _ h => h) (Or.inl ⟨by rfl, ?_⟩) (by assumption) ?_
            rotate_left 1
            · (intro w hSw; (try dsimp only at hSw); go_simp; try with_reducible rfl)
            simp only [Act.put, List.setIfInBounds_toArray, List.set_cons_zero, List.set_cons_succ, List.getElem_toArray, List.getElem_cons_zero, List.getElem_cons_succ]
            refine wpAnyH_take (i := 5) (v := ?_) rfl (by kernel_rfl) (by kernel_rfl) (by kernel_rfl) (fun _ _ _ h => h) (Or.inl ⟨by rfl, ?_⟩) (by assumption) ?_
            rotate_left 1
            · (intro w hSw; (try dsimp only at hSw); go_simp; try with_reducible rfl)
            simp only [Act.put, List.setIfInBounds_toArray, List.set_cons_zero, List.set_cons_succ, List.getElem_toArray, List.getElem_cons_zero, List.getElem_cons_succ]
            refine wpAnyH_done (by kernel_rfl) ?_ _
            have hbb : (lineB x == lineB x) = true := beq_self_eq_true _
            go_wp2_with fail
            go_ret
            exact ⟨rfl, KB⟩
          | true =>
            have hlt := HLS.out rfl rfl
            clear HLS HS1 HO1 HT1 HO2
            obtain ⟨U, hU⟩ : ∃ U, (summM xs).1 = U := ⟨_, rfl⟩
            have HU := Lib.hid hU
            clear hU
            go_wp2_with fail
            have cc := RaceSummary_any B xs.length d xs w8 L1.sees (by have := L1.small; omega) L1.cap L1.upto
            try unfold GivesNum at cc
            rw [summ_told, HU.out, HO.out] at cc
            refine cc.mono ?_
            clear cc
            rintro e w15 ⟨rfl, b⟩
            have K' := bel_then K b
            replace hC := hC.next b
            replace L1 := L1.next b
            replace K := K'
            clear K' b
            go_wp2_with fail
            have cc := specRaceSummary_any B xs.length d xs w15 L1.sees (by have := L1.small; omega) L1.upto
            try unfold GivesNum at cc
            rw [summ_told, HU.out, HO.out] at cc
            refine cc.mono ?_
            clear cc
            rintro e w16 ⟨rfl, b⟩
            have K' := bel_then K b
            replace hC := hC.next b
            replace L1 := L1.next b
            replace K := K'
            clear K' b
            have huu : (U.toList == U.toList) = true := beq_self_eq_true _
            go_wp2_with fail
            refine (DrawIsReportLine_any A n c w16 hC hm).mono ?_
            rintro e w17 ⟨x, rfl, hx, b⟩
            have K' := bel_then K b
            replace hC := hC.next b
            replace L1 := L1.next b
            replace K := K'
            clear K' b
            go_wp2_with fail
            have U2 : Below w17.heap.size w17 (w17.alloc (.cells #[.string x.name, .string x.club, .int .i64 x.status, .int .i64 x.time] 42)) := (Below.refl _ _).alloc (Nat.le_refl _) _
            have Bx : Blk (w17.alloc (.cells #[.string x.name, .string x.club, .int .i64 x.status, .int .i64 x.time] 42)) w17.heap.size 42 [.string x.name, .string x.club, .int .i64 x.status, .int .i64 x.time] := Blk.at_ rfl
            have KB := bel_then K U2
            clear U2
            generalize (w17.alloc (.cells #[.string x.name, .string x.club, .int .i64 x.status, .int .i64 x.time] 42)) = wz at *
            generalize w17.heap.size = gx at *
            have b := (Quiet.one wz).below wz.heap.size
            refine wp_region_held_drew (S := fun w' => w'.cell? ⟨gx, 0, none⟩ = some (.string x.name) ∧ w'.cell? ⟨gx, 1, none⟩ = some (.string x.club) ∧ w'.cell? ⟨gx, 2, none⟩ = some (.int .i64 x.status) ∧ w'.cell? ⟨gx, 3, none⟩ = some (.int .i64 x.time)) (by kernel_rfl) (by (try dsimp only); exact ⟨(Bx.next b).cell 0, (Bx.next b).cell 1, (Bx.next b).cell 2, (Bx.next b).cell 3⟩) (fun hHeld => ?_)
            have K' := bel_then KB b
            replace Bx := Bx.next b
            replace KB := K'
            clear K' b
            generalize wz.drew = wd at *
            refine wpAnyH_take (i := 0) (v := ?_) rfl (by kernel_rfl) (by kernel_rfl) (by kernel_rfl) (fun _ _ _ h => h) (Or.inl ⟨by rfl, ?_⟩) (by assumption) ?_
            rotate_left 1
            · (intro w hSw; (try dsimp only at hSw); go_simp; try with_reducible rfl)
            simp only [Act.put, List.setIfInBounds_toArray, List.set_cons_zero, List.set_cons_succ, List.getElem_toArray, List.getElem_cons_zero]
            refine wpAnyH_take (i := 2) (v := ?_) rfl (by kernel_rfl) (by kernel_rfl) (by kernel_rfl) (fun _ _ _ h => h) (Or.inl ⟨by rfl, ?_⟩) (by assumption) ?_
            rotate_left 1
            · (intro w hSw; (try dsimp only at hSw); go_simp; try with_reducible rfl)
            simp only [Act.put, List.setIfInBounds_toArray, List.set_cons_zero, List.set_cons_succ, List.getElem_toArray, List.getElem_cons_zero, List.getElem_cons_succ]
            refine wpAnyH_ready (rs := [1]) (by kernel_rfl) (by simp) ?_
            refine AllReadyH.cons rfl (fun K hK => ?_) AllReadyH.nil
            go_simp
            refine (IsReportLine_any x _ hx).mono ?_
            rintro e wa ⟨rfl, b⟩
            have K' := bel_then KB b
            replace Bx := Bx.next b
            replace KB := K'
            clear K' b
            go_wp2_with fail
            refine hK.out _ _ (by (try dsimp only); exact ⟨Bx.cell 0, Bx.cell 1, Bx.cell 2, Bx.cell 3⟩) (fun hHeld => ?_)
            clear hK K
            refine wpAnyH_ready (rs := [3]) (by kernel_rfl) (by simp) ?_
            refine AllReadyH.cons rfl (fun K hK => ?_) AllReadyH.nil
            go_simp
            refine (specIsReportLine_any x _ hx).mono ?_
            rintro e wa ⟨rfl, b⟩
            have K' := bel_then KB b
            replace Bx := Bx.next b
            replace KB := K'
            clear K' b
            go_wp2_with fail
            refine hK.out _ _ (by (try dsimp only); exact ⟨Bx.cell 0, Bx.cell 1, Bx.cell 2, Bx.cell 3⟩) (fun hHeld => ?_)
            clear hK K
            refine wpAnyH_take (i := 4) (v := ?_) rfl (by kernel_rfl) (by kernel_rfl) (by kernel_rfl) (fun _ _ _ h => h) (Or.inl ⟨by rfl, ?_⟩) (by assumption) ?_
            rotate_left 1
            · (intro w hSw; (try dsimp only at hSw); go_simp; try with_reducible rfl)
            simp only [Act.put, List.setIfInBounds_toArray, List.set_cons_zero, List.set_cons_succ, List.getElem_toArray, List.getElem_cons_zero, List.getElem_cons_succ]
            refine wpAnyH_take (i := 5) (v := ?_) rfl (by kernel_rfl) (by kernel_rfl) (by kernel_rfl) (fun _ _ _ h => h) (Or.inl ⟨by rfl, ?_⟩) (by assumption) ?_
            rotate_left 1
            · (intro w hSw; (try dsimp only at hSw); go_simp; try with_reducible rfl)
            simp only [Act.put, List.setIfInBounds_toArray, List.set_cons_zero, List.set_cons_succ, List.getElem_toArray, List.getElem_cons_zero, List.getElem_cons_succ]
            refine wpAnyH_done (by kernel_rfl) ?_ _
            have hbb : (lineB x == lineB x) = true := beq_self_eq_true _
            go_wp2_with fail
            go_ret
            exact ⟨rfl, KB⟩
      | false =>
        clear hlt hle
        generalize T.data.toList.count 10 = q at *
        go_wp2_with fail
        refine (DrawClubTimes_any A n c w4 hC hm).mono ?_
        rintro e w18 ⟨B2, d2, ys, club, best, rfl, hbest, L2, b⟩
        have K' := bel_then K b
        replace hC := hC.next b
        replace L1 := L1.next b
        replace K := K'
        clear K' b
        obtain ⟨s1, hs1⟩ : ∃ s, (clubM ys club best).getD 0 = s := ⟨_, rfl⟩
        obtain ⟨o1, ho1⟩ : ∃ s, (clubM ys club best).isSome = s := ⟨_, rfl⟩
        obtain ⟨t1, ht1⟩ : ∃ s, (clubM ys club (best - 1)).getD 0 = s := ⟨_, rfl⟩
        obtain ⟨o2, ho2⟩ : ∃ s, (clubM ys club (best - 1)).isSome = s := ⟨_, rfl⟩
        have hless : o1 = true → o2 = true → t1 < s1 := by
          rw [← hs1, ← ho1, ← ht1, ← ho2]
          intro h1 h2
          obtain ⟨s, hs⟩ := Option.isSome_iff_exists.1 h1
          obtain ⟨t, ht⟩ := Option.isSome_iff_exists.1 h2
          rw [hs, ht]
          exact club_less hs ht
        have HS1 := Lib.hid hs1
        have HO1 := Lib.hid ho1
        have HT1 := Lib.hid ht1
        have HO2 := Lib.hid ho2
        have HLS := Lib.hid hless
        clear hs1 ho1 ht1 ho2 hless
        go_wp2_with fail
        have cc := ClubTimes_any B2 ys.length d2 ys club best w18 L2.sees (by have := L2.small; omega) L2.cap L2.upto
        try unfold GivesNum at cc
        rw [HS1.out, HO1.out] at cc
        refine cc.mono ?_
        clear cc
        rintro e w19 ⟨rfl, b⟩
        have K' := bel_then K b
        replace hC := hC.next b
        replace L1 := L1.next b
        replace L2 := L2.next b
        replace K := K'
        clear K' b
        go_wp2_with fail
        have cc := specClubTimes_any B2 ys.length d2 ys club best w19 L2.sees (by have := L2.small; omega) L2.upto
        try unfold GivesNum at cc
        rw [HS1.out, HO1.out] at cc
        refine cc.mono ?_
        clear cc
        rintro e w20 ⟨rfl, b⟩
        have K' := bel_then K b
        replace hC := hC.next b
        replace L1 := L1.next b
        replace L2 := L2.next b
        replace K := K'
        clear K' b
        have hrr : (s1 == s1) = true := beq_self_eq_true _
        have hro : (o1 != o1) = false := bne_self_eq_false _
        go_wp2_with fail
        have cc := ClubTimes_any B2 ys.length d2 ys club (best - 1) w20 L2.sees (by have := L2.small; omega) L2.cap L2.upto
        try unfold GivesNum at cc
        rw [HT1.out, HO2.out] at cc
        refine cc.mono ?_
        clear cc
        rintro e w21 ⟨rfl, b⟩
        have K' := bel_then K b
        replace hC := hC.next b
        replace L1 := L1.next b
        replace L2 := L2.next b
        replace K := K'
        clear K' b
        clear hrr hro L2
        cases o1 with
        | false =>
          clear HLS HS1 HO1 HT1 HO2
          obtain ⟨U, hU⟩ : ∃ U, (summM xs).1 = U := ⟨_, rfl⟩
          have HU := Lib.hid hU
          clear hU
          go_wp2_with fail
          have cc := RaceSummary_any B xs.length d xs w21 L1.sees (by have := L1.small; omega) L1.cap L1.upto
          try unfold GivesNum at cc
          rw [summ_told, HU.out, HO.out] at cc
          refine cc.mono ?_
          clear cc
          rintro e w22 ⟨rfl, b⟩
          have K' := bel_then K b
          replace hC := hC.next b
          replace L1 := L1.next b
          replace K := K'
          clear K' b
          go_wp2_with fail
          have cc := specRaceSummary_any B xs.length d xs w22 L1.sees (by have := L1.small; omega) L1.upto
          try unfold GivesNum at cc
          rw [summ_told, HU.out, HO.out] at cc
          refine cc.mono ?_
          clear cc
          rintro e w23 ⟨rfl, b⟩
          have K' := bel_then K b
          replace hC := hC.next b
          replace L1 := L1.next b
          replace K := K'
          clear K' b
          have huu : (U.toList == U.toList) = true := beq_self_eq_true _
          go_wp2_with fail
          refine (DrawIsReportLine_any A n c w23 hC hm).mono ?_
          rintro e w24 ⟨x, rfl, hx, b⟩
          have K' := bel_then K b
          replace hC := hC.next b
          replace L1 := L1.next b
          replace K := K'
          clear K' b
          go_wp2_with fail
          have U2 : Below w24.heap.size w24 (w24.alloc (.cells #[.string x.name, .string x.club, .int .i64 x.status, .int .i64 x.time] 42)) := (Below.refl _ _).alloc (Nat.le_refl _) _
          have Bx : Blk (w24.alloc (.cells #[.string x.name, .string x.club, .int .i64 x.status, .int .i64 x.time] 42)) w24.heap.size 42 [.string x.name, .string x.club, .int .i64 x.status, .int .i64 x.time] := Blk.at_ rfl
          have KB := bel_then K U2
          clear U2
          generalize (w24.alloc (.cells #[.string x.name, .string x.club, .int .i64 x.status, .int .i64 x.time] 42)) = wz at *
          generalize w24.heap.size = gx at *
          have b := (Quiet.one wz).below wz.heap.size
          refine wp_region_held_drew (S := fun w' => w'.cell? ⟨gx, 0, none⟩ = some (.string x.name) ∧ w'.cell? ⟨gx, 1, none⟩ = some (.string x.club) ∧ w'.cell? ⟨gx, 2, none⟩ = some (.int .i64 x.status) ∧ w'.cell? ⟨gx, 3, none⟩ = some (.int .i64 x.time)) (by kernel_rfl) (by (try dsimp only); exact ⟨(Bx.next b).cell 0, (Bx.next b).cell 1, (Bx.next b).cell 2, (Bx.next b).cell 3⟩) (fun hHeld => ?_)
          have K' := bel_then KB b
          replace Bx := Bx.next b
          replace KB := K'
          clear K' b
          generalize wz.drew = wd at *
          refine wpAnyH_take (i := 0) (v := ?_) rfl (by kernel_rfl) (by kernel_rfl) (by kernel_rfl) (fun _ _ _ h => h) (Or.inl ⟨by rfl, ?_⟩) (by assumption) ?_
          rotate_left 1
          · (intro w hSw; (try dsimp only at hSw); go_simp; try with_reducible rfl)
          simp only [Act.put, List.setIfInBounds_toArray, List.set_cons_zero, List.set_cons_succ, List.getElem_toArray, List.getElem_cons_zero]
          refine wpAnyH_take (i := 2) (v := ?_) rfl (by kernel_rfl) (by kernel_rfl) (by kernel_rfl) (fun _ _ _ h => h) (Or.inl ⟨by rfl, ?_⟩) (by assumption) ?_
          rotate_left 1
          · (intro w hSw; (try dsimp only at hSw); go_simp; try with_reducible rfl)
          simp only [Act.put, List.setIfInBounds_toArray, List.set_cons_zero, List.set_cons_succ, List.getElem_toArray, List.getElem_cons_zero, List.getElem_cons_succ]
          refine wpAnyH_ready (rs := [1]) (by kernel_rfl) (by simp) ?_
          refine AllReadyH.cons rfl (fun K hK => ?_) AllReadyH.nil
          go_simp
          refine (IsReportLine_any x _ hx).mono ?_
          rintro e wa ⟨rfl, b⟩
          have K' := bel_then KB b
          replace Bx := Bx.next b
          replace KB := K'
          clear K' b
          go_wp2_with fail
          refine hK.out _ _ (by (try dsimp only); exact ⟨Bx.cell 0, Bx.cell 1, Bx.cell 2, Bx.cell 3⟩) (fun hHeld => ?_)
          clear hK K
          refine wpAnyH_ready (rs := [3]) (by kernel_rfl) (by simp) ?_
          refine AllReadyH.cons rfl (fun K hK => ?_) AllReadyH.nil
          go_simp
          refine (specIsReportLine_any x _ hx).mono ?_
          rintro e wa ⟨rfl, b⟩
          have K' := bel_then KB b
          replace Bx := Bx.next b
          replace KB := K'
          clear K' b
          go_wp2_with fail
          refine hK.out _ _ (by (try dsimp only); exact ⟨Bx.cell 0, Bx.cell 1, Bx.cell 2, Bx.cell 3⟩) (fun hHeld => ?_)
          clear hK K
          refine wpAnyH_take (i := 4) (v := ?_) rfl (by kernel_rfl) (by kernel_rfl) (by kernel_rfl) (fun _ _ _ h => h) (Or.inl ⟨by rfl, ?_⟩) (by assumption) ?_
          rotate_left 1
          · (intro w hSw; (try dsimp only at hSw); go_simp; try with_reducible rfl)
          simp only [Act.put, List.setIfInBounds_toArray, List.set_cons_zero, List.set_cons_succ, List.getElem_toArray, List.getElem_cons_zero, List.getElem_cons_succ]
          refine wpAnyH_take (i := 5) (v := ?_) rfl (by kernel_rfl) (by kernel_rfl) (by kernel_rfl) (fun _ _ _ h => h) (Or.inl ⟨by rfl, ?_⟩) (by assumption) ?_
          rotate_left 1
          · (intro w hSw; (try dsimp only at hSw); go_simp; try with_reducible rfl)
          simp only [Act.put, List.setIfInBounds_toArray, List.set_cons_zero, List.set_cons_succ, List.getElem_toArray, List.getElem_cons_zero, List.getElem_cons_succ]
          refine wpAnyH_done (by kernel_rfl) ?_ _
          have hbb : (lineB x == lineB x) = true := beq_self_eq_true _
          go_wp2_with fail
          go_ret
          exact ⟨rfl, KB⟩
        | true =>
          cases o2 with
          | false =>
            clear HLS HS1 HO1 HT1 HO2
            obtain ⟨U, hU⟩ : ∃ U, (summM xs).1 = U := ⟨_, rfl⟩
            have HU := Lib.hid hU
            clear hU
            go_wp2_with fail
            have cc := RaceSummary_any B xs.length d xs w21 L1.sees (by have := L1.small; omega) L1.cap L1.upto
            try unfold GivesNum at cc
            rw [summ_told, HU.out, HO.out] at cc
            refine cc.mono ?_
            clear cc
            rintro e w25 ⟨rfl, b⟩
            have K' := bel_then K b
            replace hC := hC.next b
            replace L1 := L1.next b
            replace K := K'
            clear K' b
            go_wp2_with fail
            have cc := specRaceSummary_any B xs.length d xs w25 L1.sees (by have := L1.small; omega) L1.upto
            try unfold GivesNum at cc
            rw [summ_told, HU.out, HO.out] at cc
            refine cc.mono ?_
            clear cc
            rintro e w26 ⟨rfl, b⟩
            have K' := bel_then K b
            replace hC := hC.next b
            replace L1 := L1.next b
            replace K := K'
            clear K' b
            have huu : (U.toList == U.toList) = true := beq_self_eq_true _
            go_wp2_with fail
            refine (DrawIsReportLine_any A n c w26 hC hm).mono ?_
            rintro e w27 ⟨x, rfl, hx, b⟩
            have K' := bel_then K b
            replace hC := hC.next b
            replace L1 := L1.next b
            replace K := K'
            clear K' b
            go_wp2_with fail
            have U2 : Below w27.heap.size w27 (w27.alloc (.cells #[.string x.name, .string x.club, .int .i64 x.status, .int .i64 x.time] 42)) := (Below.refl _ _).alloc (Nat.le_refl _) _
            have Bx : Blk (w27.alloc (.cells #[.string x.name, .string x.club, .int .i64 x.status, .int .i64 x.time] 42)) w27.heap.size 42 [.string x.name, .string x.club, .int .i64 x.status, .int .i64 x.time] := Blk.at_ rfl
            have KB := bel_then K U2
            clear U2
            generalize (w27.alloc (.cells #[.string x.name, .string x.club, .int .i64 x.status, .int .i64 x.time] 42)) = wz at *
            generalize w27.heap.size = gx at *
            have b := (Quiet.one wz).below wz.heap.size
            refine wp_region_held_drew (S := fun w' => w'.cell? ⟨gx, 0, none⟩ = some (.string x.name) ∧ w'.cell? ⟨gx, 1, none⟩ = some (.string x.club) ∧ w'.cell? ⟨gx, 2, none⟩ = some (.int .i64 x.status) ∧ w'.cell? ⟨gx, 3, none⟩ = some (.int .i64 x.time)) (by kernel_rfl) (by (try dsimp only); exact ⟨(Bx.next b).cell 0, (Bx.next b).cell 1, (Bx.next b).cell 2, (Bx.next b).cell 3⟩) (fun hHeld => ?_)
            have K' := bel_then KB b
            replace Bx := Bx.next b
            replace KB := K'
            clear K' b
            generalize wz.drew = wd at *
            refine wpAnyH_take (i := 0) (v := ?_) rfl (by kernel_rfl) (by kernel_rfl) (by kernel_rfl) (fun _ _ _ h => h) (Or.inl ⟨by rfl, ?_⟩) (by assumption) ?_
            rotate_left 1
            · (intro w hSw; (try dsimp only at hSw); go_simp; try with_reducible rfl)
            simp only [Act.put, List.setIfInBounds_toArray, List.set_cons_zero, List.set_cons_succ, List.getElem_toArray, List.getElem_cons_zero]
            refine wpAnyH_take (i := 2) (v := ?_) rfl (by kernel_rfl) (by kernel_rfl) (by kernel_rfl) (fun _ _ _ h => h) (Or.inl ⟨by rfl, ?_⟩) (by assumption) ?_
            rotate_left 1
            · (intro w hSw; (try dsimp only at hSw); go_simp; try with_reducible rfl)
            simp only [Act.put, List.setIfInBounds_toArray, List.set_cons_zero, List.set_cons_succ, List.getElem_toArray, List.getElem_cons_zero, List.getElem_cons_succ]
            refine wpAnyH_ready (rs := [1]) (by kernel_rfl) (by simp) ?_
            refine AllReadyH.cons rfl (fun K hK => ?_) AllReadyH.nil
            go_simp
            refine (IsReportLine_any x _ hx).mono ?_
            rintro e wa ⟨rfl, b⟩
            have K' := bel_then KB b
            replace Bx := Bx.next b
            replace KB := K'
            clear K' b
            go_wp2_with fail
            refine hK.out _ _ (by (try dsimp only); exact ⟨Bx.cell 0, Bx.cell 1, Bx.cell 2, Bx.cell 3⟩) (fun hHeld => ?_)
            clear hK K
            refine wpAnyH_ready (rs := [3]) (by kernel_rfl) (by simp) ?_
            refine AllReadyH.cons rfl (fun K hK => ?_) AllReadyH.nil
            go_simp
            refine (specIsReportLine_any x _ hx).mono ?_
            rintro e wa ⟨rfl, b⟩
            have K' := bel_then KB b
            replace Bx := Bx.next b
            replace KB := K'
            clear K' b
            go_wp2_with fail
            refine hK.out _ _ (by (try dsimp only); exact ⟨Bx.cell 0, Bx.cell 1, Bx.cell 2, Bx.cell 3⟩) (fun hHeld => ?_)
            clear hK K
            refine wpAnyH_take (i := 4) (v := ?_) rfl (by kernel_rfl) (by kernel_rfl) (by kernel_rfl) (fun _ _ _ h => h) (Or.inl ⟨by rfl, ?_⟩) (by assumption) ?_
            rotate_left 1
            · (intro w hSw; (try dsimp only at hSw); go_simp; try with_reducible rfl)
            simp only [Act.put, List.setIfInBounds_toArray, List.set_cons_zero, List.set_cons_succ, List.getElem_toArray, List.getElem_cons_zero, List.getElem_cons_succ]
            refine wpAnyH_take (i := 5) (v := ?_) rfl (by kernel_rfl) (by kernel_rfl) (by kernel_rfl) (fun _ _ _ h => h) (Or.inl ⟨by rfl, ?_⟩) (by assumption) ?_
            rotate_left 1
            · (intro w hSw; (try dsimp only at hSw); go_simp; try with_reducible rfl)
            simp only [Act.put, List.setIfInBounds_toArray, List.set_cons_zero, List.set_cons_succ, List.getElem_toArray, List.getElem_cons_zero, List.getElem_cons_succ]
            refine wpAnyH_done (by kernel_rfl) ?_ _
            have hbb : (lineB x == lineB x) = true := beq_self_eq_true _
            go_wp2_with fail
            go_ret
            exact ⟨rfl, KB⟩
          | true =>
            have hlt := HLS.out rfl rfl
            clear HLS HS1 HO1 HT1 HO2
            obtain ⟨U, hU⟩ : ∃ U, (summM xs).1 = U := ⟨_, rfl⟩
            have HU := Lib.hid hU
            clear hU
            go_wp2_with fail
            have cc := RaceSummary_any B xs.length d xs w21 L1.sees (by have := L1.small; omega) L1.cap L1.upto
            try unfold GivesNum at cc
            rw [summ_told, HU.out, HO.out] at cc
            refine cc.mono ?_
            clear cc
            rintro e w28 ⟨rfl, b⟩
            have K' := bel_then K b
            replace hC := hC.next b
            replace L1 := L1.next b
            replace K := K'
            clear K' b
            go_wp2_with fail
            have cc := specRaceSummary_any B xs.length d xs w28 L1.sees (by have := L1.small; omega) L1.upto
            try unfold GivesNum at cc
            rw [summ_told, HU.out, HO.out] at cc
            refine cc.mono ?_
            clear cc
            rintro e w29 ⟨rfl, b⟩
            have K' := bel_then K b
            replace hC := hC.next b
            replace L1 := L1.next b
            replace K := K'
            clear K' b
            have huu : (U.toList == U.toList) = true := beq_self_eq_true _
            go_wp2_with fail
            refine (DrawIsReportLine_any A n c w29 hC hm).mono ?_
            rintro e w30 ⟨x, rfl, hx, b⟩
            have K' := bel_then K b
            replace hC := hC.next b
            replace L1 := L1.next b
            replace K := K'
            clear K' b
            go_wp2_with fail
            have U2 : Below w30.heap.size w30 (w30.alloc (.cells #[.string x.name, .string x.club, .int .i64 x.status, .int .i64 x.time] 42)) := (Below.refl _ _).alloc (Nat.le_refl _) _
            have Bx : Blk (w30.alloc (.cells #[.string x.name, .string x.club, .int .i64 x.status, .int .i64 x.time] 42)) w30.heap.size 42 [.string x.name, .string x.club, .int .i64 x.status, .int .i64 x.time] := Blk.at_ rfl
            have KB := bel_then K U2
            clear U2
            generalize (w30.alloc (.cells #[.string x.name, .string x.club, .int .i64 x.status, .int .i64 x.time] 42)) = wz at *
            generalize w30.heap.size = gx at *
            have b := (Quiet.one wz).below wz.heap.size
            refine wp_region_held_drew (S := fun w' => w'.cell? ⟨gx, 0, none⟩ = some (.string x.name) ∧ w'.cell? ⟨gx, 1, none⟩ = some (.string x.club) ∧ w'.cell? ⟨gx, 2, none⟩ = some (.int .i64 x.status) ∧ w'.cell? ⟨gx, 3, none⟩ = some (.int .i64 x.time)) (by kernel_rfl) (by (try dsimp only); exact ⟨(Bx.next b).cell 0, (Bx.next b).cell 1, (Bx.next b).cell 2, (Bx.next b).cell 3⟩) (fun hHeld => ?_)
            have K' := bel_then KB b
            replace Bx := Bx.next b
            replace KB := K'
            clear K' b
            generalize wz.drew = wd at *
            refine wpAnyH_take (i := 0) (v := ?_) rfl (by kernel_rfl) (by kernel_rfl) (by kernel_rfl) (fun _ _ _ h => h) (Or.inl ⟨by rfl, ?_⟩) (by assumption) ?_
            rotate_left 1
            · (intro w hSw; (try dsimp only at hSw); go_simp; try with_reducible rfl)
            simp only [Act.put, List.setIfInBounds_toArray, List.set_cons_zero, List.set_cons_succ, List.getElem_toArray, List.getElem_cons_zero]
            refine wpAnyH_take (i := 2) (v := ?_) rfl (by kernel_rfl) (by kernel_rfl) (by kernel_rfl) (fun _ _ _ h => h) (Or.inl ⟨by rfl, ?_⟩) (by assumption) ?_
            rotate_left 1
            · (intro w hSw; (try dsimp only at hSw); go_simp; try with_reducible rfl)
            simp only [Act.put, List.setIfInBounds_toArray, List.set_cons_zero, List.set_cons_succ, List.getElem_toArray, List.getElem_cons_zero, List.getElem_cons_succ]
            refine wpAnyH_ready (rs := [1]) (by kernel_rfl) (by simp) ?_
            refine AllReadyH.cons rfl (fun K hK => ?_) AllReadyH.nil
            go_simp
            refine (IsReportLine_any x _ hx).mono ?_
            rintro e wa ⟨rfl, b⟩
            have K' := bel_then KB b
            replace Bx := Bx.next b
            replace KB := K'
            clear K' b
            go_wp2_with fail
            refine hK.out _ _ (by (try dsimp only); exact ⟨Bx.cell 0, Bx.cell 1, Bx.cell 2, Bx.cell 3⟩) (fun hHeld => ?_)
            clear hK K
            refine wpAnyH_ready (rs := [3]) (by kernel_rfl) (by simp) ?_
            refine AllReadyH.cons rfl (fun K hK => ?_) AllReadyH.nil
            go_simp
            refine (specIsReportLine_any x _ hx).mono ?_
            rintro e wa ⟨rfl, b⟩
            have K' := bel_then KB b
            replace Bx := Bx.next b
            replace KB := K'
            clear K' b
            go_wp2_with fail
            refine hK.out _ _ (by (try dsimp only); exact ⟨Bx.cell 0, Bx.cell 1, Bx.cell 2, Bx.cell 3⟩) (fun hHeld => ?_)
            clear hK K
            refine wpAnyH_take (i := 4) (v := ?_) rfl (by kernel_rfl) (by kernel_rfl) (by kernel_rfl) (fun _ _ _ h => h) (Or.inl ⟨by rfl, ?_⟩) (by assumption) ?_
            rotate_left 1
            · (intro w hSw; (try dsimp only at hSw); go_simp; try with_reducible rfl)
            simp only [Act.put, List.setIfInBounds_toArray, List.set_cons_zero, List.set_cons_succ, List.getElem_toArray, List.getElem_cons_zero, List.getElem_cons_succ]
            refine wpAnyH_take (i := 5) (v := ?_) rfl (by kernel_rfl) (by kernel_rfl) (by kernel_rfl) (fun _ _ _ h => h) (Or.inl ⟨by rfl, ?_⟩) (by assumption) ?_
            rotate_left 1
            · (intro w hSw; (try dsimp only at hSw); go_simp; try with_reducible rfl)
            simp only [Act.put, List.setIfInBounds_toArray, List.set_cons_zero, List.set_cons_succ, List.getElem_toArray, List.getElem_cons_zero, List.getElem_cons_succ]
            refine wpAnyH_done (by kernel_rfl) ?_ _
            have hbb : (lineB x == lineB x) = true := beq_self_eq_true _
            go_wp2_with fail
            go_ret
            exact ⟨rfl, KB⟩

end Go.Proofs.YtbcblmbpjecilaaDoor
