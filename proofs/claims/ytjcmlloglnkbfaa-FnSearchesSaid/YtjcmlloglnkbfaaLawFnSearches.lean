/- The walk of the law FnSearches. -/
import Derived.Test.YtjcmlloglnkbfaaCurD
import Derived.Test.YtjcmlloglnkbfaaCurF
import Derived.Test.YtjcmlloglnkbfaaCurN
import Derived.Test.YtjcmlloglnkbfaaSearchS
import Derived.Test.YtjcmlloglnkbfaaBest2
import Derived.Test.YtjcmlloglnkbfaaRLaw
import Derived.Deep.CutBlock
import Derived.Deep.DeepCutAuto
namespace Go.Proofs.Ytjcmlloglnkbfaa
open Go.RowKit

set_option maxRecDepth 100000 in
set_option maxHeartbeats 40000000 in
theorem FnSearches_any (A : Option Addr) (n c : Nat) (w : World) (hC : CodeIn w A n) (hn : n ≤ 9223372036854775807) :
    Calls Try.prog 12 #[.slice A n c] w fun e w' => e = .returned (.bool true) ∧ Below w.heap.size w w' := by
  have K := Below.refl w.heap.size w
  go_enter Try.func12, Try.ntmps12
  go_wp2_with fail
  refine (rBig_any A n c w hn).mono ?_
  rintro e w' ⟨rfl, rfl⟩
  by_cases hbig : 65536 < n
  · rw [decide_eq_true hbig]
    go_wp2_with fail
    go_ret
    exact ⟨rfl, K⟩
  rw [decide_eq_false hbig]
  go_wp2_with fail
  refine (DrawBestSectors_any A n c w hC (by omega)).mono ?_
  rintro e w1 ⟨B, m, d, xs, s, rfl, S1, b⟩
  have K1 := bel_then K b
  replace hC := hC.next b
  clear K b
  have hm36 := S1.small
  go_wp2_with fail
  refine (BestSectors_any B m d xs s w1 S1.sees (by omega)).mono ?_
  rintro e w2 ⟨AF, cF, rfl, oF, b⟩
  have K2 := bel_then K1 b
  replace hC := hC.next b
  replace S1 := S1.next b
  have SF := (Sees.of_own oF).less (Nat.zero_le _)
  clear K1 b oF
  go_wp2_with fail
  refine (specBestSectors_any B m d xs s w2 S1.sees (by omega)).mono ?_
  rintro e w3 ⟨AG, cG, rfl, oG, b⟩
  have K3 := bel_then K2 b
  replace hC := hC.next b
  replace S1 := S1.next b
  replace SF := SF.next b
  have SG := (Sees.of_own oG).less (Nat.zero_le _)
  clear K2 b oG
  have hFl := bestM_len xs s
  obtain ⟨F, hF⟩ : ∃ F, (bestM xs s).getD [] = F := ⟨_, rfl⟩
  obtain ⟨o0, ho0⟩ : ∃ o0, (bestM xs s).isSome = o0 := ⟨_, rfl⟩
  rw [hF] at SF SG hFl
  rw [hF, ho0]
  have hoo : (o0 != o0) = false := bne_self_eq_false o0
  go_wp2_with fail
  refine (rInts_any AF AG _ _ cF cG 0 0 F F w3 SF SG rfl (by omega)).mono ?_
  rintro e w4 ⟨rfl, qq⟩
  have b := qq.below w3.heap.size
  have K4 := bel_then K3 b
  replace hC := hC.next b
  replace S1 := S1.next b
  replace SF := SF.next b
  clear K3 qq b SG
  have HB := Lib.hid (show o0 = true → bestM xs s = some F by
    intro h1
    cases hR : bestM xs s with
    | none => rw [hR] at ho0; rw [← ho0] at h1; cases h1
    | some S => rw [hR] at hF; simp only [Option.getD_some] at hF; rw [hF])
  clear hoo hF ho0
  have HLn := Lib.hid S1.len
  go_upto_block 0 with fail
  go_cut [9] (fun lv wc => ∃ L : Int, lv = .int .i64 L ∧ Hid (o0 = true → LeastAt F xs m L) ∧ Quiet w4 wc)
  case first => as_aux_lemma =>
    go_wp2_with fail
    cases o0
    · go_loopw [9, 10] (fun lv iv wr => iv = .int .i64 0 ∧ lv = .int .i64 101 ∧ wr = w4) (fun _ _ _ => 0)
      case atStart => exact ⟨rfl, rfl, rfl⟩
      case round =>
        obtain ⟨rfl, rfl, rfl⟩ := hrel
        rcases Nat.eq_zero_or_pos m with rfl | h0
        · go_wp2_with fail
          go_meet
          exact ⟨_, rfl, Lib.hid (fun h => by cases h), Quiet.refl _⟩
        · go_wp2_with fail
          go_meet
          exact ⟨_, rfl, Lib.hid (fun h => by cases h), Quiet.refl _⟩
    · go_loopw [9, 10] (fun lv iv wr => ∃ (k : Nat) (L : Int), k ≤ m ∧ iv = .int .i64 (k : Int) ∧ lv = .int .i64 L ∧ Hid (LeastAt F xs k L) ∧ Quiet w4 wr) (fun _ iv _ => m - (intOf iv).toNat)
      case atStart => exact ⟨0, 101, Nat.zero_le _, rfl, rfl, Lib.hid (least_zero _ _), Quiet.refl _⟩
      case round =>
        obtain ⟨k, L, hk, rfl, rfl, hLk, hq⟩ := hrel
        by_cases hlt : k < m
        · have b := hq.below w4.heap.size
          obtain ⟨b1, off, rfl, hkx, x0, x1⟩ := (S1.next b).sees.elem2 (fun _ => rfl) hlt
          have hb1 := World.block_lt_of_cell? wr _ x0
          have HN := Lib.hid (least_next hkx hLk.out)
          have HT := Lib.hid (least_take (cs := F) hkx)
          have SW := SF.next b
          clear b
          go_wp2_with fail
          refine (rHas_any AF _ cF F xs[k].cell wr SW (by omega)).mono ?_
          rintro e w5 ⟨rfl, qq⟩
          have b5 := qq.below wr.heap.size
          have y1 := (b5.cell (p := ⟨b1, off + k * 2 + 1, none⟩) hb1).trans x1
          clear b5 x0 x1
          cases hh : hasI F xs[k].cell
          · go_wp2_with fail
            go_roundw
            case rel => exact ⟨k + 1, L, by omega, by go_num, rfl, HN, hq.trans qq⟩
            case measure => simp [intOf]; omega
          · have HT2 := Lib.hid (HT.out hh)
            clear HT hh
            by_cases hc : xs[k].chance < L
            · go_wp2_with fail
              go_roundw
              case rel => exact ⟨k + 1, xs[k].chance, by omega, by go_num, rfl, HT2, hq.trans qq⟩
              case measure => simp [intOf]; omega
            · go_wp2_with fail
              go_roundw
              case rel => exact ⟨k + 1, L, by omega, by go_num, rfl, HN, hq.trans qq⟩
              case measure => simp [intOf]; omega
        · obtain rfl : m = k := by omega
          go_wp2_with fail
          go_meet
          exact ⟨_, rfl, Lib.hid (fun _ => hLk.out), hq⟩
  case rest =>
    obtain ⟨L, rfl, hLk, hq⟩ := hcut
    obtain ⟨w5, hw5⟩ : ∃ w5 : World, w5 = wc := ⟨_, rfl⟩
    subst hw5
    have b := hq.below w4.heap.size
    have K5 := bel_then K4 b
    replace hC := hC.next b
    replace S1 := S1.next b
    replace SF := SF.next b
    clear K4 b hq
    go_upto_block 2 with fail
    go_cut [] (fun wc => Quiet w5 wc)
    case first => as_aux_lemma =>
      go_wp2_with fail
      cases o0
      · go_loopw [11] (fun iv wr => iv = .int .i64 0 ∧ wr = w5) (fun _ _ => 0)
        case atStart => exact ⟨rfl, rfl⟩
        case round =>
          obtain ⟨rfl, rfl⟩ := hrel
          rcases Nat.eq_zero_or_pos m with rfl | h0
          · go_wp2_with fail
            go_meet
            exact Quiet.refl _
          · go_wp2_with fail
            go_meet
            exact Quiet.refl _
      · have hFs := Lib.hid (HB.out rfl)
        have HLk := Lib.hid (hLk.out rfl)
        go_loopw [11] (fun iv wr => ∃ k : Nat, k ≤ m ∧ iv = .int .i64 (k : Int) ∧ Quiet w5 wr) (fun iv _ => m - (intOf iv).toNat)
        case atStart => exact ⟨0, Nat.zero_le _, rfl, Quiet.refl _⟩
        case round =>
          obtain ⟨k, hk, rfl, hq⟩ := hrel
          by_cases hlt : k < m
          · have b := hq.below w5.heap.size
            obtain ⟨b1, off, rfl, hkx, x0, x1⟩ := (S1.next b).sees.elem2 (fun _ => rfl) hlt
            have hb1 := World.block_lt_of_cell? wr _ x0
            have HT := Lib.hid (fun hh => least_end (i := k) hFs.out HLk.out hkx hh)
            have SW := SF.next b
            clear b
            go_wp2_with fail
            refine (rHas_any AF _ cF F xs[k].cell wr SW (by omega)).mono ?_
            rintro e w6 ⟨rfl, qq⟩
            have b5 := qq.below wr.heap.size
            have y1 := (b5.cell (p := ⟨b1, off + k * 2 + 1, none⟩) hb1).trans x1
            clear b5 x0 x1
            cases hh : hasI F xs[k].cell
            · have hnl := HT.out hh
              clear HT hh
              go_wp2_with fail
              go_roundw
              case rel => exact ⟨k + 1, by omega, by go_num, hq.trans qq⟩
              case measure => simp [intOf]; omega
            · clear HT hh
              go_wp2_with fail
              go_roundw
              case rel => exact ⟨k + 1, by omega, by go_num, hq.trans qq⟩
              case measure => simp [intOf]; omega
          · obtain rfl : m = k := by omega
            go_wp2_with fail
            go_meet
            exact hq
    case rest =>
      obtain ⟨w6, hw6⟩ : ∃ w6 : World, w6 = wc := ⟨_, rfl⟩
      subst hw6
      have b := hcut.below w5.heap.size
      have K6 := bel_then K5 b
      replace hC := hC.next b
      clear S1 SF hLk HLn HB K5 b hcut hFl hm36
      go_wp2_with fail
      refine (DrawAfterSearch_any A n c w6 hC (by omega)).mono ?_
      rintro e w1 ⟨B1, m1, d1, ys, cl, pc, rfl, S1, b⟩
      have K1 := bel_then K6 b
      replace hC := hC.next b
      clear K6 b
      have hm36 := S1.small
      go_wp2_with fail
      refine (AfterSearch_any B1 m1 d1 ys cl pc w1 S1.sees (by omega)).mono ?_
      rintro e w2 ⟨AF, cF, rfl, oF, b⟩
      have K2 := bel_then K1 b
      replace hC := hC.next b
      replace S1 := S1.next b
      have SF := (Sees.of_own oF).less (Nat.zero_le _)
      clear K1 b oF
      go_wp2_with fail
      refine (specAfterSearch_any B1 m1 d1 ys cl pc w2 S1.sees (by omega)).mono ?_
      rintro e w3 ⟨AG, cG, rfl, oG, b⟩
      have K3 := bel_then K2 b
      replace hC := hC.next b
      replace S1 := S1.next b
      replace SF := SF.next b
      have SG := (Sees.of_own oG).less (Nat.zero_le _)
      clear K2 b oG
      have hFl := afterSearch_len cl pc ys
      have hyl : ys.length ≤ 36 := by rw [S1.len]; exact S1.small
      obtain ⟨F2, hF⟩ : ∃ F, (afterSearch cl pc ys).getD [] = F := ⟨_, rfl⟩
      obtain ⟨o1, ho0⟩ : ∃ o0, (afterSearch cl pc ys).isSome = o0 := ⟨_, rfl⟩
      rw [hF] at SF SG hFl
      rw [hF, ho0]
      have hoo : (o1 != o1) = false := bne_self_eq_false o1
      go_wp2_with fail
      refine (rSectors_any AF AG _ _ cF cG 0 0 F2 F2 w3 SF SG rfl (by omega)).mono ?_
      rintro e w4 ⟨rfl, qq⟩
      have b := qq.below w3.heap.size
      have K4 := bel_then K3 b
      replace hC := hC.next b
      replace S1 := S1.next b
      replace SF := SF.next b
      clear K3 qq b SG
      have HB := Lib.hid (show o1 = true → sumC F2 ≤ sumC ys ∧ (pc = 0 → sumC F2 = sumC ys) ∧ (pc = 100 → F2.length + 1 = ys.length) ∧ ∀ x ∈ F2, SecOk x by
        intro h1
        cases hR : afterSearch cl pc ys with
        | none => rw [hR] at ho0; rw [← ho0] at h1; cases h1
        | some S => rw [hR] at hF; simp only [Option.getD_some] at hF; rw [hF] at hR; exact after_facts hR)
      clear hoo hF ho0
      have HLn := Lib.hid S1.len
      go_upto_if 156 with fail
      go_cut [] (fun wc => Quiet w4 wc)
      case first => as_aux_lemma =>
        cases o1
        · go_wp2_with fail
          go_meet
          exact Quiet.refl _
        · obtain ⟨f1, f2, f3, f4⟩ := HB.out rfl
          have F1 := Lib.hid f1
          have F2' := Lib.hid f2
          have F3 := Lib.hid f3
          have F4 := Lib.hid f4
          clear f1 f2 f3 f4 HB
          go_wp2_with fail
          go_loopw [19, 21] (fun sv iv wr => ∃ (k : Nat) (T : Int), k ≤ m1 ∧ iv = .int .i64 (k : Int) ∧ sv = .int .i64 T ∧ Hid (sumC (ys.take k) = T) ∧ Quiet w4 wr) (fun _ iv _ => m1 - (intOf iv).toNat)
          case atStart => exact ⟨0, 0, Nat.zero_le _, rfl, rfl, Lib.hid rfl, Quiet.refl _⟩
          case round =>
            obtain ⟨k, T, hk, rfl, rfl, HT, hq⟩ := hrel
            by_cases hlt : k < m1
            · have b := hq.below w4.heap.size
              obtain ⟨b1, off, rfl, hkx, x0, x1⟩ := (S1.next b).sees.elem2 (fun _ => rfl) hlt
              have t0 := sumC_at S1.ok hyl k
              rw [HT.out] at t0
              have t1 := S1.ok ys[k] (List.getElem_mem hkx)
              obtain ⟨t2, t3⟩ : 0 ≤ ys[k].chance ∧ ys[k].chance ≤ 101 := t1
              have HN := Lib.hid ((sumC_next hkx).trans (by rw [HT.out]))
              clear b
              go_wp2_with fail
              go_roundw
              case rel => exact ⟨k + 1, T + ys[k].chance, by omega, by go_num, rfl, HN, hq⟩
              case measure => simp [intOf]; omega
            · obtain rfl : m1 = k := by omega
              have HT2 := Lib.hid (show sumC ys = T by rw [← HT.out, List.take_of_length_le (by rw [HLn.out]; exact Nat.le_refl _)])
              have t0 := sumC_at S1.ok hyl m1
              rw [HT.out] at t0
              clear hlt HT
              obtain ⟨wo, hwo⟩ : ∃ wo : World, wo = wr := ⟨_, rfl⟩
              subst hwo
              have SF2 := SF.quiet hq
              have hFc := Lib.hid (show F2.length = F2.length from rfl)
              have hF36 : F2.length ≤ 36 := by omega
              go_wp2_with fail
              go_loopw [20, 22] (fun sv iv wr => ∃ (k : Nat) (T2 : Int), k ≤ F2.length ∧ iv = .int .i64 (k : Int) ∧ sv = .int .i64 T2 ∧ Hid (sumC (F2.take k) = T2) ∧ Quiet wo wr) (fun _ iv _ => F2.length - (intOf iv).toNat)
              case atStart => exact ⟨0, 0, Nat.zero_le _, rfl, rfl, Lib.hid rfl, Quiet.refl _⟩
              case round =>
                obtain ⟨k, T2, hk, rfl, rfl, HT, hq2⟩ := hrel
                by_cases hlt : k < F2.length
                · obtain ⟨b1, off, rfl, hkx, x0, x1⟩ := (SF2.quiet hq2).elem2 (fun _ => rfl) hlt
                  have t4 := sumC_at F4.out hF36 k
                  rw [HT.out] at t4
                  have t1 := F4.out F2[k] (List.getElem_mem hkx)
                  obtain ⟨t2, t3⟩ : 0 ≤ F2[k].chance ∧ F2[k].chance ≤ 101 := t1
                  have HN := Lib.hid ((sumC_next hkx).trans (by rw [HT.out]))
                  go_wp2_with fail
                  go_roundw
                  case rel => exact ⟨k + 1, T2 + F2[k].chance, by omega, by go_num, rfl, HN, hq2⟩
                  case measure => simp [intOf]; omega
                · have hkF : k = F2.length := by omega
                  have HT3 := Lib.hid (show sumC F2 = T2 by rw [← HT.out, List.take_of_length_le (by omega)])
                  have g1 : ¬ T < T2 := by rw [← HT2.out, ← HT3.out]; exact Int.not_lt.2 F1.out
                  have g2 := F2'.out
                  rw [HT2.out, HT3.out] at g2
                  have g3 := F3.out
                  have g4 := HLn.out
                  have hwl : IntKind.i64.wrap ((m1 : Int) - 1) = (m1 : Int) - 1 := IntWalk.i64_in _ (by omega)
                  have hqq := hq.trans hq2
                  by_cases p0 : pc = 0
                  · have g5 := g2 p0
                    have n1 : (T2 != T) = false := by rw [g5]; exact bne_self_eq_false T
                    have n2 : (pc == 100) = false := beq_eq_false_iff_ne.2 (by omega)
                    have n3 : (pc == 0) = true := beq_iff_eq.2 p0
                    clear g2 g3 g4 g5 p0 hkF
                    go_wp2_with fail
                    go_meet
                    exact hqq
                  · have n3 : (pc == 0) = false := beq_eq_false_iff_ne.2 p0
                    by_cases p1 : pc = 100
                    · have g5 := g3 p1
                      have n2 : (pc == 100) = true := beq_iff_eq.2 p1
                      have n4 : ((F2.length : Int) != (m1 : Int) - 1) = false := by simp; omega
                      clear g2 g3 g4 g5 p0 p1 hkF
                      go_wp2_with fail
                      go_meet
                      exact hqq
                    · have n2 : (pc == 100) = false := beq_eq_false_iff_ne.2 p1
                      clear g2 g3 g4 p0 p1 hkF
                      go_wp2_with fail
                      go_meet
                      exact hqq
      case rest =>
        obtain ⟨w5, hw5⟩ : ∃ w5 : World, w5 = wc := ⟨_, rfl⟩
        subst hw5
        have b := hcut.below w4.heap.size
        have K5 := bel_then K4 b
        replace hC := hC.next b
        clear S1 SF HLn HB K4 b hcut hFl hm36 hyl
        go_wp2_with fail
        refine (DrawFoundChance_any A n c w5 hC (by omega)).mono ?_
        rintro e w1 ⟨B1, m1, d1, us, B2, m2, d2, cs, rfl, S1, S2, hm2, b⟩
        have K1 := bel_then K5 b
        replace hC := hC.next b
        clear K5 b
        have hm36 := S1.small
        go_wp2_with fail
        refine (FoundChance_any B1 B2 m1 d1 m2 d2 us cs w1 S1.sees (by omega) S2 (by omega)).mono ?_
        rintro e w2 ⟨rfl, b⟩
        have K2 := bel_then K1 b
        replace hC := hC.next b
        replace S1 := S1.next b
        replace S2 := S2.next b
        clear K1 b
        go_wp2_with fail
        refine (specFoundChance_any B1 B2 m1 d1 m2 d2 us cs w2 S1.sees (by omega) S2 (by omega)).mono ?_
        rintro e w3 ⟨rfl, b⟩
        have K3 := bel_then K2 b
        replace hC := hC.next b
        replace S1 := S1.next b
        clear K2 b S2
        cases hR : foundChance cs us with
        | none =>
          simp only [Option.getD_none, Option.isSome_none]
          clear S1 hR hm36 hm2
          go_wp2_with fail
          have K0 := K3
          clear K3
          refine (DrawLongMissing_any A n c w3 hC (by omega)).mono ?_
          rintro e w1 ⟨B1, m1, d1, zs, ti, li, rfl, S1, hm1, b⟩
          have K1 := bel_then K0 b
          clear K0 b hC
          go_wp2_with fail
          refine (LongMissing_any B1 m1 d1 zs ti li w1 S1 (by omega)).mono ?_
          rintro e w2 ⟨AF, cF, rfl, oF, b⟩
          have K2 := bel_then K1 b
          replace S1 := S1.next b
          have SF := (Sees.of_own oF).less (Nat.zero_le _)
          clear K1 b oF
          go_wp2_with fail
          refine (specLongMissing_any B1 m1 d1 zs ti li w2 S1 (by omega)).mono ?_
          rintro e w3 ⟨AG, cG, rfl, oG, b⟩
          have K3 := bel_then K2 b
          replace SF := SF.next b
          have SG := (Sees.of_own oG).less (Nat.zero_le _)
          have hFl := longM_len ti li zs
          have hzl : zs.length = m1 := S1.count (by decide) (fun _ => rfl)
          have hFm : ((longMissing ti li zs).getD []).length ≤ 30 := by omega
          clear K2 b oG S1 hFl hzl
          generalize (longMissing ti li zs).getD [] = F2 at *
          generalize (longMissing ti li zs).isSome = o2 at *
          have hoo : (o2 == o2) = true := beq_self_eq_true _
          go_wp2_with fail
          refine (rInts_any AF AG _ _ cF cG 0 0 F2 F2 w3 SF SG rfl (by omega)).mono ?_
          rintro e w4 ⟨rfl, qq⟩
          have K4 := bel_then K3 (qq.below w3.heap.size)
          clear K3 qq SF SG
          go_wp2_with fail
          go_ret
          exact ⟨rfl, K4⟩
        | some p =>
          obtain ⟨p1, p2⟩ := p
          obtain ⟨hp1, hp2⟩ := found_between hR
          simp only at hp1 hp2
          have HA := Lib.hid (found_all (found_good hR))
          simp only [Option.getD_some, Option.isSome_some]
          have n1 : (p1 != p1) = false := bne_self_eq_false _
          have n2 : (p2 != p2) = false := bne_self_eq_false _
          have n3 : ¬ p1 < 0 := by omega
          have n4 : ¬ p2 < p1 := by omega
          clear hR hm2 hp1 hp2
          have HLn := Lib.hid S1.len
          go_wp2_with fail
          go_loopw [31, 32] (fun v iv wr => ∃ (k : Nat) (A' : Option Addr) (c' : Nat), k ≤ m1 ∧ iv = .int .i64 (k : Int) ∧ v = .slice A' k c' ∧ wr.ownsRow w3.heap.size 3 1 (.slice A' k c') k (ints ((us.take k).map Sector.cell)) ∧ Below w3.heap.size w3 wr) (fun _ iv _ => m1 - (intOf iv).toNat)
          case atStart => exact ⟨0, _, _, Nat.zero_le _, rfl, rfl, own_empty w3 3 1, (Below.refl _ _).alloc (Nat.le_refl _) _⟩
          case round =>
            obtain ⟨k, A', c', hk, rfl, rfl, ho, hb⟩ := hrel
            by_cases hlt : k < m1
            · obtain ⟨b1, off, rfl, hkx, x0, x1⟩ := (S1.next hb).sees.elem2 (fun _ => rfl) hlt
              have hb1 := World.block_lt_of_cell? wr _ x0
              have HN := Lib.hid (show ints ((us.take k).map Sector.cell) ++ [.int .i64 us[k].cell] = ints ((us.take (k + 1)).map Sector.cell) by rw [ints_snoc, List.take_succ_eq_append_getElem hkx, List.map_append]; rfl)
              go_wp2_with (at_builtin; go_loud (refine wpList_pushNew rfl _ _ _ rfl Try.underlying22 info_int rfl (by decide) rfl ho rfl (by simp) (by rfl) (by rfl) (by omega) (by decide) (by first | omega | (have := hb.size; simp; omega)) ?_); intro A3 c3 w6 o3 h3 b3 q3)
              go_roundw
              case rel => exact ⟨k + 1, A3, c3, by omega, by go_num, rfl, by rw [← HN.out]; exact o3, hb.trans (b3.mono (by have := hb.size; omega))⟩
              case measure => simp [intOf]; omega
            · obtain rfl : m1 = k := by omega
              obtain ⟨wo, hwo⟩ : ∃ wo : World, wo = wr := ⟨_, rfl⟩
              subst hwo
              have S1' := S1.next hb
              have SA := (Sees.of_own ho).less (Nat.zero_le _)
              rw [List.take_of_length_le (by rw [HLn.out]; exact Nat.le_refl _)] at SA
              have K4 := bel_then K3 hb
              replace hC := hC.next hb
              clear S1 ho hb K3
              go_wp2_with fail
              refine (FoundChance_any B1 A' m1 d1 m1 c' us _ wo S1'.sees (by omega) SA (by omega)).mono ?_
              rw [HA.out]
              rintro e w7 ⟨rfl, b⟩
              simp only [Option.getD_some, Option.isSome_some]
              have K0 := bel_then K4 b
              replace hC := hC.next b
              clear K4 b S1' SA HA HLn hlt n1 n2 n3 n4 hm36 hk
              have q1 : ((1 : Int) != 1) = false := rfl
              go_wp2_with fail
              refine (DrawLongMissing_any A n c w7 hC (by omega)).mono ?_
              rintro e w1 ⟨B1, m1, d1, zs, ti, li, rfl, S1, hm1, b⟩
              have K1 := bel_then K0 b
              clear K0 b hC
              go_wp2_with fail
              refine (LongMissing_any B1 m1 d1 zs ti li w1 S1 (by omega)).mono ?_
              rintro e w2 ⟨AF, cF, rfl, oF, b⟩
              have K2 := bel_then K1 b
              replace S1 := S1.next b
              have SF := (Sees.of_own oF).less (Nat.zero_le _)
              clear K1 b oF
              go_wp2_with fail
              refine (specLongMissing_any B1 m1 d1 zs ti li w2 S1 (by omega)).mono ?_
              rintro e w3 ⟨AG, cG, rfl, oG, b⟩
              have K3 := bel_then K2 b
              replace SF := SF.next b
              have SG := (Sees.of_own oG).less (Nat.zero_le _)
              have hFl := longM_len ti li zs
              have hzl : zs.length = m1 := S1.count (by decide) (fun _ => rfl)
              have hFm : ((longMissing ti li zs).getD []).length ≤ 30 := by omega
              clear K2 b oG S1 hFl hzl
              generalize (longMissing ti li zs).getD [] = F2 at *
              generalize (longMissing ti li zs).isSome = o2 at *
              have hoo : (o2 == o2) = true := beq_self_eq_true _
              go_wp2_with fail
              refine (rInts_any AF AG _ _ cF cG 0 0 F2 F2 w3 SF SG rfl (by omega)).mono ?_
              rintro e w4 ⟨rfl, qq⟩
              have K4 := bel_then K3 (qq.below w3.heap.size)
              clear K3 qq SF SG
              go_wp2_with fail
              go_ret
              exact ⟨rfl, K4⟩
end Go.Proofs.Ytjcmlloglnkbfaa
