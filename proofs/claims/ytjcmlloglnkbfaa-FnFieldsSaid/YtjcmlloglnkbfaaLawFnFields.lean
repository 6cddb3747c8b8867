/- The walk of the law FnFields. -/
import Derived.Test.YtjcmlloglnkbfaaCurW
import Derived.Test.YtjcmlloglnkbfaaFieldP
namespace Go.Proofs.Ytjcmlloglnkbfaa
open Go.RowKit

set_option maxRecDepth 100000 in
set_option maxHeartbeats 40000000 in
theorem FnFields_any (A : Option Addr) (n c : Nat) (w : World) (hC : CodeIn w A n) (hn : n ≤ 9223372036854775807) :
    Calls Try.prog 11 #[.slice A n c] w fun e w' => e = .returned (.bool true) ∧ Below w.heap.size w w' := by
  have K := Below.refl w.heap.size w
  go_enter Try.func11, Try.ntmps11
  go_wp2_with fail
  refine (rBig_any A n c w hn).mono ?_
  rintro e w' ⟨rfl, rfl⟩
  by_cases hbig : 65536 < n
  · rw [decide_eq_true hbig]
    go_wp2_with fail
    go_ret
    exact ⟨rfl, K⟩
  rw [decide_eq_false hbig]
  go_wp2_with fail
  refine (drawFieldOf_any w A n c hC (by omega)).mono ?_
  rintro e w1 ⟨m, A1, n1, c1, A2, n2, c2, x, pace, time, rfl, s, hs, b, _, _⟩
  have K' := bel_then K b
  replace hC := hC.next b
  replace K := K'
  clear K' b
  go_wp2_with fail
  have U : Below w1.heap.size w1 ((w1.alloc (.cells #[.int .i64 m.width, .int .i64 m.height, .slice A1 n1 c1, .slice A2 n2 c2] 29)).alloc (.cells #[.int .i64 x.runner, .int .i64 x.start, .int .i64 x.seen, .int .i64 x.place] 31)) := two _ _ _
  have Bm : Blk ((w1.alloc (.cells #[.int .i64 m.width, .int .i64 m.height, .slice A1 n1 c1, .slice A2 n2 c2] 29)).alloc (.cells #[.int .i64 x.runner, .int .i64 x.start, .int .i64 x.seen, .int .i64 x.place] 31)) w1.heap.size 29 [.int .i64 m.width, .int .i64 m.height, .slice A1 n1 c1, .slice A2 n2 c2] := (Blk.at_ rfl : Blk (w1.alloc _) w1.heap.size 29 [.int .i64 m.width, .int .i64 m.height, .slice A1 n1 c1, .slice A2 n2 c2]).next ((Below.refl _ _).alloc (Nat.le_refl _) _)
  have Bx : Blk ((w1.alloc (.cells #[.int .i64 m.width, .int .i64 m.height, .slice A1 n1 c1, .slice A2 n2 c2] 29)).alloc (.cells #[.int .i64 x.runner, .int .i64 x.start, .int .i64 x.seen, .int .i64 x.place] 31)) (w1.heap.size + 1) 31 [.int .i64 x.runner, .int .i64 x.start, .int .i64 x.seen, .int .i64 x.place] := Blk.at_ (by simp)
  have K' := bel_then K U
  replace hC := hC.next U
  replace s := s.next U
  replace K := K'
  clear K' U
  generalize ((w1.alloc (.cells #[.int .i64 m.width, .int .i64 m.height, .slice A1 n1 c1, .slice A2 n2 c2] 29)).alloc (.cells #[.int .i64 x.runner, .int .i64 x.start, .int .i64 x.seen, .int .i64 x.place] 31)) = w2 at *
  generalize w1.heap.size + 1 = gx at *
  generalize w1.heap.size = gm at *
  have CBm := Bm.cell
  have CBx := Bx.cell
  have hs' : n1 ≤ 1048576 ∧ n2 ≤ 1048576 := by omega
  refine (FieldOf_any A1 A2 n1 n2 c1 c2 m x pace time w2 s hs').mono ?_
  rintro e w3 ⟨AF, cF, rfl, oF, b⟩
  have K' := bel_then K b
  replace hC := hC.next b
  replace s := s.next b
  replace Bm := Bm.next b
  replace Bx := Bx.next b
  replace K := K'
  clear K' b
  have SF := (Sees.of_own oF).less (Nat.zero_le _)
  clear oF
  clear CBm CBx
  have CBm := Bm.cell
  have CBx := Bx.cell
  go_wp2_with fail
  refine (specFieldOf_any A1 A2 n1 n2 c1 c2 m x pace time w3 s hs').mono ?_
  rintro e w4 ⟨AG, cG, rfl, oG, b⟩
  have K' := bel_then K b
  replace hC := hC.next b
  replace s := s.next b
  replace Bm := Bm.next b
  replace Bx := Bx.next b
  replace SF := SF.next b
  replace K := K'
  clear K' b
  have SG := (Sees.of_own oG).less (Nat.zero_le _)
  clear oG
  clear CBm CBx
  have CBm := Bm.cell
  have CBx := Bx.cell
  have hFl : ((fieldM m x pace time).getD []).length ≤ 36 := by
    cases hR : fieldM m x pace time with
    | none => simp
    | some S => exact field_small hR
  obtain ⟨F, hF⟩ : ∃ F, (fieldM m x pace time).getD [] = F := ⟨_, rfl⟩
  obtain ⟨o0, ho0⟩ : ∃ o0, (fieldM m x pace time).isSome = o0 := ⟨_, rfl⟩
  rw [hF] at SF SG hFl
  rw [hF, ho0]
  have hoo : (o0 != o0) = false := bne_self_eq_false o0
  go_wp2_with fail
  refine (rInts_any AF AG _ _ cF cG 0 0 F F w4 SF SG rfl (by omega)).mono ?_
  rintro e w5 ⟨rfl, qq⟩
  have b := qq.below w4.heap.size
  have K' := bel_then K b
  replace hC := hC.next b
  replace s := s.next b
  replace Bm := Bm.next b
  replace Bx := Bx.next b
  replace SF := SF.next b
  replace SG := SG.next b
  replace K := K'
  clear K' qq b
  clear CBm CBx
  have CBm := Bm.cell
  have CBx := Bx.cell
  cases o0 with
  | false =>
    go_wp2_with fail
    clear CBm CBx SF SG s Bm Bx
    clear hs hs' hF ho0 hFl hoo
    refine (drawFirstIn_any w5 A n c hC (by omega)).mono ?_
    rintro e w6 ⟨m, A1, n1, c1, A2, n2, c2, x, pace, time, rfl, s, hs, b, _, _⟩
    have K' := bel_then K b
    replace hC := hC.next b
    replace K := K'
    clear K' b
    go_wp2_with fail
    have U : Below w6.heap.size w6 ((w6.alloc (.cells #[.int .i64 m.width, .int .i64 m.height, .slice A1 n1 c1, .slice A2 n2 c2] 29)).alloc (.cells #[.int .i64 x.runner, .int .i64 x.start, .int .i64 x.seen, .int .i64 x.place] 31)) := two _ _ _
    have Bm : Blk ((w6.alloc (.cells #[.int .i64 m.width, .int .i64 m.height, .slice A1 n1 c1, .slice A2 n2 c2] 29)).alloc (.cells #[.int .i64 x.runner, .int .i64 x.start, .int .i64 x.seen, .int .i64 x.place] 31)) w6.heap.size 29 [.int .i64 m.width, .int .i64 m.height, .slice A1 n1 c1, .slice A2 n2 c2] := (Blk.at_ rfl : Blk (w6.alloc _) w6.heap.size 29 [.int .i64 m.width, .int .i64 m.height, .slice A1 n1 c1, .slice A2 n2 c2]).next ((Below.refl _ _).alloc (Nat.le_refl _) _)
    have Bx : Blk ((w6.alloc (.cells #[.int .i64 m.width, .int .i64 m.height, .slice A1 n1 c1, .slice A2 n2 c2] 29)).alloc (.cells #[.int .i64 x.runner, .int .i64 x.start, .int .i64 x.seen, .int .i64 x.place] 31)) (w6.heap.size + 1) 31 [.int .i64 x.runner, .int .i64 x.start, .int .i64 x.seen, .int .i64 x.place] := Blk.at_ (by simp)
    have K' := bel_then K U
    replace hC := hC.next U
    replace s := s.next U
    replace K := K'
    clear K' U
    generalize ((w6.alloc (.cells #[.int .i64 m.width, .int .i64 m.height, .slice A1 n1 c1, .slice A2 n2 c2] 29)).alloc (.cells #[.int .i64 x.runner, .int .i64 x.start, .int .i64 x.seen, .int .i64 x.place] 31)) = w7 at *
    generalize w6.heap.size + 1 = gx at *
    generalize w6.heap.size = gm at *
    have CBm := Bm.cell
    have CBx := Bx.cell
    have hs' : n1 ≤ 1048576 ∧ n2 ≤ 1048576 := by omega
    refine (FirstIn_any A1 A2 n1 n2 c1 c2 m x pace time w7 s hs').mono ?_
    rintro e w8 ⟨rfl, b⟩
    have K' := bel_then K b
    replace hC := hC.next b
    replace s := s.next b
    replace Bm := Bm.next b
    replace Bx := Bx.next b
    replace K := K'
    clear K' b
    clear CBm CBx
    have CBm := Bm.cell
    have CBx := Bx.cell
    go_wp2_with fail
    refine (specFirstIn_any A1 A2 n1 n2 c1 c2 m x pace time w8 s hs').mono ?_
    rintro e w9 ⟨rfl, b⟩
    have K' := bel_then K b
    replace hC := hC.next b
    replace s := s.next b
    replace Bm := Bm.next b
    replace Bx := Bx.next b
    replace K := K'
    clear K' b
    clear CBm CBx
    have CBm := Bm.cell
    have CBx := Bx.cell
    cases hR : firstM m x pace time with
    | none =>
      simp only [Option.getD_none, Option.isSome_none]
      go_wp2_with fail
      clear CBm CBx s Bm Bx
      clear hs hs' hR
      refine (drawChancesOf_any w9 A n c hC (by omega)).mono ?_
      rintro e w10 ⟨m, A1, n1, c1, A2, n2, c2, x, pace, time, rfl, s, hs, b, _, _⟩
      have K' := bel_then K b
      replace hC := hC.next b
      replace K := K'
      clear K' b
      go_wp2_with fail
      have U : Below w10.heap.size w10 ((w10.alloc (.cells #[.int .i64 m.width, .int .i64 m.height, .slice A1 n1 c1, .slice A2 n2 c2] 29)).alloc (.cells #[.int .i64 x.runner, .int .i64 x.start, .int .i64 x.seen, .int .i64 x.place] 31)) := two _ _ _
      have Bm : Blk ((w10.alloc (.cells #[.int .i64 m.width, .int .i64 m.height, .slice A1 n1 c1, .slice A2 n2 c2] 29)).alloc (.cells #[.int .i64 x.runner, .int .i64 x.start, .int .i64 x.seen, .int .i64 x.place] 31)) w10.heap.size 29 [.int .i64 m.width, .int .i64 m.height, .slice A1 n1 c1, .slice A2 n2 c2] := (Blk.at_ rfl : Blk (w10.alloc _) w10.heap.size 29 [.int .i64 m.width, .int .i64 m.height, .slice A1 n1 c1, .slice A2 n2 c2]).next ((Below.refl _ _).alloc (Nat.le_refl _) _)
      have Bx : Blk ((w10.alloc (.cells #[.int .i64 m.width, .int .i64 m.height, .slice A1 n1 c1, .slice A2 n2 c2] 29)).alloc (.cells #[.int .i64 x.runner, .int .i64 x.start, .int .i64 x.seen, .int .i64 x.place] 31)) (w10.heap.size + 1) 31 [.int .i64 x.runner, .int .i64 x.start, .int .i64 x.seen, .int .i64 x.place] := Blk.at_ (by simp)
      have K' := bel_then K U
      replace hC := hC.next U
      replace s := s.next U
      replace K := K'
      clear K' U
      generalize ((w10.alloc (.cells #[.int .i64 m.width, .int .i64 m.height, .slice A1 n1 c1, .slice A2 n2 c2] 29)).alloc (.cells #[.int .i64 x.runner, .int .i64 x.start, .int .i64 x.seen, .int .i64 x.place] 31)) = w11 at *
      generalize w10.heap.size + 1 = gx at *
      generalize w10.heap.size = gm at *
      have CBm := Bm.cell
      have CBx := Bx.cell
      have hs' : n1 ≤ 1048576 ∧ n2 ≤ 1048576 := by omega
      refine (ChancesOf_any A1 A2 n1 n2 c1 c2 m x pace time w11 s hs').mono ?_
      rintro e w12 ⟨AS, cS, rfl, oS, b⟩
      have K' := bel_then K b
      replace hC := hC.next b
      replace s := s.next b
      replace Bm := Bm.next b
      replace Bx := Bx.next b
      replace K := K'
      clear K' b
      have SS := (Sees.of_own oS).less (Nat.zero_le _)
      clear oS
      clear CBm CBx
      have CBm := Bm.cell
      have CBx := Bx.cell
      go_wp2_with fail
      refine (specChancesOf_any A1 A2 n1 n2 c1 c2 m x pace time w12 s hs').mono ?_
      rintro e w13 ⟨AT, cT, rfl, oT, b⟩
      have K' := bel_then K b
      replace hC := hC.next b
      replace s := s.next b
      replace Bm := Bm.next b
      replace Bx := Bx.next b
      replace SS := SS.next b
      replace K := K'
      clear K' b
      have ST := (Sees.of_own oT).less (Nat.zero_le _)
      clear oT
      clear CBm CBx
      have CBm := Bm.cell
      have CBx := Bx.cell
      have hSl : ((chancesM m x pace time).getD []).length ≤ 36 := by
        cases hR : chancesM m x pace time with
        | none => simp
        | some S => exact chances_small hR
      generalize (chancesM m x pace time).getD [] = S0 at *
      generalize (chancesM m x pace time).isSome = o0 at *
      have hoo : (o0 != o0) = false := bne_self_eq_false o0
      go_wp2_with fail
      refine (rSectors_any AS AT _ _ cS cT 0 0 S0 S0 w13 SS ST rfl (by omega)).mono ?_
      rintro e w14 ⟨rfl, qq⟩
      have b := qq.below w13.heap.size
      have K' := bel_then K b
      replace hC := hC.next b
      clear K qq b
      clear CBm CBx SS ST s Bm Bx
      have K := K'
      clear K'
      go_wp2_with fail
      refine (drawIsMissing_any w14 A n c hC (by omega)).mono ?_
      rintro e w15 ⟨m, A1, n1, c1, A2, n2, c2, x, rfl, s, hs, b⟩
      have K' := bel_then K b
      replace hC := hC.next b
      replace K := K'
      clear K' b
      go_wp2_with fail
      have U : Below w15.heap.size w15 ((w15.alloc (.cells #[.int .i64 m.width, .int .i64 m.height, .slice A1 n1 c1, .slice A2 n2 c2] 29)).alloc (.cells #[.int .i64 x.runner, .int .i64 x.start, .int .i64 x.seen, .int .i64 x.place] 31)) := two _ _ _
      have Bm : Blk ((w15.alloc (.cells #[.int .i64 m.width, .int .i64 m.height, .slice A1 n1 c1, .slice A2 n2 c2] 29)).alloc (.cells #[.int .i64 x.runner, .int .i64 x.start, .int .i64 x.seen, .int .i64 x.place] 31)) w15.heap.size 29 [.int .i64 m.width, .int .i64 m.height, .slice A1 n1 c1, .slice A2 n2 c2] := (Blk.at_ rfl : Blk (w15.alloc _) w15.heap.size 29 [.int .i64 m.width, .int .i64 m.height, .slice A1 n1 c1, .slice A2 n2 c2]).next ((Below.refl _ _).alloc (Nat.le_refl _) _)
      have Bx : Blk ((w15.alloc (.cells #[.int .i64 m.width, .int .i64 m.height, .slice A1 n1 c1, .slice A2 n2 c2] 29)).alloc (.cells #[.int .i64 x.runner, .int .i64 x.start, .int .i64 x.seen, .int .i64 x.place] 31)) (w15.heap.size + 1) 31 [.int .i64 x.runner, .int .i64 x.start, .int .i64 x.seen, .int .i64 x.place] := Blk.at_ (by simp)
      have K' := bel_then K U
      replace hC := hC.next U
      replace s := s.next U
      replace K := K'
      clear K' U
      generalize ((w15.alloc (.cells #[.int .i64 m.width, .int .i64 m.height, .slice A1 n1 c1, .slice A2 n2 c2] 29)).alloc (.cells #[.int .i64 x.runner, .int .i64 x.start, .int .i64 x.seen, .int .i64 x.place] 31)) = w16 at *
      generalize w15.heap.size + 1 = gx at *
      generalize w15.heap.size = gm at *
      have CBm := Bm.cell
      have CBx := Bx.cell
      have hs' : n1 ≤ 1048576 ∧ n2 ≤ 1048576 := by omega
      clear CBm CBx
      have KB := K
      clear K
      have b := (Quiet.one w16).below w16.heap.size
      refine wp_region_held_drew (S := fun w' => w'.cell? ⟨gm, 0, none⟩ = some (.int .i64 m.width) ∧ w'.cell? ⟨gm, 1, none⟩ = some (.int .i64 m.height) ∧ w'.cell? ⟨gm, 2, none⟩ = some (.slice A1 n1 c1) ∧ w'.cell? ⟨gm, 3, none⟩ = some (.slice A2 n2 c2) ∧ w'.cell? ⟨gx, 0, none⟩ = some (.int .i64 x.runner) ∧ w'.cell? ⟨gx, 1, none⟩ = some (.int .i64 x.start) ∧ w'.cell? ⟨gx, 2, none⟩ = some (.int .i64 x.seen) ∧ w'.cell? ⟨gx, 3, none⟩ = some (.int .i64 x.place)) (by kernel_rfl) (by (try dsimp only); exact ⟨(Bm.next b).cell 0, (Bm.next b).cell 1, (Bm.next b).cell 2, (Bm.next b).cell 3, (Bx.next b).cell 0, (Bx.next b).cell 1, (Bx.next b).cell 2, (Bx.next b).cell 3⟩) (fun hHeld => ?_)
      have K' := bel_then KB b
      replace s := s.next b
      replace Bm := Bm.next b
      replace Bx := Bx.next b
      replace KB := K'
      clear K' b
      generalize w16.drew = wd at *
      refine wpAnyH_take (i := 0) (v := ?_) rfl (by kernel_rfl) (by kernel_rfl) (by kernel_rfl) (fun _ _ _ h => h) (Or.inl ⟨by rfl, ?_⟩) (by assumption) ?_
      rotate_left 1
      · (intro w hSw; (try dsimp only at hSw); go_simp; try with_reducible rfl)
      simp only [Act.put, List.setIfInBounds_toArray, List.set_cons_zero, List.set_cons_succ, List.getElem_toArray, List.getElem_cons_zero]
      refine wpAnyH_take (i := 1) (v := ?_) rfl (by kernel_rfl) (by kernel_rfl) (by kernel_rfl) (fun _ _ _ h => h) (Or.inl ⟨by rfl, ?_⟩) (by assumption) ?_
      rotate_left 1
      · (intro w hSw; (try dsimp only at hSw); go_simp; try with_reducible rfl)
      simp only [Act.put, List.setIfInBounds_toArray, List.set_cons_zero, List.set_cons_succ, List.getElem_toArray, List.getElem_cons_zero, List.getElem_cons_succ]
      refine wpAnyH_take (i := 3) (v := ?_) rfl (by kernel_rfl) (by kernel_rfl) (by kernel_rfl) (fun _ _ _ h => h) (Or.inl ⟨by rfl, ?_⟩) (by assumption) ?_
      rotate_left 1
      · (intro w hSw; (try dsimp only at hSw); go_simp; try with_reducible rfl)
      simp only [Act.put, List.setIfInBounds_toArray, List.set_cons_zero, List.set_cons_succ, List.getElem_toArray, List.getElem_cons_zero, List.getElem_cons_succ]
      refine wpAnyH_take (i := 4) (v := ?_) rfl (by kernel_rfl) (by kernel_rfl) (by kernel_rfl) (fun _ _ _ h => h) (Or.inl ⟨by rfl, ?_⟩) (by assumption) ?_
      rotate_left 1
      · (intro w hSw; (try dsimp only at hSw); go_simp; try with_reducible rfl)
      simp only [Act.put, List.setIfInBounds_toArray, List.set_cons_zero, List.set_cons_succ, List.getElem_toArray, List.getElem_cons_zero, List.getElem_cons_succ]
      refine wpAnyH_ready (rs := [2]) (by kernel_rfl) (by simp) ?_
      refine AllReadyH.cons rfl (fun K hK => ?_) AllReadyH.nil
      go_simp
      refine (IsMissing_any A1 A2 n1 n2 c1 c2 m x _ s hs').mono ?_
      rintro e wa ⟨rfl, b⟩
      have K' := bel_then KB b
      replace s := s.next b
      replace Bm := Bm.next b
      replace Bx := Bx.next b
      replace KB := K'
      clear K' b
      go_wp2_with fail
      refine hK.out _ _ (by (try dsimp only); exact ⟨Bm.cell 0, Bm.cell 1, Bm.cell 2, Bm.cell 3, Bx.cell 0, Bx.cell 1, Bx.cell 2, Bx.cell 3⟩) (fun hHeld => ?_)
      clear hK K
      refine wpAnyH_ready (rs := [5]) (by kernel_rfl) (by simp) ?_
      refine AllReadyH.cons rfl (fun K hK => ?_) AllReadyH.nil
      go_simp
      refine (specIsMissing_any A1 A2 n1 n2 c1 c2 m x _ s hs').mono ?_
      rintro e wa ⟨rfl, b⟩
      have K' := bel_then KB b
      replace s := s.next b
      replace Bm := Bm.next b
      replace Bx := Bx.next b
      replace KB := K'
      clear K' b
      go_wp2_with fail
      refine hK.out _ _ (by (try dsimp only); exact ⟨Bm.cell 0, Bm.cell 1, Bm.cell 2, Bm.cell 3, Bx.cell 0, Bx.cell 1, Bx.cell 2, Bx.cell 3⟩) (fun hHeld => ?_)
      clear hK K
      refine wpAnyH_take (i := 6) (v := ?_) rfl (by kernel_rfl) (by kernel_rfl) (by kernel_rfl) (fun _ _ _ h => h) (Or.inl ⟨by rfl, ?_⟩) (by assumption) ?_
      rotate_left 1
      · (intro w hSw; (try dsimp only at hSw); go_simp; try with_reducible rfl)
      simp only [Act.put, List.setIfInBounds_toArray, List.set_cons_zero, List.set_cons_succ, List.getElem_toArray, List.getElem_cons_zero, List.getElem_cons_succ]
      refine wpAnyH_take (i := 7) (v := ?_) rfl (by kernel_rfl) (by kernel_rfl) (by kernel_rfl) (fun _ _ _ h => h) (Or.inl ⟨by rfl, ?_⟩) (by assumption) ?_
      rotate_left 1
      · (intro w hSw; (try dsimp only at hSw); go_simp; try with_reducible rfl)
      simp only [Act.put, List.setIfInBounds_toArray, List.set_cons_zero, List.set_cons_succ, List.getElem_toArray, List.getElem_cons_zero, List.getElem_cons_succ]
      refine wpAnyH_done (by kernel_rfl) ?_ _
      have hbb : (missingB m x == missingB m x) = true := beq_self_eq_true _
      go_wp2_with fail
      go_ret
      exact ⟨rfl, KB⟩
    | some t =>
      obtain ⟨ht, ⟨F, hF, hFc⟩, hG⟩ := first_facts hR
      simp only [Option.getD_some, Option.isSome_some]
      have htw : IntKind.i64.wrap (t - 1) = t - 1 := IntWalk.i64_in _ (by omega)
      go_wp2_with fail
      refine (FieldOf_any A1 A2 n1 n2 c1 c2 m x pace t w9 s hs').mono ?_
      rintro e w17 ⟨AF, cF, rfl, oF, b⟩
      have K' := bel_then K b
      replace hC := hC.next b
      replace s := s.next b
      replace Bm := Bm.next b
      replace Bx := Bx.next b
      replace K := K'
      clear K' b
      have SF := (Sees.of_own oF).less (Nat.zero_le _)
      clear oF
      clear CBm CBx
      have CBm := Bm.cell
      have CBx := Bx.cell
      have hFl := field_small hF
      rw [hF] at SF ⊢
      simp only [Option.getD_some, Option.isSome_some] at SF ⊢
      go_wp2_with fail
      refine (FieldOf_any A1 A2 n1 n2 c1 c2 m x pace (t - 1) w17 s hs').mono ?_
      rintro e w18 ⟨AG, cG, rfl, oG, b⟩
      have K' := bel_then K b
      replace hC := hC.next b
      replace s := s.next b
      replace Bm := Bm.next b
      replace Bx := Bx.next b
      replace SF := SF.next b
      replace K := K'
      clear K' b
      have SG := (Sees.of_own oG).less (Nat.zero_le _)
      clear oG
      clear CBm CBx
      have CBm := Bm.cell
      have CBx := Bx.cell
      have hHas : ∀ G0 o0, (fieldM m x pace (t - 1)).getD [] = G0 → (fieldM m x pace (t - 1)).isSome = o0 → G0.length ≤ 36 ∧ (o0 = true → hasI G0 time = false) := by
        rintro G0 o0 rfl rfl
        cases hB : fieldM m x pace (t - 1) with
        | none => simp
        | some G => exact ⟨field_small hB, fun _ => hG G hB⟩
      obtain ⟨G0, hG0⟩ : ∃ G0, (fieldM m x pace (t - 1)).getD [] = G0 := ⟨_, rfl⟩
      obtain ⟨o0, ho0⟩ : ∃ o0, (fieldM m x pace (t - 1)).isSome = o0 := ⟨_, rfl⟩
      obtain ⟨hGl, hGc⟩ := hHas G0 o0 hG0 ho0
      rw [hG0] at SG
      rw [hG0, ho0]
      clear hHas hG0 ho0 hG
      go_wp2_with fail
      refine (rHas_any AF _ cF _ time w18 SF (by omega)).mono ?_
      rintro e w19 ⟨rfl, qq⟩
      have b := qq.below w18.heap.size
      have K' := bel_then K b
      replace hC := hC.next b
      replace s := s.next b
      replace Bm := Bm.next b
      replace Bx := Bx.next b
      replace SF := SF.next b
      replace SG := SG.next b
      replace K := K'
      clear K' qq b
      rw [hFc]
      cases o0 with
      | false =>
        go_wp2_with fail
        clear CBm CBx SF SG s Bm Bx
        clear hs hs' hR hF
        refine (drawChancesOf_any w19 A n c hC (by omega)).mono ?_
        rintro e w20 ⟨m, A1, n1, c1, A2, n2, c2, x, pace, time, rfl, s, hs, b, _, _⟩
        have K' := bel_then K b
        replace hC := hC.next b
        replace K := K'
        clear K' b
        go_wp2_with fail
        have U : Below w20.heap.size w20 ((w20.alloc (.cells #[.int .i64 m.width, .int .i64 m.height, .slice A1 n1 c1, .slice A2 n2 c2] 29)).alloc (.cells #[.int .i64 x.runner, .int .i64 x.start, .int .i64 x.seen, .int .i64 x.place] 31)) := two _ _ _
        have Bm : Blk ((w20.alloc (.cells #[.int .i64 m.width, .int .i64 m.height, .slice A1 n1 c1, .slice A2 n2 c2] 29)).alloc (.cells #[.int .i64 x.runner, .int .i64 x.start, .int .i64 x.seen, .int .i64 x.place] 31)) w20.heap.size 29 [.int .i64 m.width, .int .i64 m.height, .slice A1 n1 c1, .slice A2 n2 c2] := (Blk.at_ rfl : Blk (w20.alloc _) w20.heap.size 29 [.int .i64 m.width, .int .i64 m.height, .slice A1 n1 c1, .slice A2 n2 c2]).next ((Below.refl _ _).alloc (Nat.le_refl _) _)
        have Bx : Blk ((w20.alloc (.cells #[.int .i64 m.width, .int .i64 m.height, .slice A1 n1 c1, .slice A2 n2 c2] 29)).alloc (.cells #[.int .i64 x.runner, .int .i64 x.start, .int .i64 x.seen, .int .i64 x.place] 31)) (w20.heap.size + 1) 31 [.int .i64 x.runner, .int .i64 x.start, .int .i64 x.seen, .int .i64 x.place] := Blk.at_ (by simp)
        have K' := bel_then K U
        replace hC := hC.next U
        replace s := s.next U
        replace K := K'
        clear K' U
        generalize ((w20.alloc (.cells #[.int .i64 m.width, .int .i64 m.height, .slice A1 n1 c1, .slice A2 n2 c2] 29)).alloc (.cells #[.int .i64 x.runner, .int .i64 x.start, .int .i64 x.seen, .int .i64 x.place] 31)) = w21 at *
        generalize w20.heap.size + 1 = gx at *
        generalize w20.heap.size = gm at *
        have CBm := Bm.cell
        have CBx := Bx.cell
        have hs' : n1 ≤ 1048576 ∧ n2 ≤ 1048576 := by omega
        refine (ChancesOf_any A1 A2 n1 n2 c1 c2 m x pace time w21 s hs').mono ?_
        rintro e w22 ⟨AS, cS, rfl, oS, b⟩
        have K' := bel_then K b
        replace hC := hC.next b
        replace s := s.next b
        replace Bm := Bm.next b
        replace Bx := Bx.next b
        replace K := K'
        clear K' b
        have SS := (Sees.of_own oS).less (Nat.zero_le _)
        clear oS
        clear CBm CBx
        have CBm := Bm.cell
        have CBx := Bx.cell
        go_wp2_with fail
        refine (specChancesOf_any A1 A2 n1 n2 c1 c2 m x pace time w22 s hs').mono ?_
        rintro e w23 ⟨AT, cT, rfl, oT, b⟩
        have K' := bel_then K b
        replace hC := hC.next b
        replace s := s.next b
        replace Bm := Bm.next b
        replace Bx := Bx.next b
        replace SS := SS.next b
        replace K := K'
        clear K' b
        have ST := (Sees.of_own oT).less (Nat.zero_le _)
        clear oT
        clear CBm CBx
        have CBm := Bm.cell
        have CBx := Bx.cell
        have hSl : ((chancesM m x pace time).getD []).length ≤ 36 := by
          cases hR : chancesM m x pace time with
          | none => simp
          | some S => exact chances_small hR
        generalize (chancesM m x pace time).getD [] = S0 at *
        generalize (chancesM m x pace time).isSome = o0 at *
        have hoo : (o0 != o0) = false := bne_self_eq_false o0
        go_wp2_with fail
        refine (rSectors_any AS AT _ _ cS cT 0 0 S0 S0 w23 SS ST rfl (by omega)).mono ?_
        rintro e w24 ⟨rfl, qq⟩
        have b := qq.below w23.heap.size
        have K' := bel_then K b
        replace hC := hC.next b
        clear K qq b
        clear CBm CBx SS ST s Bm Bx
        have K := K'
        clear K'
        go_wp2_with fail
        refine (drawIsMissing_any w24 A n c hC (by omega)).mono ?_
        rintro e w25 ⟨m, A1, n1, c1, A2, n2, c2, x, rfl, s, hs, b⟩
        have K' := bel_then K b
        replace hC := hC.next b
        replace K := K'
        clear K' b
        go_wp2_with fail
        have U : Below w25.heap.size w25 ((w25.alloc (.cells #[.int .i64 m.width, .int .i64 m.height, .slice A1 n1 c1, .slice A2 n2 c2] 29)).alloc (.cells #[.int .i64 x.runner, .int .i64 x.start, .int .i64 x.seen, .int .i64 x.place] 31)) := two _ _ _
        have Bm : Blk ((w25.alloc (.cells #[.int .i64 m.width, .int .i64 m.height, .slice A1 n1 c1, .slice A2 n2 c2] 29)).alloc (.cells #[.int .i64 x.runner, .int .i64 x.start, .int .i64 x.seen, .int .i64 x.place] 31)) w25.heap.size 29 [.int .i64 m.width, .int .i64 m.height, .slice A1 n1 c1, .slice A2 n2 c2] := (Blk.at_ rfl : Blk (w25.alloc _) w25.heap.size 29 [.int .i64 m.width, .int .i64 m.height, .slice A1 n1 c1, .slice A2 n2 c2]).next ((Below.refl _ _).alloc (Nat.le_refl _) _)
        have Bx : Blk ((w25.alloc (.cells #[.int .i64 m.width, .int .i64 m.height, .slice A1 n1 c1, .slice A2 n2 c2] 29)).alloc (.cells #[.int .i64 x.runner, .int .i64 x.start, .int .i64 x.seen, .int .i64 x.place] 31)) (w25.heap.size + 1) 31 [.int .i64 x.runner, .int .i64 x.start, .int .i64 x.seen, .int .i64 x.place] := Blk.at_ (by simp)
        have K' := bel_then K U
        replace hC := hC.next U
        replace s := s.next U
        replace K := K'
        clear K' U
        generalize ((w25.alloc (.cells #[.int .i64 m.width, .int .i64 m.height, .slice A1 n1 c1, .slice A2 n2 c2] 29)).alloc (.cells #[.int .i64 x.runner, .int .i64 x.start, .int .i64 x.seen, .int .i64 x.place] 31)) = w26 at *
        generalize w25.heap.size + 1 = gx at *
        generalize w25.heap.size = gm at *
        have CBm := Bm.cell
        have CBx := Bx.cell
        have hs' : n1 ≤ 1048576 ∧ n2 ≤ 1048576 := by omega
        clear CBm CBx
        have KB := K
        clear K
        have b := (Quiet.one w26).below w26.heap.size
        refine wp_region_held_drew (S := fun w' => w'.cell? ⟨gm, 0, none⟩ = some (.int .i64 m.width) ∧ w'.cell? ⟨gm, 1, none⟩ = some (.int .i64 m.height) ∧ w'.cell? ⟨gm, 2, none⟩ = some (.slice A1 n1 c1) ∧ w'.cell? ⟨gm, 3, none⟩ = some (.slice A2 n2 c2) ∧ w'.cell? ⟨gx, 0, none⟩ = some (.int .i64 x.runner) ∧ w'.cell? ⟨gx, 1, none⟩ = some (.int .i64 x.start) ∧ w'.cell? ⟨gx, 2, none⟩ = some (.int .i64 x.seen) ∧ w'.cell? ⟨gx, 3, none⟩ = some (.int .i64 x.place)) (by kernel_rfl) (by (try dsimp only); exact ⟨(Bm.next b).cell 0, (Bm.next b).cell 1, (Bm.next b).cell 2, (Bm.next b).cell 3, (Bx.next b).cell 0, (Bx.next b).cell 1, (Bx.next b).cell 2, (Bx.next b).cell 3⟩) (fun hHeld => ?_)
        have K' := bel_then KB b
        replace s := s.next b
        replace Bm := Bm.next b
        replace Bx := Bx.next b
        replace KB := K'
        clear K' b
        generalize w26.drew = wd at *
        refine wpAnyH_take (i := 0) (v := ?_) rfl (by kernel_rfl) (by kernel_rfl) (by kernel_rfl) (fun _ _ _ h => h) (Or.inl ⟨by rfl, ?_⟩) (by assumption) ?_
        rotate_left 1
        · (intro w hSw; (try dsimp only at hSw); go_simp; try with_reducible rfl)
        simp only [Act.put, List.setIfInBounds_toArray, List.set_cons_zero, List.set_cons_succ, List.getElem_toArray, List.getElem_cons_zero]
        refine wpAnyH_take (i := 1) (v := ?_) rfl (by kernel_rfl) (by kernel_rfl) (by kernel_rfl) (fun _ _ _ h => h) (Or.inl ⟨by rfl, ?_⟩) (by assumption) ?_
        rotate_left 1
        · (intro w hSw; (try dsimp only at hSw); go_simp; try with_reducible rfl)
        simp only [Act.put, List.setIfInBounds_toArray, List.set_cons_zero, List.set_cons_succ, List.getElem_toArray, List.getElem_cons_zero, List.getElem_cons_succ]
        refine wpAnyH_take (i := 3) (v := ?_) rfl (by kernel_rfl) (by kernel_rfl) (by kernel_rfl) (fun _ _ _ h => h) (Or.inl ⟨by rfl, ?_⟩) (by assumption) ?_
        rotate_left 1
        · (intro w hSw; (try dsimp only at hSw); go_simp; try with_reducible rfl)
        simp only [Act.put, List.setIfInBounds_toArray, List.set_cons_zero, List.set_cons_succ, List.getElem_toArray, List.getElem_cons_zero, List.getElem_cons_succ]
        refine wpAnyH_take (i := 4) (v := ?_) rfl (by kernel_rfl) (by kernel_rfl) (by kernel_rfl) (fun _ _ _ h => h) (Or.inl ⟨by rfl, ?_⟩) (by assumption) ?_
        rotate_left 1
        · (intro w hSw; (try dsimp only at hSw); go_simp; try with_reducible rfl)
        simp only [Act.put, List.setIfInBounds_toArray, List.set_cons_zero, List.set_cons_succ, List.getElem_toArray, List.getElem_cons_zero, List.getElem_cons_succ]
        refine wpAnyH_ready (rs := [2]) (by kernel_rfl) (by simp) ?_
        refine AllReadyH.cons rfl (fun K hK => ?_) AllReadyH.nil
        go_simp
        refine (IsMissing_any A1 A2 n1 n2 c1 c2 m x _ s hs').mono ?_
        rintro e wa ⟨rfl, b⟩
        have K' := bel_then KB b
        replace s := s.next b
        replace Bm := Bm.next b
        replace Bx := Bx.next b
        replace KB := K'
        clear K' b
        go_wp2_with fail
        refine hK.out _ _ (by (try dsimp only); exact ⟨Bm.cell 0, Bm.cell 1, Bm.cell 2, Bm.cell 3, Bx.cell 0, Bx.cell 1, Bx.cell 2, Bx.cell 3⟩) (fun hHeld => ?_)
        clear hK K
        refine wpAnyH_ready (rs := [5]) (by kernel_rfl) (by simp) ?_
        refine AllReadyH.cons rfl (fun K hK => ?_) AllReadyH.nil
        go_simp
        refine (specIsMissing_any A1 A2 n1 n2 c1 c2 m x _ s hs').mono ?_
        rintro e wa ⟨rfl, b⟩
        have K' := bel_then KB b
        replace s := s.next b
        replace Bm := Bm.next b
        replace Bx := Bx.next b
        replace KB := K'
        clear K' b
        go_wp2_with fail
        refine hK.out _ _ (by (try dsimp only); exact ⟨Bm.cell 0, Bm.cell 1, Bm.cell 2, Bm.cell 3, Bx.cell 0, Bx.cell 1, Bx.cell 2, Bx.cell 3⟩) (fun hHeld => ?_)
        clear hK K
        refine wpAnyH_take (i := 6) (v := ?_) rfl (by kernel_rfl) (by kernel_rfl) (by kernel_rfl) (fun _ _ _ h => h) (Or.inl ⟨by rfl, ?_⟩) (by assumption) ?_
        rotate_left 1
        · (intro w hSw; (try dsimp only at hSw); go_simp; try with_reducible rfl)
        simp only [Act.put, List.setIfInBounds_toArray, List.set_cons_zero, List.set_cons_succ, List.getElem_toArray, List.getElem_cons_zero, List.getElem_cons_succ]
        refine wpAnyH_take (i := 7) (v := ?_) rfl (by kernel_rfl) (by kernel_rfl) (by kernel_rfl) (fun _ _ _ h => h) (Or.inl ⟨by rfl, ?_⟩) (by assumption) ?_
        rotate_left 1
        · (intro w hSw; (try dsimp only at hSw); go_simp; try with_reducible rfl)
        simp only [Act.put, List.setIfInBounds_toArray, List.set_cons_zero, List.set_cons_succ, List.getElem_toArray, List.getElem_cons_zero, List.getElem_cons_succ]
        refine wpAnyH_done (by kernel_rfl) ?_ _
        have hbb : (missingB m x == missingB m x) = true := beq_self_eq_true _
        go_wp2_with fail
        go_ret
        exact ⟨rfl, KB⟩
      | true =>
        go_wp2_with fail
        refine (rHas_any AG _ cG _ time w19 SG (by omega)).mono ?_
        rintro e w27 ⟨rfl, qq⟩
        have b := qq.below w19.heap.size
        have K' := bel_then K b
        replace hC := hC.next b
        replace s := s.next b
        replace Bm := Bm.next b
        replace Bx := Bx.next b
        replace SF := SF.next b
        replace SG := SG.next b
        replace K := K'
        clear K' qq b
        rw [hGc (by simp)]
        go_wp2_with fail
        clear CBm CBx SF SG s Bm Bx
        clear hs hs' hR hF
        refine (drawChancesOf_any w27 A n c hC (by omega)).mono ?_
        rintro e w28 ⟨m, A1, n1, c1, A2, n2, c2, x, pace, time, rfl, s, hs, b, _, _⟩
        have K' := bel_then K b
        replace hC := hC.next b
        replace K := K'
        clear K' b
        go_wp2_with fail
        have U : Below w28.heap.size w28 ((w28.alloc (.cells #[.int .i64 m.width, .int .i64 m.height, .slice A1 n1 c1, .slice A2 n2 c2] 29)).alloc (.cells #[.int .i64 x.runner, .int .i64 x.start, .int .i64 x.seen, .int .i64 x.place] 31)) := two _ _ _
        have Bm : Blk ((w28.alloc (.cells #[.int .i64 m.width, .int .i64 m.height, .slice A1 n1 c1, .slice A2 n2 c2] 29)).alloc (.cells #[.int .i64 x.runner, .int .i64 x.start, .int .i64 x.seen, .int .i64 x.place] 31)) w28.heap.size 29 [.int .i64 m.width, .int .i64 m.height, .slice A1 n1 c1, .slice A2 n2 c2] := (Blk.at_ rfl : Blk (w28.alloc _) w28.heap.size 29 [.int .i64 m.width, .int .i64 m.height, .slice A1 n1 c1, .slice A2 n2 c2]).next ((Below.refl _ _).alloc (Nat.le_refl _) _)
        have Bx : Blk ((w28.alloc (.cells #[.int .i64 m.width, .int .i64 m.height, .slice A1 n1 c1, .slice A2 n2 c2] 29)).alloc (.cells #[.int .i64 x.runner, .int .i64 x.start, .int .i64 x.seen, .int .i64 x.place] 31)) (w28.heap.size + 1) 31 [.int .i64 x.runner, .int .i64 x.start, .int .i64 x.seen, .int .i64 x.place] := Blk.at_ (by simp)
        have K' := bel_then K U
        replace hC := hC.next U
        replace s := s.next U
        replace K := K'
        clear K' U
        generalize ((w28.alloc (.cells #[.int .i64 m.width, .int .i64 m.height, .slice A1 n1 c1, .slice A2 n2 c2] 29)).alloc (.cells #[.int .i64 x.runner, .int .i64 x.start, .int .i64 x.seen, .int .i64 x.place] 31)) = w29 at *
        generalize w28.heap.size + 1 = gx at *
        generalize w28.heap.size = gm at *
        have CBm := Bm.cell
        have CBx := Bx.cell
        have hs' : n1 ≤ 1048576 ∧ n2 ≤ 1048576 := by omega
        refine (ChancesOf_any A1 A2 n1 n2 c1 c2 m x pace time w29 s hs').mono ?_
        rintro e w30 ⟨AS, cS, rfl, oS, b⟩
        have K' := bel_then K b
        replace hC := hC.next b
        replace s := s.next b
        replace Bm := Bm.next b
        replace Bx := Bx.next b
        replace K := K'
        clear K' b
        have SS := (Sees.of_own oS).less (Nat.zero_le _)
        clear oS
        clear CBm CBx
        have CBm := Bm.cell
        have CBx := Bx.cell
        go_wp2_with fail
        refine (specChancesOf_any A1 A2 n1 n2 c1 c2 m x pace time w30 s hs').mono ?_
        rintro e w31 ⟨AT, cT, rfl, oT, b⟩
        have K' := bel_then K b
        replace hC := hC.next b
        replace s := s.next b
        replace Bm := Bm.next b
        replace Bx := Bx.next b
        replace SS := SS.next b
        replace K := K'
        clear K' b
        have ST := (Sees.of_own oT).less (Nat.zero_le _)
        clear oT
        clear CBm CBx
        have CBm := Bm.cell
        have CBx := Bx.cell
        have hSl : ((chancesM m x pace time).getD []).length ≤ 36 := by
          cases hR : chancesM m x pace time with
          | none => simp
          | some S => exact chances_small hR
        generalize (chancesM m x pace time).getD [] = S0 at *
        generalize (chancesM m x pace time).isSome = o0 at *
        have hoo : (o0 != o0) = false := bne_self_eq_false o0
        go_wp2_with fail
        refine (rSectors_any AS AT _ _ cS cT 0 0 S0 S0 w31 SS ST rfl (by omega)).mono ?_
        rintro e w32 ⟨rfl, qq⟩
        have b := qq.below w31.heap.size
        have K' := bel_then K b
        replace hC := hC.next b
        clear K qq b
        clear CBm CBx SS ST s Bm Bx
        have K := K'
        clear K'
        go_wp2_with fail
        refine (drawIsMissing_any w32 A n c hC (by omega)).mono ?_
        rintro e w33 ⟨m, A1, n1, c1, A2, n2, c2, x, rfl, s, hs, b⟩
        have K' := bel_then K b
        replace hC := hC.next b
        replace K := K'
        clear K' b
        go_wp2_with fail
        have U : Below w33.heap.size w33 ((w33.alloc (.cells #[.int .i64 m.width, .int .i64 m.height, .slice A1 n1 c1, .slice A2 n2 c2] 29)).alloc (.cells #[.int .i64 x.runner, .int .i64 x.start, .int .i64 x.seen, .int .i64 x.place] 31)) := two _ _ _
        have Bm : Blk ((w33.alloc (.cells #[.int .i64 m.width, .int .i64 m.height, .slice A1 n1 c1, .slice A2 n2 c2] 29)).alloc (.cells #[.int .i64 x.runner, .int .i64 x.start, .int .i64 x.seen, .int .i64 x.place] 31)) w33.heap.size 29 [.int .i64 m.width, .int .i64 m.height, .slice A1 n1 c1, .slice A2 n2 c2] := (Blk.at_ rfl : Blk (w33.alloc _) w33.heap.size 29 [.int .i64 m.width, .int .i64 m.height, .slice A1 n1 c1, .slice A2 n2 c2]).next ((Below.refl _ _).alloc (Nat.le_refl _) _)
        have Bx : Blk ((w33.alloc (.cells #[.int .i64 m.width, .int .i64 m.height, .slice A1 n1 c1, .slice A2 n2 c2] 29)).alloc (.cells #[.int .i64 x.runner, .int .i64 x.start, .int .i64 x.seen, .int .i64 x.place] 31)) (w33.heap.size + 1) 31 [.int .i64 x.runner, .int .i64 x.start, .int .i64 x.seen, .int .i64 x.place] := Blk.at_ (by simp)
        have K' := bel_then K U
        replace hC := hC.next U
        replace s := s.next U
        replace K := K'
        clear K' U
        generalize ((w33.alloc (.cells #[.int .i64 m.width, .int .i64 m.height, .slice A1 n1 c1, .slice A2 n2 c2] 29)).alloc (.cells #[.int .i64 x.runner, .int .i64 x.start, .int .i64 x.seen, .int .i64 x.place] 31)) = w34 at *
        generalize w33.heap.size + 1 = gx at *
        generalize w33.heap.size = gm at *
        have CBm := Bm.cell
        have CBx := Bx.cell
        have hs' : n1 ≤ 1048576 ∧ n2 ≤ 1048576 := by omega
        clear CBm CBx
        have KB := K
        clear K
        have b := (Quiet.one w34).below w34.heap.size
        refine wp_region_held_drew (S := fun w' => w'.cell? ⟨gm, 0, none⟩ = some (.int .i64 m.width) ∧ w'.cell? ⟨gm, 1, none⟩ = some (.int .i64 m.height) ∧ w'.cell? ⟨gm, 2, none⟩ = some (.slice A1 n1 c1) ∧ w'.cell? ⟨gm, 3, none⟩ = some (.slice A2 n2 c2) ∧ w'.cell? ⟨gx, 0, none⟩ = some (.int .i64 x.runner) ∧ w'.cell? ⟨gx, 1, none⟩ = some (.int .i64 x.start) ∧ w'.cell? ⟨gx, 2, none⟩ = some (.int .i64 x.seen) ∧ w'.cell? ⟨gx, 3, none⟩ = some (.int .i64 x.place)) (by kernel_rfl) (by (try dsimp only); exact ⟨(Bm.next b).cell 0, (Bm.next b).cell 1, (Bm.next b).cell 2, (Bm.next b).cell 3, (Bx.next b).cell 0, (Bx.next b).cell 1, (Bx.next b).cell 2, (Bx.next b).cell 3⟩) (fun hHeld => ?_)
        have K' := bel_then KB b
        replace s := s.next b
        replace Bm := Bm.next b
        replace Bx := Bx.next b
        replace KB := K'
        clear K' b
        generalize w34.drew = wd at *
        refine wpAnyH_take (i := 0) (v := ?_) rfl (by kernel_rfl) (by kernel_rfl) (by kernel_rfl) (fun _ _ _ h => h) (Or.inl ⟨by rfl, ?_⟩) (by assumption) ?_
        rotate_left 1
        · (intro w hSw; (try dsimp only at hSw); go_simp; try with_reducible rfl)
        simp only [Act.put, List.setIfInBounds_toArray, List.set_cons_zero, List.set_cons_succ, List.getElem_toArray, List.getElem_cons_zero]
        refine wpAnyH_take (i := 1) (v := ?_) rfl (by kernel_rfl) (by kernel_rfl) (by kernel_rfl) (fun _ _ _ h => h) (Or.inl ⟨by rfl, ?_⟩) (by assumption) ?_
        rotate_left 1
        · (intro w hSw; (try dsimp only at hSw); go_simp; try with_reducible rfl)
        simp only [Act.put, List.setIfInBounds_toArray, List.set_cons_zero, List.set_cons_succ, List.getElem_toArray, List.getElem_cons_zero, List.getElem_cons_succ]
        refine wpAnyH_take (i := 3) (v := ?_) rfl (by kernel_rfl) (by kernel_rfl) (by kernel_rfl) (fun _ _ _ h => h) (Or.inl ⟨by rfl, ?_⟩) (by assumption) ?_
        rotate_left 1
        · (intro w hSw; (try dsimp only at hSw); go_simp; try with_reducible rfl)
        simp only [Act.put, List.setIfInBounds_toArray, List.set_cons_zero, List.set_cons_succ, List.getElem_toArray, List.getElem_cons_zero, List.getElem_cons_succ]
        refine wpAnyH_take (i := 4) (v := ?_) rfl (by kernel_rfl) (by kernel_rfl) (by kernel_rfl) (fun _ _ _ h => h) (Or.inl ⟨by rfl, ?_⟩) (by assumption) ?_
        rotate_left 1
        · (intro w hSw; (try dsimp only at hSw); go_simp; try with_reducible rfl)
        simp only [Act.put, List.setIfInBounds_toArray, List.set_cons_zero, List.set_cons_succ, List.getElem_toArray, List.getElem_cons_zero, List.getElem_cons_succ]
        refine wpAnyH_ready (rs := [2]) (by kernel_rfl) (by simp) ?_
        refine AllReadyH.cons rfl (fun K hK => ?_) AllReadyH.nil
        go_simp
        refine (IsMissing_any A1 A2 n1 n2 c1 c2 m x _ s hs').mono ?_
        rintro e wa ⟨rfl, b⟩
        have K' := bel_then KB b
        replace s := s.next b
        replace Bm := Bm.next b
        replace Bx := Bx.next b
        replace KB := K'
        clear K' b
        go_wp2_with fail
        refine hK.out _ _ (by (try dsimp only); exact ⟨Bm.cell 0, Bm.cell 1, Bm.cell 2, Bm.cell 3, Bx.cell 0, Bx.cell 1, Bx.cell 2, Bx.cell 3⟩) (fun hHeld => ?_)
        clear hK K
        refine wpAnyH_ready (rs := [5]) (by kernel_rfl) (by simp) ?_
        refine AllReadyH.cons rfl (fun K hK => ?_) AllReadyH.nil
        go_simp
        refine (specIsMissing_any A1 A2 n1 n2 c1 c2 m x _ s hs').mono ?_
        rintro e wa ⟨rfl, b⟩
        have K' := bel_then KB b
        replace s := s.next b
        replace Bm := Bm.next b
        replace Bx := Bx.next b
        replace KB := K'
        clear K' b
        go_wp2_with fail
        refine hK.out _ _ (by (try dsimp only); exact ⟨Bm.cell 0, Bm.cell 1, Bm.cell 2, Bm.cell 3, Bx.cell 0, Bx.cell 1, Bx.cell 2, Bx.cell 3⟩) (fun hHeld => ?_)
        clear hK K
        refine wpAnyH_take (i := 6) (v := ?_) rfl (by kernel_rfl) (by kernel_rfl) (by kernel_rfl) (fun _ _ _ h => h) (Or.inl ⟨by rfl, ?_⟩) (by assumption) ?_
        rotate_left 1
        · (intro w hSw; (try dsimp only at hSw); go_simp; try with_reducible rfl)
        simp only [Act.put, List.setIfInBounds_toArray, List.set_cons_zero, List.set_cons_succ, List.getElem_toArray, List.getElem_cons_zero, List.getElem_cons_succ]
        refine wpAnyH_take (i := 7) (v := ?_) rfl (by kernel_rfl) (by kernel_rfl) (by kernel_rfl) (fun _ _ _ h => h) (Or.inl ⟨by rfl, ?_⟩) (by assumption) ?_
        rotate_left 1
        · (intro w hSw; (try dsimp only at hSw); go_simp; try with_reducible rfl)
        simp only [Act.put, List.setIfInBounds_toArray, List.set_cons_zero, List.set_cons_succ, List.getElem_toArray, List.getElem_cons_zero, List.getElem_cons_succ]
        refine wpAnyH_done (by kernel_rfl) ?_ _
        have hbb : (missingB m x == missingB m x) = true := beq_self_eq_true _
        go_wp2_with fail
        go_ret
        exact ⟨rfl, KB⟩
  | true =>
    have hFs : fieldM m x pace time = some F := by
      cases hR : fieldM m x pace time with
      | none => rw [hR] at ho0; cases ho0
      | some S => rw [hR] at hF; simp only [Option.getD_some] at hF; rw [hF]
    obtain ⟨hmi, hpa, hti, -⟩ := field_facts hFs
    have htw : IntKind.i64.wrap (time + pace) = time + pace := IntWalk.i64_in _ (by have := missing_facts hmi; omega)
    clear CBm CBx SG
    have CBm := Bm.cell
    have CBx := Bx.cell
    go_wp2_with fail
    refine (FieldOf_any A1 A2 n1 n2 c1 c2 m x pace (time + pace) w5 s hs').mono ?_
    rintro e w35 ⟨AG, cG, rfl, oG, b⟩
    have K' := bel_then K b
    replace hC := hC.next b
    replace s := s.next b
    replace Bm := Bm.next b
    replace Bx := Bx.next b
    replace SF := SF.next b
    replace K := K'
    clear K' b
    have SG := (Sees.of_own oG).less (Nat.zero_le _)
    clear oG
    clear CBm CBx
    have CBm := Bm.cell
    have CBx := Bx.cell
    have hHas : ∀ G0 o1, (fieldM m x pace (time + pace)).getD [] = G0 → (fieldM m x pace (time + pace)).isSome = o1 → G0.length ≤ 36 ∧ (o1 = true → ∀ c ∈ F, hasI G0 c = true) := by
      rintro G0 o1 rfl rfl
      cases hB : fieldM m x pace (time + pace) with
      | none => simp
      | some G => exact ⟨field_small hB, fun _ => field_grows hFs hB⟩
    obtain ⟨G0, hG0⟩ : ∃ G0, (fieldM m x pace (time + pace)).getD [] = G0 := ⟨_, rfl⟩
    obtain ⟨o1, ho1⟩ : ∃ o1, (fieldM m x pace (time + pace)).isSome = o1 := ⟨_, rfl⟩
    obtain ⟨hGl, hGc⟩ := hHas G0 o1 hG0 ho1
    rw [hG0] at SG
    rw [hG0, ho1]
    clear hHas hG0 ho1
    go_wp2_with fail
    go_loopw [13] (fun v wr => ∃ k : Nat, k ≤ F.length ∧ v = .int .i64 k ∧ Quiet w35 wr) (fun v _ => F.length - (intOf v).toNat)
    case atStart => exact ⟨0, Nat.zero_le _, rfl, Quiet.refl _⟩
    case round =>
      obtain ⟨k, hk, rfl, hq⟩ := hrel
      have hk' : (k : Int) ≤ 36 := by omega
      by_cases hlt : k < F.length
      · cases o1 with
        | true =>
          obtain ⟨bf, off, rfl, hkx, hcx⟩ := (SF.next (hq.below _)).int hlt
          have hcell := hcx
          go_wp2_with fail
          refine (rHas_any AG _ cG G0 F[k] wr (SG.next (hq.below _)) (by omega)).mono ?_
          rintro e wz ⟨rfl, qq⟩
          rw [hGc (by simp) F[k] (List.getElem_mem hkx)]
          go_wp2_with fail
          go_roundw
          case rel => exact ⟨k + 1, by omega, by go_num, hq.trans qq⟩
          case measure => simp [intOf]; omega
        | false =>
          have b := hq.below w35.heap.size
          have K' := bel_then K b
          replace hC := hC.next b
          replace s := s.next b
          replace Bm := Bm.next b
          replace Bx := Bx.next b
          replace SF := SF.next b
          replace SG := SG.next b
          replace K := K'
          clear K' hq b
          clear CBm CBx
          have CBm := Bm.cell
          have CBx := Bx.cell
          go_wp2_with fail
          refine (ChancesOf_any A1 A2 n1 n2 c1 c2 m x pace time wr s hs').mono ?_
          rintro e w36 ⟨AS, cS, rfl, oS, b⟩
          have K' := bel_then K b
          replace hC := hC.next b
          replace s := s.next b
          replace Bm := Bm.next b
          replace Bx := Bx.next b
          replace SF := SF.next b
          replace SG := SG.next b
          replace K := K'
          clear K' b
          clear oS
          clear CBm CBx
          have CBm := Bm.cell
          have CBx := Bx.cell
          obtain ⟨S0, hS0, hSl⟩ := chances_some hFs
          rw [hS0]
          simp only [Option.getD_some, Option.isSome_some]
          have hSi : (S0.length : Int) = (F.length : Int) := by omega
          have hSn : ((S0.length : Int) != (F.length : Int)) = false := by simp [hSl]
          go_wp2_with fail
          refine (rHas_any AF _ cF F x.place w36 SF (by omega)).mono ?_
          rintro e w37 ⟨rfl, qq⟩
          have b := qq.below w36.heap.size
          have K' := bel_then K b
          replace hC := hC.next b
          replace s := s.next b
          replace Bm := Bm.next b
          replace Bx := Bx.next b
          replace SF := SF.next b
          replace SG := SG.next b
          replace K := K'
          clear K' qq b
          rw [field_own hFs]
          go_wp2_with fail
          clear CBm CBx SF SG s Bm Bx
          clear hs hs' hF ho0 hFl hoo hFs
          refine (drawFirstIn_any w37 A n c hC (by omega)).mono ?_
          rintro e w38 ⟨m, A1, n1, c1, A2, n2, c2, x, pace, time, rfl, s, hs, b, _, _⟩
          have K' := bel_then K b
          replace hC := hC.next b
          replace K := K'
          clear K' b
          go_wp2_with fail
          have U : Below w38.heap.size w38 ((w38.alloc (.cells #[.int .i64 m.width, .int .i64 m.height, .slice A1 n1 c1, .slice A2 n2 c2] 29)).alloc (.cells #[.int .i64 x.runner, .int .i64 x.start, .int .i64 x.seen, .int .i64 x.place] 31)) := two _ _ _
          have Bm : Blk ((w38.alloc (.cells #[.int .i64 m.width, .int .i64 m.height, .slice A1 n1 c1, .slice A2 n2 c2] 29)).alloc (.cells #[.int .i64 x.runner, .int .i64 x.start, .int .i64 x.seen, .int .i64 x.place] 31)) w38.heap.size 29 [.int .i64 m.width, .int .i64 m.height, .slice A1 n1 c1, .slice A2 n2 c2] := (Blk.at_ rfl : Blk (w38.alloc _) w38.heap.size 29 [.int .i64 m.width, .int .i64 m.height, .slice A1 n1 c1, .slice A2 n2 c2]).next ((Below.refl _ _).alloc (Nat.le_refl _) _)
          have Bx : Blk ((w38.alloc (.cells #[.int .i64 m.width, .int .i64 m.height, .slice A1 n1 c1, .slice A2 n2 c2] 29)).alloc (.cells #[.int .i64 x.runner, .int .i64 x.start, .int .i64 x.seen, .int .i64 x.place] 31)) (w38.heap.size + 1) 31 [.int .i64 x.runner, .int .i64 x.start, .int .i64 x.seen, .int .i64 x.place] := Blk.at_ (by simp)
          have K' := bel_then K U
          replace hC := hC.next U
          replace s := s.next U
          replace K := K'
          clear K' U
          generalize ((w38.alloc (.cells #[.int .i64 m.width, .int .i64 m.height, .slice A1 n1 c1, .slice A2 n2 c2] 29)).alloc (.cells #[.int .i64 x.runner, .int .i64 x.start, .int .i64 x.seen, .int .i64 x.place] 31)) = w39 at *
          generalize w38.heap.size + 1 = gx at *
          generalize w38.heap.size = gm at *
          have CBm := Bm.cell
          have CBx := Bx.cell
          have hs' : n1 ≤ 1048576 ∧ n2 ≤ 1048576 := by omega
          refine (FirstIn_any A1 A2 n1 n2 c1 c2 m x pace time w39 s hs').mono ?_
          rintro e w40 ⟨rfl, b⟩
          have K' := bel_then K b
          replace hC := hC.next b
          replace s := s.next b
          replace Bm := Bm.next b
          replace Bx := Bx.next b
          replace K := K'
          clear K' b
          clear CBm CBx
          have CBm := Bm.cell
          have CBx := Bx.cell
          go_wp2_with fail
          refine (specFirstIn_any A1 A2 n1 n2 c1 c2 m x pace time w40 s hs').mono ?_
          rintro e w41 ⟨rfl, b⟩
          have K' := bel_then K b
          replace hC := hC.next b
          replace s := s.next b
          replace Bm := Bm.next b
          replace Bx := Bx.next b
          replace K := K'
          clear K' b
          clear CBm CBx
          have CBm := Bm.cell
          have CBx := Bx.cell
          cases hR : firstM m x pace time with
          | none =>
            simp only [Option.getD_none, Option.isSome_none]
            go_wp2_with fail
            clear CBm CBx s Bm Bx
            clear hs hs' hR
            refine (drawChancesOf_any w41 A n c hC (by omega)).mono ?_
            rintro e w42 ⟨m, A1, n1, c1, A2, n2, c2, x, pace, time, rfl, s, hs, b, _, _⟩
            have K' := bel_then K b
            replace hC := hC.next b
            replace K := K'
            clear K' b
            go_wp2_with fail
            have U : Below w42.heap.size w42 ((w42.alloc (.cells #[.int .i64 m.width, .int .i64 m.height, .slice A1 n1 c1, .slice A2 n2 c2] 29)).alloc (.cells #[.int .i64 x.runner, .int .i64 x.start, .int .i64 x.seen, .int .i64 x.place] 31)) := two _ _ _
            have Bm : Blk ((w42.alloc (.cells #[.int .i64 m.width, .int .i64 m.height, .slice A1 n1 c1, .slice A2 n2 c2] 29)).alloc (.cells #[.int .i64 x.runner, .int .i64 x.start, .int .i64 x.seen, .int .i64 x.place] 31)) w42.heap.size 29 [.int .i64 m.width, .int .i64 m.height, .slice A1 n1 c1, .slice A2 n2 c2] := (Blk.at_ rfl : Blk (w42.alloc _) w42.heap.size 29 [.int .i64 m.width, .int .i64 m.height, .slice A1 n1 c1, .slice A2 n2 c2]).next ((Below.refl _ _).alloc (Nat.le_refl _) _)
            have Bx : Blk ((w42.alloc (.cells #[.int .i64 m.width, .int .i64 m.height, .slice A1 n1 c1, .slice A2 n2 c2] 29)).alloc (.cells #[.int .i64 x.runner, .int .i64 x.start, .int .i64 x.seen, .int .i64 x.place] 31)) (w42.heap.size + 1) 31 [.int .i64 x.runner, .int .i64 x.start, .int .i64 x.seen, .int .i64 x.place] := Blk.at_ (by simp)
            have K' := bel_then K U
            replace hC := hC.next U
            replace s := s.next U
            replace K := K'
            clear K' U
            generalize ((w42.alloc (.cells #[.int .i64 m.width, .int .i64 m.height, .slice A1 n1 c1, .slice A2 n2 c2] 29)).alloc (.cells #[.int .i64 x.runner, .int .i64 x.start, .int .i64 x.seen, .int .i64 x.place] 31)) = w43 at *
            generalize w42.heap.size + 1 = gx at *
            generalize w42.heap.size = gm at *
            have CBm := Bm.cell
            have CBx := Bx.cell
            have hs' : n1 ≤ 1048576 ∧ n2 ≤ 1048576 := by omega
            refine (ChancesOf_any A1 A2 n1 n2 c1 c2 m x pace time w43 s hs').mono ?_
            rintro e w44 ⟨AS, cS, rfl, oS, b⟩
            have K' := bel_then K b
            replace hC := hC.next b
            replace s := s.next b
            replace Bm := Bm.next b
            replace Bx := Bx.next b
            replace K := K'
            clear K' b
            have SS := (Sees.of_own oS).less (Nat.zero_le _)
            clear oS
            clear CBm CBx
            have CBm := Bm.cell
            have CBx := Bx.cell
            go_wp2_with fail
            refine (specChancesOf_any A1 A2 n1 n2 c1 c2 m x pace time w44 s hs').mono ?_
            rintro e w45 ⟨AT, cT, rfl, oT, b⟩
            have K' := bel_then K b
            replace hC := hC.next b
            replace s := s.next b
            replace Bm := Bm.next b
            replace Bx := Bx.next b
            replace SS := SS.next b
            replace K := K'
            clear K' b
            have ST := (Sees.of_own oT).less (Nat.zero_le _)
            clear oT
            clear CBm CBx
            have CBm := Bm.cell
            have CBx := Bx.cell
            have hSl : ((chancesM m x pace time).getD []).length ≤ 36 := by
              cases hR : chancesM m x pace time with
              | none => simp
              | some S => exact chances_small hR
            generalize (chancesM m x pace time).getD [] = S0 at *
            generalize (chancesM m x pace time).isSome = o0 at *
            have hoo : (o0 != o0) = false := bne_self_eq_false o0
            go_wp2_with fail
            refine (rSectors_any AS AT _ _ cS cT 0 0 S0 S0 w45 SS ST rfl (by omega)).mono ?_
            rintro e w46 ⟨rfl, qq⟩
            have b := qq.below w45.heap.size
            have K' := bel_then K b
            replace hC := hC.next b
            clear K qq b
            clear CBm CBx SS ST s Bm Bx
            have K := K'
            clear K'
            go_wp2_with fail
            refine (drawIsMissing_any w46 A n c hC (by omega)).mono ?_
            rintro e w47 ⟨m, A1, n1, c1, A2, n2, c2, x, rfl, s, hs, b⟩
            have K' := bel_then K b
            replace hC := hC.next b
            replace K := K'
            clear K' b
            go_wp2_with fail
            have U : Below w47.heap.size w47 ((w47.alloc (.cells #[.int .i64 m.width, .int .i64 m.height, .slice A1 n1 c1, .slice A2 n2 c2] 29)).alloc (.cells #[.int .i64 x.runner, .int .i64 x.start, .int .i64 x.seen, .int .i64 x.place] 31)) := two _ _ _
            have Bm : Blk ((w47.alloc (.cells #[.int .i64 m.width, .int .i64 m.height, .slice A1 n1 c1, .slice A2 n2 c2] 29)).alloc (.cells #[.int .i64 x.runner, .int .i64 x.start, .int .i64 x.seen, .int .i64 x.place] 31)) w47.heap.size 29 [.int .i64 m.width, .int .i64 m.height, .slice A1 n1 c1, .slice A2 n2 c2] := (Blk.at_ rfl : Blk (w47.alloc _) w47.heap.size 29 [.int .i64 m.width, .int .i64 m.height, .slice A1 n1 c1, .slice A2 n2 c2]).next ((Below.refl _ _).alloc (Nat.le_refl _) _)
            have Bx : Blk ((w47.alloc (.cells #[.int .i64 m.width, .int .i64 m.height, .slice A1 n1 c1, .slice A2 n2 c2] 29)).alloc (.cells #[.int .i64 x.runner, .int .i64 x.start, .int .i64 x.seen, .int .i64 x.place] 31)) (w47.heap.size + 1) 31 [.int .i64 x.runner, .int .i64 x.start, .int .i64 x.seen, .int .i64 x.place] := Blk.at_ (by simp)
            have K' := bel_then K U
            replace hC := hC.next U
            replace s := s.next U
            replace K := K'
            clear K' U
            generalize ((w47.alloc (.cells #[.int .i64 m.width, .int .i64 m.height, .slice A1 n1 c1, .slice A2 n2 c2] 29)).alloc (.cells #[.int .i64 x.runner, .int .i64 x.start, .int .i64 x.seen, .int .i64 x.place] 31)) = w48 at *
            generalize w47.heap.size + 1 = gx at *
            generalize w47.heap.size = gm at *
            have CBm := Bm.cell
            have CBx := Bx.cell
            have hs' : n1 ≤ 1048576 ∧ n2 ≤ 1048576 := by omega
            clear CBm CBx
            have KB := K
            clear K
            have b := (Quiet.one w48).below w48.heap.size
            refine wp_region_held_drew (S := fun w' => w'.cell? ⟨gm, 0, none⟩ = some (.int .i64 m.width) ∧ w'.cell? ⟨gm, 1, none⟩ = some (.int .i64 m.height) ∧ w'.cell? ⟨gm, 2, none⟩ = some (.slice A1 n1 c1) ∧ w'.cell? ⟨gm, 3, none⟩ = some (.slice A2 n2 c2) ∧ w'.cell? ⟨gx, 0, none⟩ = some (.int .i64 x.runner) ∧ w'.cell? ⟨gx, 1, none⟩ = some (.int .i64 x.start) ∧ w'.cell? ⟨gx, 2, none⟩ = some (.int .i64 x.seen) ∧ w'.cell? ⟨gx, 3, none⟩ = some (.int .i64 x.place)) (by kernel_rfl) (by (try dsimp only); exact ⟨(Bm.next b).cell 0, (Bm.next b).cell 1, (Bm.next b).cell 2, (Bm.next b).cell 3, (Bx.next b).cell 0, (Bx.next b).cell 1, (Bx.next b).cell 2, (Bx.next b).cell 3⟩) (fun hHeld => ?_)
            have K' := bel_then KB b
            replace s := s.next b
            replace Bm := Bm.next b
            replace Bx := Bx.next b
            replace KB := K'
            clear K' b
            generalize w48.drew = wd at *
            refine wpAnyH_take (i := 0) (v := ?_) rfl (by kernel_rfl) (by kernel_rfl) (by kernel_rfl) (fun _ _ _ h => h) (Or.inl ⟨by rfl, ?_⟩) (by assumption) ?_
            rotate_left 1
            · (intro w hSw; (try dsimp only at hSw); go_simp; try with_reducible rfl)
            simp only [Act.put, List.setIfInBounds_toArray, List.set_cons_zero, List.set_cons_succ, List.getElem_toArray, List.getElem_cons_zero]
            refine wpAnyH_take (i := 1) (v := ?_) rfl (by kernel_rfl) (by kernel_rfl) (by kernel_rfl) (fun _ _ _ h => h) (Or.inl ⟨by rfl, ?_⟩) (by assumption) ?_
            rotate_left 1
            · (intro w hSw; (try dsimp only at hSw); go_simp; try with_reducible rfl)
            simp only [Act.put, List.setIfInBounds_toArray, List.set_cons_zero, List.set_cons_succ, List.getElem_toArray, List.getElem_cons_zero, List.getElem_cons_succ]
            refine wpAnyH_take (i := 3) (v := ?_) rfl (by kernel_rfl) (by kernel_rfl) (by kernel_rfl) (fun _ _ _ h => h) (Or.inl ⟨by rfl, ?_⟩) (by assumption) ?_
            rotate_left 1
            · (intro w hSw; (try dsimp only at hSw); go_simp; try with_reducible rfl)
            simp only [Act.put, List.setIfInBounds_toArray, List.set_cons_zero, List.set_cons_succ, List.getElem_toArray, List.getElem_cons_zero, List.getElem_cons_succ]
            refine wpAnyH_take (i := 4) (v := ?_) rfl (by kernel_rfl) (by kernel_rfl) (by kernel_rfl) (fun _ _ _ h => h) (Or.inl ⟨by rfl, ?_⟩) (by assumption) ?_
            rotate_left 1
            · (intro w hSw; (try dsimp only at hSw); go_simp; try with_reducible rfl)
            simp only [Act.put, List.setIfInBounds_toArray, List.set_cons_zero, List.set_cons_succ, List.getElem_toArray, List.getElem_cons_zero, List.getElem_cons_succ]
            refine wpAnyH_ready (rs := [2]) (by kernel_rfl) (by simp) ?_
            refine AllReadyH.cons rfl (fun K hK => ?_) AllReadyH.nil
            go_simp
            refine (IsMissing_any A1 A2 n1 n2 c1 c2 m x _ s hs').mono ?_
            rintro e wa ⟨rfl, b⟩
            have K' := bel_then KB b
            replace s := s.next b
            replace Bm := Bm.next b
            replace Bx := Bx.next b
            replace KB := K'
            clear K' b
            go_wp2_with fail
            refine hK.out _ _ (by (try dsimp only); exact ⟨Bm.cell 0, Bm.cell 1, Bm.cell 2, Bm.cell 3, Bx.cell 0, Bx.cell 1, Bx.cell 2, Bx.cell 3⟩) (fun hHeld => ?_)
            clear hK K
            refine wpAnyH_ready (rs := [5]) (by kernel_rfl) (by simp) ?_
            refine AllReadyH.cons rfl (fun K hK => ?_) AllReadyH.nil
            go_simp
            refine (specIsMissing_any A1 A2 n1 n2 c1 c2 m x _ s hs').mono ?_
            rintro e wa ⟨rfl, b⟩
            have K' := bel_then KB b
            replace s := s.next b
            replace Bm := Bm.next b
            replace Bx := Bx.next b
            replace KB := K'
            clear K' b
            go_wp2_with fail
            refine hK.out _ _ (by (try dsimp only); exact ⟨Bm.cell 0, Bm.cell 1, Bm.cell 2, Bm.cell 3, Bx.cell 0, Bx.cell 1, Bx.cell 2, Bx.cell 3⟩) (fun hHeld => ?_)
            clear hK K
            refine wpAnyH_take (i := 6) (v := ?_) rfl (by kernel_rfl) (by kernel_rfl) (by kernel_rfl) (fun _ _ _ h => h) (Or.inl ⟨by rfl, ?_⟩) (by assumption) ?_
            rotate_left 1
            · (intro w hSw; (try dsimp only at hSw); go_simp; try with_reducible rfl)
            simp only [Act.put, List.setIfInBounds_toArray, List.set_cons_zero, List.set_cons_succ, List.getElem_toArray, List.getElem_cons_zero, List.getElem_cons_succ]
            refine wpAnyH_take (i := 7) (v := ?_) rfl (by kernel_rfl) (by kernel_rfl) (by kernel_rfl) (fun _ _ _ h => h) (Or.inl ⟨by rfl, ?_⟩) (by assumption) ?_
            rotate_left 1
            · (intro w hSw; (try dsimp only at hSw); go_simp; try with_reducible rfl)
            simp only [Act.put, List.setIfInBounds_toArray, List.set_cons_zero, List.set_cons_succ, List.getElem_toArray, List.getElem_cons_zero, List.getElem_cons_succ]
            refine wpAnyH_done (by kernel_rfl) ?_ _
            have hbb : (missingB m x == missingB m x) = true := beq_self_eq_true _
            go_wp2_with fail
            go_ret
            exact ⟨rfl, KB⟩
          | some t =>
            obtain ⟨ht, ⟨F, hF, hFc⟩, hG⟩ := first_facts hR
            simp only [Option.getD_some, Option.isSome_some]
            have htw : IntKind.i64.wrap (t - 1) = t - 1 := IntWalk.i64_in _ (by omega)
            go_wp2_with fail
            refine (FieldOf_any A1 A2 n1 n2 c1 c2 m x pace t w41 s hs').mono ?_
            rintro e w49 ⟨AF, cF, rfl, oF, b⟩
            have K' := bel_then K b
            replace hC := hC.next b
            replace s := s.next b
            replace Bm := Bm.next b
            replace Bx := Bx.next b
            replace K := K'
            clear K' b
            have SF := (Sees.of_own oF).less (Nat.zero_le _)
            clear oF
            clear CBm CBx
            have CBm := Bm.cell
            have CBx := Bx.cell
            have hFl := field_small hF
            rw [hF] at SF ⊢
            simp only [Option.getD_some, Option.isSome_some] at SF ⊢
            go_wp2_with fail
            refine (FieldOf_any A1 A2 n1 n2 c1 c2 m x pace (t - 1) w49 s hs').mono ?_
            rintro e w50 ⟨AG, cG, rfl, oG, b⟩
            have K' := bel_then K b
            replace hC := hC.next b
            replace s := s.next b
            replace Bm := Bm.next b
            replace Bx := Bx.next b
            replace SF := SF.next b
            replace K := K'
            clear K' b
            have SG := (Sees.of_own oG).less (Nat.zero_le _)
            clear oG
            clear CBm CBx
            have CBm := Bm.cell
            have CBx := Bx.cell
            have hHas : ∀ G0 o0, (fieldM m x pace (t - 1)).getD [] = G0 → (fieldM m x pace (t - 1)).isSome = o0 → G0.length ≤ 36 ∧ (o0 = true → hasI G0 time = false) := by
              rintro G0 o0 rfl rfl
              cases hB : fieldM m x pace (t - 1) with
              | none => simp
              | some G => exact ⟨field_small hB, fun _ => hG G hB⟩
            obtain ⟨G0, hG0⟩ : ∃ G0, (fieldM m x pace (t - 1)).getD [] = G0 := ⟨_, rfl⟩
            obtain ⟨o0, ho0⟩ : ∃ o0, (fieldM m x pace (t - 1)).isSome = o0 := ⟨_, rfl⟩
            obtain ⟨hGl, hGc⟩ := hHas G0 o0 hG0 ho0
            rw [hG0] at SG
            rw [hG0, ho0]
            clear hHas hG0 ho0 hG
            go_wp2_with fail
            refine (rHas_any AF _ cF _ time w50 SF (by omega)).mono ?_
            rintro e w51 ⟨rfl, qq⟩
            have b := qq.below w50.heap.size
            have K' := bel_then K b
            replace hC := hC.next b
            replace s := s.next b
            replace Bm := Bm.next b
            replace Bx := Bx.next b
            replace SF := SF.next b
            replace SG := SG.next b
            replace K := K'
            clear K' qq b
            rw [hFc]
            cases o0 with
            | false =>
              go_wp2_with fail
              clear CBm CBx SF SG s Bm Bx
              clear hs hs' hR hF
              refine (drawChancesOf_any w51 A n c hC (by omega)).mono ?_
              rintro e w52 ⟨m, A1, n1, c1, A2, n2, c2, x, pace, time, rfl, s, hs, b, _, _⟩
              have K' := bel_then K b
              replace hC := hC.next b
              replace K := K'
              clear K' b
              go_wp2_with fail
              have U : Below w52.heap.size w52 ((w52.alloc (.cells #[.int .i64 m.width, .int .i64 m.height, .slice A1 n1 c1, .slice A2 n2 c2] 29)).alloc (.cells #[.int .i64 x.runner, .int .i64 x.start, .int .i64 x.seen, .int .i64 x.place] 31)) := two _ _ _
              have Bm : Blk ((w52.alloc (.cells #[.int .i64 m.width, .int .i64 m.height, .slice A1 n1 c1, .slice A2 n2 c2] 29)).alloc (.cells #[.int .i64 x.runner, .int .i64 x.start, .int .i64 x.seen, .int .i64 x.place] 31)) w52.heap.size 29 [.int .i64 m.width, .int .i64 m.height, .slice A1 n1 c1, .slice A2 n2 c2] := (Blk.at_ rfl : Blk (w52.alloc _) w52.heap.size 29 [.int .i64 m.width, .int .i64 m.height, .slice A1 n1 c1, .slice A2 n2 c2]).next ((Below.refl _ _).alloc (Nat.le_refl _) _)
              have Bx : Blk ((w52.alloc (.cells #[.int .i64 m.width, .int .i64 m.height, .slice A1 n1 c1, .slice A2 n2 c2] 29)).alloc (.cells #[.int .i64 x.runner, .int .i64 x.start, .int .i64 x.seen, .int .i64 x.place] 31)) (w52.heap.size + 1) 31 [.int .i64 x.runner, .int .i64 x.start, .int .i64 x.seen, .int .i64 x.place] := Blk.at_ (by simp)
              have K' := bel_then K U
              replace hC := hC.next U
              replace s := s.next U
              replace K := K'
              clear K' U
              generalize ((w52.alloc (.cells #[.int .i64 m.width, .int .i64 m.height, .slice A1 n1 c1, .slice A2 n2 c2] 29)).alloc (.cells #[.int .i64 x.runner, .int .i64 x.start, .int .i64 x.seen, .int .i64 x.place] 31)) = w53 at *
              generalize w52.heap.size + 1 = gx at *
              generalize w52.heap.size = gm at *
              have CBm := Bm.cell
              have CBx := Bx.cell
              have hs' : n1 ≤ 1048576 ∧ n2 ≤ 1048576 := by omega
              refine (ChancesOf_any A1 A2 n1 n2 c1 c2 m x pace time w53 s hs').mono ?_
              rintro e w54 ⟨AS, cS, rfl, oS, b⟩
              have K' := bel_then K b
              replace hC := hC.next b
              replace s := s.next b
              replace Bm := Bm.next b
              replace Bx := Bx.next b
              replace K := K'
              clear K' b
              have SS := (Sees.of_own oS).less (Nat.zero_le _)
              clear oS
              clear CBm CBx
              have CBm := Bm.cell
              have CBx := Bx.cell
              go_wp2_with fail
              refine (specChancesOf_any A1 A2 n1 n2 c1 c2 m x pace time w54 s hs').mono ?_
              rintro e w55 ⟨AT, cT, rfl, oT, b⟩
              have K' := bel_then K b
              replace hC := hC.next b
              replace s := s.next b
              replace Bm := Bm.next b
              replace Bx := Bx.next b
              replace SS := SS.next b
              replace K := K'
              clear K' b
              have ST := (Sees.of_own oT).less (Nat.zero_le _)
              clear oT
              clear CBm CBx
              have CBm := Bm.cell
              have CBx := Bx.cell
              have hSl : ((chancesM m x pace time).getD []).length ≤ 36 := by
                cases hR : chancesM m x pace time with
                | none => simp
                | some S => exact chances_small hR
              generalize (chancesM m x pace time).getD [] = S0 at *
              generalize (chancesM m x pace time).isSome = o0 at *
              have hoo : (o0 != o0) = false := bne_self_eq_false o0
              go_wp2_with fail
              refine (rSectors_any AS AT _ _ cS cT 0 0 S0 S0 w55 SS ST rfl (by omega)).mono ?_
              rintro e w56 ⟨rfl, qq⟩
              have b := qq.below w55.heap.size
              have K' := bel_then K b
              replace hC := hC.next b
              clear K qq b
              clear CBm CBx SS ST s Bm Bx
              have K := K'
              clear K'
              go_wp2_with fail
              refine (drawIsMissing_any w56 A n c hC (by omega)).mono ?_
              rintro e w57 ⟨m, A1, n1, c1, A2, n2, c2, x, rfl, s, hs, b⟩
              have K' := bel_then K b
              replace hC := hC.next b
              replace K := K'
              clear K' b
              go_wp2_with fail
              have U : Below w57.heap.size w57 ((w57.alloc (.cells #[.int .i64 m.width, .int .i64 m.height, .slice A1 n1 c1, .slice A2 n2 c2] 29)).alloc (.cells #[.int .i64 x.runner, .int .i64 x.start, .int .i64 x.seen, .int .i64 x.place] 31)) := two _ _ _
              have Bm : Blk ((w57.alloc (.cells #[.int .i64 m.width, .int .i64 m.height, .slice A1 n1 c1, .slice A2 n2 c2] 29)).alloc (.cells #[.int .i64 x.runner, .int .i64 x.start, .int .i64 x.seen, .int .i64 x.place] 31)) w57.heap.size 29 [.int .i64 m.width, .int .i64 m.height, .slice A1 n1 c1, .slice A2 n2 c2] := (Blk.at_ rfl : Blk (w57.alloc _) w57.heap.size 29 [.int .i64 m.width, .int .i64 m.height, .slice A1 n1 c1, .slice A2 n2 c2]).next ((Below.refl _ _).alloc (Nat.le_refl _) _)
              have Bx : Blk ((w57.alloc (.cells #[.int .i64 m.width, .int .i64 m.height, .slice A1 n1 c1, .slice A2 n2 c2] 29)).alloc (.cells #[.int .i64 x.runner, .int .i64 x.start, .int .i64 x.seen, .int .i64 x.place] 31)) (w57.heap.size + 1) 31 [.int .i64 x.runner, .int .i64 x.start, .int .i64 x.seen, .int .i64 x.place] := Blk.at_ (by simp)
              have K' := bel_then K U
              replace hC := hC.next U
              replace s := s.next U
              replace K := K'
              clear K' U
              generalize ((w57.alloc (.cells #[.int .i64 m.width, .int .i64 m.height, .slice A1 n1 c1, .slice A2 n2 c2] 29)).alloc (.cells #[.int .i64 x.runner, .int .i64 x.start, .int .i64 x.seen, .int .i64 x.place] 31)) = w58 at *
              generalize w57.heap.size + 1 = gx at *
              generalize w57.heap.size = gm at *
              have CBm := Bm.cell
              have CBx := Bx.cell
              have hs' : n1 ≤ 1048576 ∧ n2 ≤ 1048576 := by omega
              clear CBm CBx
              have KB := K
              clear K
              have b := (Quiet.one w58).below w58.heap.size
              refine wp_region_held_drew (S := fun w' => w'.cell? ⟨gm, 0, none⟩ = some (.int .i64 m.width) ∧ w'.cell? ⟨gm, 1, none⟩ = some (.int .i64 m.height) ∧ w'.cell? ⟨gm, 2, none⟩ = some (.slice A1 n1 c1) ∧ w'.cell? ⟨gm, 3, none⟩ = some (.slice A2 n2 c2) ∧ w'.cell? ⟨gx, 0, none⟩ = some (.int .i64 x.runner) ∧ w'.cell? ⟨gx, 1, none⟩ = some (.int .i64 x.start) ∧ w'.cell? ⟨gx, 2, none⟩ = some (.int .i64 x.seen) ∧ w'.cell? ⟨gx, 3, none⟩ = some (.int .i64 x.place)) (by kernel_rfl) (by (try dsimp only); exact ⟨(Bm.next b).cell 0, (Bm.next b).cell 1, (Bm.next b).cell 2, (Bm.next b).cell 3, (Bx.next b).cell 0, (Bx.next b).cell 1, (Bx.next b).cell 2, (Bx.next b).cell 3⟩) (fun hHeld => ?_)
              have K' := bel_then KB b
              replace s := s.next b
              replace Bm := Bm.next b
              replace Bx := Bx.next b
              replace KB := K'
              clear K' b
              generalize w58.drew = wd at *
              refine wpAnyH_take (i := 0) (v := ?_) rfl (by kernel_rfl) (by kernel_rfl) (by kernel_rfl) (fun _ _ _ h => h) (Or.inl ⟨by rfl, ?_⟩) (by assumption) ?_
              rotate_left 1
              · (intro w hSw; (try dsimp only at hSw); go_simp; try with_reducible rfl)
              simp only [Act.put, List.setIfInBounds_toArray, List.set_cons_zero, List.set_cons_succ, List.getElem_toArray, List.getElem_cons_zero]
              refine wpAnyH_take (i := 1) (v := ?_) rfl (by kernel_rfl) (by kernel_rfl) (by kernel_rfl) (fun _ _ _ h => h) (Or.inl ⟨by rfl, ?_⟩) (by assumption) ?_
              rotate_left 1
              · (intro w hSw; (try dsimp only at hSw); go_simp; try with_reducible rfl)
              simp only [Act.put, List.setIfInBounds_toArray, List.set_cons_zero, List.set_cons_succ, List.getElem_toArray, List.getElem_cons_zero, List.getElem_cons_succ]
              refine wpAnyH_take (i := 3) (v := ?_) rfl (by kernel_rfl) (by kernel_rfl) (by kernel_rfl) (fun _ _ _ h => h) (Or.inl ⟨by rfl, ?_⟩) (by assumption) ?_
              rotate_left 1
              · (intro w hSw; (try dsimp only at hSw); go_simp; try with_reducible rfl)
              simp only [Act.put, List.setIfInBounds_toArray, List.set_cons_zero, List.set_cons_succ, List.getElem_toArray, List.getElem_cons_zero, List.getElem_cons_succ]
              refine wpAnyH_take (i := 4) (v := ?_) rfl (by kernel_rfl) (by kernel_rfl) (by kernel_rfl) (fun _ _ _ h => h) (Or.inl ⟨by rfl, ?_⟩) (by assumption) ?_
              rotate_left 1
              · (intro w hSw; (try dsimp only at hSw); go_simp; try with_reducible rfl)
              simp only [Act.put, List.setIfInBounds_toArray, List.set_cons_zero, List.set_cons_succ, List.getElem_toArray, List.getElem_cons_zero, List.getElem_cons_succ]
              refine wpAnyH_ready (rs := [2]) (by kernel_rfl) (by simp) ?_
              refine AllReadyH.cons rfl (fun K hK => ?_) AllReadyH.nil
              go_simp
              refine (IsMissing_any A1 A2 n1 n2 c1 c2 m x _ s hs').mono ?_
              rintro e wa ⟨rfl, b⟩
              have K' := bel_then KB b
              replace s := s.next b
              replace Bm := Bm.next b
              replace Bx := Bx.next b
              replace KB := K'
              clear K' b
              go_wp2_with fail
              refine hK.out _ _ (by (try dsimp only); exact ⟨Bm.cell 0, Bm.cell 1, Bm.cell 2, Bm.cell 3, Bx.cell 0, Bx.cell 1, Bx.cell 2, Bx.cell 3⟩) (fun hHeld => ?_)
              clear hK K
              refine wpAnyH_ready (rs := [5]) (by kernel_rfl) (by simp) ?_
              refine AllReadyH.cons rfl (fun K hK => ?_) AllReadyH.nil
              go_simp
              refine (specIsMissing_any A1 A2 n1 n2 c1 c2 m x _ s hs').mono ?_
              rintro e wa ⟨rfl, b⟩
              have K' := bel_then KB b
              replace s := s.next b
              replace Bm := Bm.next b
              replace Bx := Bx.next b
              replace KB := K'
              clear K' b
              go_wp2_with fail
              refine hK.out _ _ (by (try dsimp only); exact ⟨Bm.cell 0, Bm.cell 1, Bm.cell 2, Bm.cell 3, Bx.cell 0, Bx.cell 1, Bx.cell 2, Bx.cell 3⟩) (fun hHeld => ?_)
              clear hK K
              refine wpAnyH_take (i := 6) (v := ?_) rfl (by kernel_rfl) (by kernel_rfl) (by kernel_rfl) (fun _ _ _ h => h) (Or.inl ⟨by rfl, ?_⟩) (by assumption) ?_
              rotate_left 1
              · (intro w hSw; (try dsimp only at hSw); go_simp; try with_reducible rfl)
              simp only [Act.put, List.setIfInBounds_toArray, List.set_cons_zero, List.set_cons_succ, List.getElem_toArray, List.getElem_cons_zero, List.getElem_cons_succ]
              refine wpAnyH_take (i := 7) (v := ?_) rfl (by kernel_rfl) (by kernel_rfl) (by kernel_rfl) (fun _ _ _ h => h) (Or.inl ⟨by rfl, ?_⟩) (by assumption) ?_
              rotate_left 1
              · (intro w hSw; (try dsimp only at hSw); go_simp; try with_reducible rfl)
              simp only [Act.put, List.setIfInBounds_toArray, List.set_cons_zero, List.set_cons_succ, List.getElem_toArray, List.getElem_cons_zero, List.getElem_cons_succ]
              refine wpAnyH_done (by kernel_rfl) ?_ _
              have hbb : (missingB m x == missingB m x) = true := beq_self_eq_true _
              go_wp2_with fail
              go_ret
              exact ⟨rfl, KB⟩
            | true =>
              go_wp2_with fail
              refine (rHas_any AG _ cG _ time w51 SG (by omega)).mono ?_
              rintro e w59 ⟨rfl, qq⟩
              have b := qq.below w51.heap.size
              have K' := bel_then K b
              replace hC := hC.next b
              replace s := s.next b
              replace Bm := Bm.next b
              replace Bx := Bx.next b
              replace SF := SF.next b
              replace SG := SG.next b
              replace K := K'
              clear K' qq b
              rw [hGc (by simp)]
              go_wp2_with fail
              clear CBm CBx SF SG s Bm Bx
              clear hs hs' hR hF
              refine (drawChancesOf_any w59 A n c hC (by omega)).mono ?_
              rintro e w60 ⟨m, A1, n1, c1, A2, n2, c2, x, pace, time, rfl, s, hs, b, _, _⟩
              have K' := bel_then K b
              replace hC := hC.next b
              replace K := K'
              clear K' b
              go_wp2_with fail
              have U : Below w60.heap.size w60 ((w60.alloc (.cells #[.int .i64 m.width, .int .i64 m.height, .slice A1 n1 c1, .slice A2 n2 c2] 29)).alloc (.cells #[.int .i64 x.runner, .int .i64 x.start, .int .i64 x.seen, .int .i64 x.place] 31)) := two _ _ _
              have Bm : Blk ((w60.alloc (.cells #[.int .i64 m.width, .int .i64 m.height, .slice A1 n1 c1, .slice A2 n2 c2] 29)).alloc (.cells #[.int .i64 x.runner, .int .i64 x.start, .int .i64 x.seen, .int .i64 x.place] 31)) w60.heap.size 29 [.int .i64 m.width, .int .i64 m.height, .slice A1 n1 c1, .slice A2 n2 c2] := (Blk.at_ rfl : Blk (w60.alloc _) w60.heap.size 29 [.int .i64 m.width, .int .i64 m.height, .slice A1 n1 c1, .slice A2 n2 c2]).next ((Below.refl _ _).alloc (Nat.le_refl _) _)
              have Bx : Blk ((w60.alloc (.cells #[.int .i64 m.width, .int .i64 m.height, .slice A1 n1 c1, .slice A2 n2 c2] 29)).alloc (.cells #[.int .i64 x.runner, .int .i64 x.start, .int .i64 x.seen, .int .i64 x.place] 31)) (w60.heap.size + 1) 31 [.int .i64 x.runner, .int .i64 x.start, .int .i64 x.seen, .int .i64 x.place] := Blk.at_ (by simp)
              have K' := bel_then K U
              replace hC := hC.next U
              replace s := s.next U
              replace K := K'
              clear K' U
              generalize ((w60.alloc (.cells #[.int .i64 m.width, .int .i64 m.height, .slice A1 n1 c1, .slice A2 n2 c2] 29)).alloc (.cells #[.int .i64 x.runner, .int .i64 x.start, .int .i64 x.seen, .int .i64 x.place] 31)) = w61 at *
              generalize w60.heap.size + 1 = gx at *
              generalize w60.heap.size = gm at *
              have CBm := Bm.cell
              have CBx := Bx.cell
              have hs' : n1 ≤ 1048576 ∧ n2 ≤ 1048576 := by omega
              refine (ChancesOf_any A1 A2 n1 n2 c1 c2 m x pace time w61 s hs').mono ?_
              rintro e w62 ⟨AS, cS, rfl, oS, b⟩
              have K' := bel_then K b
              replace hC := hC.next b
              replace s := s.next b
              replace Bm := Bm.next b
              replace Bx := Bx.next b
              replace K := K'
              clear K' b
              have SS := (Sees.of_own oS).less (Nat.zero_le _)
              clear oS
              clear CBm CBx
              have CBm := Bm.cell
              have CBx := Bx.cell
              go_wp2_with fail
              refine (specChancesOf_any A1 A2 n1 n2 c1 c2 m x pace time w62 s hs').mono ?_
              rintro e w63 ⟨AT, cT, rfl, oT, b⟩
              have K' := bel_then K b
              replace hC := hC.next b
              replace s := s.next b
              replace Bm := Bm.next b
              replace Bx := Bx.next b
              replace SS := SS.next b
              replace K := K'
              clear K' b
              have ST := (Sees.of_own oT).less (Nat.zero_le _)
              clear oT
              clear CBm CBx
              have CBm := Bm.cell
              have CBx := Bx.cell
              have hSl : ((chancesM m x pace time).getD []).length ≤ 36 := by
                cases hR : chancesM m x pace time with
                | none => simp
                | some S => exact chances_small hR
              generalize (chancesM m x pace time).getD [] = S0 at *
              generalize (chancesM m x pace time).isSome = o0 at *
              have hoo : (o0 != o0) = false := bne_self_eq_false o0
              go_wp2_with fail
              refine (rSectors_any AS AT _ _ cS cT 0 0 S0 S0 w63 SS ST rfl (by omega)).mono ?_
              rintro e w64 ⟨rfl, qq⟩
              have b := qq.below w63.heap.size
              have K' := bel_then K b
              replace hC := hC.next b
              clear K qq b
              clear CBm CBx SS ST s Bm Bx
              have K := K'
              clear K'
              go_wp2_with fail
              refine (drawIsMissing_any w64 A n c hC (by omega)).mono ?_
              rintro e w65 ⟨m, A1, n1, c1, A2, n2, c2, x, rfl, s, hs, b⟩
              have K' := bel_then K b
              replace hC := hC.next b
              replace K := K'
              clear K' b
              go_wp2_with fail
              have U : Below w65.heap.size w65 ((w65.alloc (.cells #[.int .i64 m.width, .int .i64 m.height, .slice A1 n1 c1, .slice A2 n2 c2] 29)).alloc (.cells #[.int .i64 x.runner, .int .i64 x.start, .int .i64 x.seen, .int .i64 x.place] 31)) := two _ _ _
              have Bm : Blk ((w65.alloc (.cells #[.int .i64 m.width, .int .i64 m.height, .slice A1 n1 c1, .slice A2 n2 c2] 29)).alloc (.cells #[.int .i64 x.runner, .int .i64 x.start, .int .i64 x.seen, .int .i64 x.place] 31)) w65.heap.size 29 [.int .i64 m.width, .int .i64 m.height, .slice A1 n1 c1, .slice A2 n2 c2] := (Blk.at_ rfl : Blk (w65.alloc _) w65.heap.size 29 [.int .i64 m.width, .int .i64 m.height, .slice A1 n1 c1, .slice A2 n2 c2]).next ((Below.refl _ _).alloc (Nat.le_refl _) _)
              have Bx : Blk ((w65.alloc (.cells #[.int .i64 m.width, .int .i64 m.height, .slice A1 n1 c1, .slice A2 n2 c2] 29)).alloc (.cells #[.int .i64 x.runner, .int .i64 x.start, .int .i64 x.seen, .int .i64 x.place] 31)) (w65.heap.size + 1) 31 [.int .i64 x.runner, .int .i64 x.start, .int .i64 x.seen, .int .i64 x.place] := Blk.at_ (by simp)
              have K' := bel_then K U
              replace hC := hC.next U
              replace s := s.next U
              replace K := K'
              clear K' U
              generalize ((w65.alloc (.cells #[.int .i64 m.width, .int .i64 m.height, .slice A1 n1 c1, .slice A2 n2 c2] 29)).alloc (.cells #[.int .i64 x.runner, .int .i64 x.start, .int .i64 x.seen, .int .i64 x.place] 31)) = w66 at *
              generalize w65.heap.size + 1 = gx at *
              generalize w65.heap.size = gm at *
              have CBm := Bm.cell
              have CBx := Bx.cell
              have hs' : n1 ≤ 1048576 ∧ n2 ≤ 1048576 := by omega
              clear CBm CBx
              have KB := K
              clear K
              have b := (Quiet.one w66).below w66.heap.size
              refine wp_region_held_drew (S := fun w' => w'.cell? ⟨gm, 0, none⟩ = some (.int .i64 m.width) ∧ w'.cell? ⟨gm, 1, none⟩ = some (.int .i64 m.height) ∧ w'.cell? ⟨gm, 2, none⟩ = some (.slice A1 n1 c1) ∧ w'.cell? ⟨gm, 3, none⟩ = some (.slice A2 n2 c2) ∧ w'.cell? ⟨gx, 0, none⟩ = some (.int .i64 x.runner) ∧ w'.cell? ⟨gx, 1, none⟩ = some (.int .i64 x.start) ∧ w'.cell? ⟨gx, 2, none⟩ = some (.int .i64 x.seen) ∧ w'.cell? ⟨gx, 3, none⟩ = some (.int .i64 x.place)) (by kernel_rfl) (by (try dsimp only); exact ⟨(Bm.next b).cell 0, (Bm.next b).cell 1, (Bm.next b).cell 2, (Bm.next b).cell 3, (Bx.next b).cell 0, (Bx.next b).cell 1, (Bx.next b).cell 2, (Bx.next b).cell 3⟩) (fun hHeld => ?_)
              have K' := bel_then KB b
              replace s := s.next b
              replace Bm := Bm.next b
              replace Bx := Bx.next b
              replace KB := K'
              clear K' b
              generalize w66.drew = wd at *
              refine wpAnyH_take (i := 0) (v := ?_) rfl (by kernel_rfl) (by kernel_rfl) (by kernel_rfl) (fun _ _ _ h => h) (Or.inl ⟨by rfl, ?_⟩) (by assumption) ?_
              rotate_left 1
              · (intro w hSw; (try dsimp only at hSw); go_simp; try with_reducible rfl)
              simp only [Act.put, List.setIfInBounds_toArray, List.set_cons_zero, List.set_cons_succ, List.getElem_toArray, List.getElem_cons_zero]
              refine wpAnyH_take (i := 1) (v := ?_) rfl (by kernel_rfl) (by kernel_rfl) (by kernel_rfl) (fun _ _ _ h => h) (Or.inl ⟨by rfl, ?_⟩) (by assumption) ?_
              rotate_left 1
              · (intro w hSw; (try dsimp only at hSw); go_simp; try with_reducible rfl)
              simp only [Act.put, List.setIfInBounds_toArray, List.set_cons_zero, List.set_cons_succ, List.getElem_toArray, List.getElem_cons_zero, List.getElem_cons_succ]
              refine wpAnyH_take (i := 3) (v := ?_) rfl (by kernel_rfl) (by kernel_rfl) (by kernel_rfl) (fun _ _ _ h => h) (Or.inl ⟨by rfl, ?_⟩) (by assumption) ?_
              rotate_left 1
              · (intro w hSw; (try dsimp only at hSw); go_simp; try with_reducible rfl)
              simp only [Act.put, List.setIfInBounds_toArray, List.set_cons_zero, List.set_cons_succ, List.getElem_toArray, List.getElem_cons_zero, List.getElem_cons_succ]
              refine wpAnyH_take (i := 4) (v := ?_) rfl (by kernel_rfl) (by kernel_rfl) (by kernel_rfl) (fun _ _ _ h => h) (Or.inl ⟨by rfl, ?_⟩) (by assumption) ?_
              rotate_left 1
              · (intro w hSw; (try dsimp only at hSw); go_simp; try with_reducible rfl)
              simp only [Act.put, List.setIfInBounds_toArray, List.set_cons_zero, List.set_cons_succ, List.getElem_toArray, List.getElem_cons_zero, List.getElem_cons_succ]
              refine wpAnyH_ready (rs := [2]) (by kernel_rfl) (by simp) ?_
              refine AllReadyH.cons rfl (fun K hK => ?_) AllReadyH.nil
              go_simp
              refine (IsMissing_any A1 A2 n1 n2 c1 c2 m x _ s hs').mono ?_
              rintro e wa ⟨rfl, b⟩
              have K' := bel_then KB b
              replace s := s.next b
              replace Bm := Bm.next b
              replace Bx := Bx.next b
              replace KB := K'
              clear K' b
              go_wp2_with fail
              refine hK.out _ _ (by (try dsimp only); exact ⟨Bm.cell 0, Bm.cell 1, Bm.cell 2, Bm.cell 3, Bx.cell 0, Bx.cell 1, Bx.cell 2, Bx.cell 3⟩) (fun hHeld => ?_)
              clear hK K
              refine wpAnyH_ready (rs := [5]) (by kernel_rfl) (by simp) ?_
              refine AllReadyH.cons rfl (fun K hK => ?_) AllReadyH.nil
              go_simp
              refine (specIsMissing_any A1 A2 n1 n2 c1 c2 m x _ s hs').mono ?_
              rintro e wa ⟨rfl, b⟩
              have K' := bel_then KB b
              replace s := s.next b
              replace Bm := Bm.next b
              replace Bx := Bx.next b
              replace KB := K'
              clear K' b
              go_wp2_with fail
              refine hK.out _ _ (by (try dsimp only); exact ⟨Bm.cell 0, Bm.cell 1, Bm.cell 2, Bm.cell 3, Bx.cell 0, Bx.cell 1, Bx.cell 2, Bx.cell 3⟩) (fun hHeld => ?_)
              clear hK K
              refine wpAnyH_take (i := 6) (v := ?_) rfl (by kernel_rfl) (by kernel_rfl) (by kernel_rfl) (fun _ _ _ h => h) (Or.inl ⟨by rfl, ?_⟩) (by assumption) ?_
              rotate_left 1
              · (intro w hSw; (try dsimp only at hSw); go_simp; try with_reducible rfl)
              simp only [Act.put, List.setIfInBounds_toArray, List.set_cons_zero, List.set_cons_succ, List.getElem_toArray, List.getElem_cons_zero, List.getElem_cons_succ]
              refine wpAnyH_take (i := 7) (v := ?_) rfl (by kernel_rfl) (by kernel_rfl) (by kernel_rfl) (fun _ _ _ h => h) (Or.inl ⟨by rfl, ?_⟩) (by assumption) ?_
              rotate_left 1
              · (intro w hSw; (try dsimp only at hSw); go_simp; try with_reducible rfl)
              simp only [Act.put, List.setIfInBounds_toArray, List.set_cons_zero, List.set_cons_succ, List.getElem_toArray, List.getElem_cons_zero, List.getElem_cons_succ]
              refine wpAnyH_done (by kernel_rfl) ?_ _
              have hbb : (missingB m x == missingB m x) = true := beq_self_eq_true _
              go_wp2_with fail
              go_ret
              exact ⟨rfl, KB⟩
      · obtain rfl : k = F.length := by omega
        have b := hq.below w35.heap.size
        have K' := bel_then K b
        replace hC := hC.next b
        replace s := s.next b
        replace Bm := Bm.next b
        replace Bx := Bx.next b
        replace SF := SF.next b
        replace SG := SG.next b
        replace K := K'
        clear K' hq b
        clear CBm CBx
        have CBm := Bm.cell
        have CBx := Bx.cell
        go_wp2_with fail
        refine (ChancesOf_any A1 A2 n1 n2 c1 c2 m x pace time wr s hs').mono ?_
        rintro e w36 ⟨AS, cS, rfl, oS, b⟩
        have K' := bel_then K b
        replace hC := hC.next b
        replace s := s.next b
        replace Bm := Bm.next b
        replace Bx := Bx.next b
        replace SF := SF.next b
        replace SG := SG.next b
        replace K := K'
        clear K' b
        clear oS
        clear CBm CBx
        have CBm := Bm.cell
        have CBx := Bx.cell
        obtain ⟨S0, hS0, hSl⟩ := chances_some hFs
        rw [hS0]
        simp only [Option.getD_some, Option.isSome_some]
        have hSi : (S0.length : Int) = (F.length : Int) := by omega
        have hSn : ((S0.length : Int) != (F.length : Int)) = false := by simp [hSl]
        go_wp2_with fail
        refine (rHas_any AF _ cF F x.place w36 SF (by omega)).mono ?_
        rintro e w37 ⟨rfl, qq⟩
        have b := qq.below w36.heap.size
        have K' := bel_then K b
        replace hC := hC.next b
        replace s := s.next b
        replace Bm := Bm.next b
        replace Bx := Bx.next b
        replace SF := SF.next b
        replace SG := SG.next b
        replace K := K'
        clear K' qq b
        rw [field_own hFs]
        go_wp2_with fail
        clear CBm CBx SF SG s Bm Bx
        clear hs hs' hF ho0 hFl hoo hFs
        refine (drawFirstIn_any w37 A n c hC (by omega)).mono ?_
        rintro e w38 ⟨m, A1, n1, c1, A2, n2, c2, x, pace, time, rfl, s, hs, b, _, _⟩
        have K' := bel_then K b
        replace hC := hC.next b
        replace K := K'
        clear K' b
        go_wp2_with fail
        have U : Below w38.heap.size w38 ((w38.alloc (.cells #[.int .i64 m.width, .int .i64 m.height, .slice A1 n1 c1, .slice A2 n2 c2] 29)).alloc (.cells #[.int .i64 x.runner, .int .i64 x.start, .int .i64 x.seen, .int .i64 x.place] 31)) := two _ _ _
        have Bm : Blk ((w38.alloc (.cells #[.int .i64 m.width, .int .i64 m.height, .slice A1 n1 c1, .slice A2 n2 c2] 29)).alloc (.cells #[.int .i64 x.runner, .int .i64 x.start, .int .i64 x.seen, .int .i64 x.place] 31)) w38.heap.size 29 [.int .i64 m.width, .int .i64 m.height, .slice A1 n1 c1, .slice A2 n2 c2] := (Blk.at_ rfl : Blk (w38.alloc _) w38.heap.size 29 [.int .i64 m.width, .int .i64 m.height, .slice A1 n1 c1, .slice A2 n2 c2]).next ((Below.refl _ _).alloc (Nat.le_refl _) _)
        have Bx : Blk ((w38.alloc (.cells #[.int .i64 m.width, .int .i64 m.height, .slice A1 n1 c1, .slice A2 n2 c2] 29)).alloc (.cells #[.int .i64 x.runner, .int .i64 x.start, .int .i64 x.seen, .int .i64 x.place] 31)) (w38.heap.size + 1) 31 [.int .i64 x.runner, .int .i64 x.start, .int .i64 x.seen, .int .i64 x.place] := Blk.at_ (by simp)
        have K' := bel_then K U
        replace hC := hC.next U
        replace s := s.next U
        replace K := K'
        clear K' U
        generalize ((w38.alloc (.cells #[.int .i64 m.width, .int .i64 m.height, .slice A1 n1 c1, .slice A2 n2 c2] 29)).alloc (.cells #[.int .i64 x.runner, .int .i64 x.start, .int .i64 x.seen, .int .i64 x.place] 31)) = w39 at *
        generalize w38.heap.size + 1 = gx at *
        generalize w38.heap.size = gm at *
        have CBm := Bm.cell
        have CBx := Bx.cell
        have hs' : n1 ≤ 1048576 ∧ n2 ≤ 1048576 := by omega
        refine (FirstIn_any A1 A2 n1 n2 c1 c2 m x pace time w39 s hs').mono ?_
        rintro e w40 ⟨rfl, b⟩
        have K' := bel_then K b
        replace hC := hC.next b
        replace s := s.next b
        replace Bm := Bm.next b
        replace Bx := Bx.next b
        replace K := K'
        clear K' b
        clear CBm CBx
        have CBm := Bm.cell
        have CBx := Bx.cell
        go_wp2_with fail
        refine (specFirstIn_any A1 A2 n1 n2 c1 c2 m x pace time w40 s hs').mono ?_
        rintro e w41 ⟨rfl, b⟩
        have K' := bel_then K b
        replace hC := hC.next b
        replace s := s.next b
        replace Bm := Bm.next b
        replace Bx := Bx.next b
        replace K := K'
        clear K' b
        clear CBm CBx
        have CBm := Bm.cell
        have CBx := Bx.cell
        cases hR : firstM m x pace time with
        | none =>
          simp only [Option.getD_none, Option.isSome_none]
          go_wp2_with fail
          clear CBm CBx s Bm Bx
          clear hs hs' hR
          refine (drawChancesOf_any w41 A n c hC (by omega)).mono ?_
          rintro e w42 ⟨m, A1, n1, c1, A2, n2, c2, x, pace, time, rfl, s, hs, b, _, _⟩
          have K' := bel_then K b
          replace hC := hC.next b
          replace K := K'
          clear K' b
          go_wp2_with fail
          have U : Below w42.heap.size w42 ((w42.alloc (.cells #[.int .i64 m.width, .int .i64 m.height, .slice A1 n1 c1, .slice A2 n2 c2] 29)).alloc (.cells #[.int .i64 x.runner, .int .i64 x.start, .int .i64 x.seen, .int .i64 x.place] 31)) := two _ _ _
          have Bm : Blk ((w42.alloc (.cells #[.int .i64 m.width, .int .i64 m.height, .slice A1 n1 c1, .slice A2 n2 c2] 29)).alloc (.cells #[.int .i64 x.runner, .int .i64 x.start, .int .i64 x.seen, .int .i64 x.place] 31)) w42.heap.size 29 [.int .i64 m.width, .int .i64 m.height, .slice A1 n1 c1, .slice A2 n2 c2] := (Blk.at_ rfl : Blk (w42.alloc _) w42.heap.size 29 [.int .i64 m.width, .int .i64 m.height, .slice A1 n1 c1, .slice A2 n2 c2]).next ((Below.refl _ _).alloc (Nat.le_refl _) _)
          have Bx : Blk ((w42.alloc (.cells #[.int .i64 m.width, .int .i64 m.height, .slice A1 n1 c1, .slice A2 n2 c2] 29)).alloc (.cells #[.int .i64 x.runner, .int .i64 x.start, .int .i64 x.seen, .int .i64 x.place] 31)) (w42.heap.size + 1) 31 [.int .i64 x.runner, .int .i64 x.start, .int .i64 x.seen, .int .i64 x.place] := Blk.at_ (by simp)
          have K' := bel_then K U
          replace hC := hC.next U
          replace s := s.next U
          replace K := K'
          clear K' U
          generalize ((w42.alloc (.cells #[.int .i64 m.width, .int .i64 m.height, .slice A1 n1 c1, .slice A2 n2 c2] 29)).alloc (.cells #[.int .i64 x.runner, .int .i64 x.start, .int .i64 x.seen, .int .i64 x.place] 31)) = w43 at *
          generalize w42.heap.size + 1 = gx at *
          generalize w42.heap.size = gm at *
          have CBm := Bm.cell
          have CBx := Bx.cell
          have hs' : n1 ≤ 1048576 ∧ n2 ≤ 1048576 := by omega
          refine (ChancesOf_any A1 A2 n1 n2 c1 c2 m x pace time w43 s hs').mono ?_
          rintro e w44 ⟨AS, cS, rfl, oS, b⟩
          have K' := bel_then K b
          replace hC := hC.next b
          replace s := s.next b
          replace Bm := Bm.next b
          replace Bx := Bx.next b
          replace K := K'
          clear K' b
          have SS := (Sees.of_own oS).less (Nat.zero_le _)
          clear oS
          clear CBm CBx
          have CBm := Bm.cell
          have CBx := Bx.cell
          go_wp2_with fail
          refine (specChancesOf_any A1 A2 n1 n2 c1 c2 m x pace time w44 s hs').mono ?_
          rintro e w45 ⟨AT, cT, rfl, oT, b⟩
          have K' := bel_then K b
          replace hC := hC.next b
          replace s := s.next b
          replace Bm := Bm.next b
          replace Bx := Bx.next b
          replace SS := SS.next b
          replace K := K'
          clear K' b
          have ST := (Sees.of_own oT).less (Nat.zero_le _)
          clear oT
          clear CBm CBx
          have CBm := Bm.cell
          have CBx := Bx.cell
          have hSl : ((chancesM m x pace time).getD []).length ≤ 36 := by
            cases hR : chancesM m x pace time with
            | none => simp
            | some S => exact chances_small hR
          generalize (chancesM m x pace time).getD [] = S0 at *
          generalize (chancesM m x pace time).isSome = o0 at *
          have hoo : (o0 != o0) = false := bne_self_eq_false o0
          go_wp2_with fail
          refine (rSectors_any AS AT _ _ cS cT 0 0 S0 S0 w45 SS ST rfl (by omega)).mono ?_
          rintro e w46 ⟨rfl, qq⟩
          have b := qq.below w45.heap.size
          have K' := bel_then K b
          replace hC := hC.next b
          clear K qq b
          clear CBm CBx SS ST s Bm Bx
          have K := K'
          clear K'
          go_wp2_with fail
          refine (drawIsMissing_any w46 A n c hC (by omega)).mono ?_
          rintro e w47 ⟨m, A1, n1, c1, A2, n2, c2, x, rfl, s, hs, b⟩
          have K' := bel_then K b
          replace hC := hC.next b
          replace K := K'
          clear K' b
          go_wp2_with fail
          have U : Below w47.heap.size w47 ((w47.alloc (.cells #[.int .i64 m.width, .int .i64 m.height, .slice A1 n1 c1, .slice A2 n2 c2] 29)).alloc (.cells #[.int .i64 x.runner, .int .i64 x.start, .int .i64 x.seen, .int .i64 x.place] 31)) := two _ _ _
          have Bm : Blk ((w47.alloc (.cells #[.int .i64 m.width, .int .i64 m.height, .slice A1 n1 c1, .slice A2 n2 c2] 29)).alloc (.cells #[.int .i64 x.runner, .int .i64 x.start, .int .i64 x.seen, .int .i64 x.place] 31)) w47.heap.size 29 [.int .i64 m.width, .int .i64 m.height, .slice A1 n1 c1, .slice A2 n2 c2] := (Blk.at_ rfl : Blk (w47.alloc _) w47.heap.size 29 [.int .i64 m.width, .int .i64 m.height, .slice A1 n1 c1, .slice A2 n2 c2]).next ((Below.refl _ _).alloc (Nat.le_refl _) _)
          have Bx : Blk ((w47.alloc (.cells #[.int .i64 m.width, .int .i64 m.height, .slice A1 n1 c1, .slice A2 n2 c2] 29)).alloc (.cells #[.int .i64 x.runner, .int .i64 x.start, .int .i64 x.seen, .int .i64 x.place] 31)) (w47.heap.size + 1) 31 [.int .i64 x.runner, .int .i64 x.start, .int .i64 x.seen, .int .i64 x.place] := Blk.at_ (by simp)
          have K' := bel_then K U
          replace hC := hC.next U
          replace s := s.next U
          replace K := K'
          clear K' U
          generalize ((w47.alloc (.cells #[.int .i64 m.width, .int .i64 m.height, .slice A1 n1 c1, .slice A2 n2 c2] 29)).alloc (.cells #[.int .i64 x.runner, .int .i64 x.start, .int .i64 x.seen, .int .i64 x.place] 31)) = w48 at *
          generalize w47.heap.size + 1 = gx at *
          generalize w47.heap.size = gm at *
          have CBm := Bm.cell
          have CBx := Bx.cell
          have hs' : n1 ≤ 1048576 ∧ n2 ≤ 1048576 := by omega
          clear CBm CBx
          have KB := K
          clear K
          have b := (Quiet.one w48).below w48.heap.size
          refine wp_region_held_drew (S := fun w' => w'.cell? ⟨gm, 0, none⟩ = some (.int .i64 m.width) ∧ w'.cell? ⟨gm, 1, none⟩ = some (.int .i64 m.height) ∧ w'.cell? ⟨gm, 2, none⟩ = some (.slice A1 n1 c1) ∧ w'.cell? ⟨gm, 3, none⟩ = some (.slice A2 n2 c2) ∧ w'.cell? ⟨gx, 0, none⟩ = some (.int .i64 x.runner) ∧ w'.cell? ⟨gx, 1, none⟩ = some (.int .i64 x.start) ∧ w'.cell? ⟨gx, 2, none⟩ = some (.int .i64 x.seen) ∧ w'.cell? ⟨gx, 3, none⟩ = some (.int .i64 x.place)) (by kernel_rfl) (by (try dsimp only); exact ⟨(Bm.next b).cell 0, (Bm.next b).cell 1, (Bm.next b).cell 2, (Bm.next b).cell 3, (Bx.next b).cell 0, (Bx.next b).cell 1, (Bx.next b).cell 2, (Bx.next b).cell 3⟩) (fun hHeld => ?_)
          have K' := bel_then KB b
          replace s := s.next b
          replace Bm := Bm.next b
          replace Bx := Bx.next b
          replace KB := K'
          clear K' b
          generalize w48.drew = wd at *
          refine wpAnyH_take (i := 0) (v := ?_) rfl (by kernel_rfl) (by kernel_rfl) (by kernel_rfl) (fun _ _ _ h => h) (Or.inl ⟨by rfl, ?_⟩) (by assumption) ?_
          rotate_left 1
          · (intro w hSw; (try dsimp only at hSw); go_simp; try with_reducible rfl)
          simp only [Act.put, List.setIfInBounds_toArray, List.set_cons_zero, List.set_cons_succ, List.getElem_toArray, List.getElem_cons_zero]
          refine wpAnyH_take (i := 1) (v := ?_) rfl (by kernel_rfl) (by kernel_rfl) (by kernel_rfl) (fun _ _ _ h => h) (Or.inl ⟨by rfl, ?_⟩) (by assumption) ?_
          rotate_left 1
          · (intro w hSw; (try dsimp only at hSw); go_simp; try with_reducible rfl)
          simp only [Act.put, List.setIfInBounds_toArray, List.set_cons_zero, List.set_cons_succ, List.getElem_toArray, List.getElem_cons_zero, List.getElem_cons_succ]
          refine wpAnyH_take (i := 3) (v := ?_) rfl (by kernel_rfl) (by kernel_rfl) (by kernel_rfl) (fun _ _ _ h => h) (Or.inl ⟨by rfl, ?_⟩) (by assumption) ?_
          rotate_left 1
          · (intro w hSw; (try dsimp only at hSw); go_simp; try with_reducible rfl)
          simp only [Act.put, List.setIfInBounds_toArray, List.set_cons_zero, List.set_cons_succ, List.getElem_toArray, List.getElem_cons_zero, List.getElem_cons_succ]
          refine wpAnyH_take (i := 4) (v := ?_) rfl (by kernel_rfl) (by kernel_rfl) (by kernel_rfl) (fun _ _ _ h => h) (Or.inl ⟨by rfl, ?_⟩) (by assumption) ?_
          rotate_left 1
          · (intro w hSw; (try dsimp only at hSw); go_simp; try with_reducible rfl)
          simp only [Act.put, List.setIfInBounds_toArray, List.set_cons_zero, List.set_cons_succ, List.getElem_toArray, List.getElem_cons_zero, List.getElem_cons_succ]
          refine wpAnyH_ready (rs := [2]) (by kernel_rfl) (by simp) ?_
          refine AllReadyH.cons rfl (fun K hK => ?_) AllReadyH.nil
          go_simp
          refine (IsMissing_any A1 A2 n1 n2 c1 c2 m x _ s hs').mono ?_
          rintro e wa ⟨rfl, b⟩
          have K' := bel_then KB b
          replace s := s.next b
          replace Bm := Bm.next b
          replace Bx := Bx.next b
          replace KB := K'
          clear K' b
          go_wp2_with fail
          refine hK.out _ _ (by (try dsimp only); exact ⟨Bm.cell 0, Bm.cell 1, Bm.cell 2, Bm.cell 3, Bx.cell 0, Bx.cell 1, Bx.cell 2, Bx.cell 3⟩) (fun hHeld => ?_)
          clear hK K
          refine wpAnyH_ready (rs := [5]) (by kernel_rfl) (by simp) ?_
          refine AllReadyH.cons rfl (fun K hK => ?_) AllReadyH.nil
          go_simp
          refine (specIsMissing_any A1 A2 n1 n2 c1 c2 m x _ s hs').mono ?_
          rintro e wa ⟨rfl, b⟩
          have K' := bel_then KB b
          replace s := s.next b
          replace Bm := Bm.next b
          replace Bx := Bx.next b
          replace KB := K'
          clear K' b
          go_wp2_with fail
          refine hK.out _ _ (by (try dsimp only); exact ⟨Bm.cell 0, Bm.cell 1, Bm.cell 2, Bm.cell 3, Bx.cell 0, Bx.cell 1, Bx.cell 2, Bx.cell 3⟩) (fun hHeld => ?_)
          clear hK K
          refine wpAnyH_take (i := 6) (v := ?_) rfl (by kernel_rfl) (by kernel_rfl) (by kernel_rfl) (fun _ _ _ h => h) (Or.inl ⟨by rfl, ?_⟩) (by assumption) ?_
          rotate_left 1
          · (intro w hSw; (try dsimp only at hSw); go_simp; try with_reducible rfl)
          simp only [Act.put, List.setIfInBounds_toArray, List.set_cons_zero, List.set_cons_succ, List.getElem_toArray, List.getElem_cons_zero, List.getElem_cons_succ]
          refine wpAnyH_take (i := 7) (v := ?_) rfl (by kernel_rfl) (by kernel_rfl) (by kernel_rfl) (fun _ _ _ h => h) (Or.inl ⟨by rfl, ?_⟩) (by assumption) ?_
          rotate_left 1
          · (intro w hSw; (try dsimp only at hSw); go_simp; try with_reducible rfl)
          simp only [Act.put, List.setIfInBounds_toArray, List.set_cons_zero, List.set_cons_succ, List.getElem_toArray, List.getElem_cons_zero, List.getElem_cons_succ]
          refine wpAnyH_done (by kernel_rfl) ?_ _
          have hbb : (missingB m x == missingB m x) = true := beq_self_eq_true _
          go_wp2_with fail
          go_ret
          exact ⟨rfl, KB⟩
        | some t =>
          obtain ⟨ht, ⟨F, hF, hFc⟩, hG⟩ := first_facts hR
          simp only [Option.getD_some, Option.isSome_some]
          have htw : IntKind.i64.wrap (t - 1) = t - 1 := IntWalk.i64_in _ (by omega)
          go_wp2_with fail
          refine (FieldOf_any A1 A2 n1 n2 c1 c2 m x pace t w41 s hs').mono ?_
          rintro e w49 ⟨AF, cF, rfl, oF, b⟩
          have K' := bel_then K b
          replace hC := hC.next b
          replace s := s.next b
          replace Bm := Bm.next b
          replace Bx := Bx.next b
          replace K := K'
          clear K' b
          have SF := (Sees.of_own oF).less (Nat.zero_le _)
          clear oF
          clear CBm CBx
          have CBm := Bm.cell
          have CBx := Bx.cell
          have hFl := field_small hF
          rw [hF] at SF ⊢
          simp only [Option.getD_some, Option.isSome_some] at SF ⊢
          go_wp2_with fail
          refine (FieldOf_any A1 A2 n1 n2 c1 c2 m x pace (t - 1) w49 s hs').mono ?_
          rintro e w50 ⟨AG, cG, rfl, oG, b⟩
          have K' := bel_then K b
          replace hC := hC.next b
          replace s := s.next b
          replace Bm := Bm.next b
          replace Bx := Bx.next b
          replace SF := SF.next b
          replace K := K'
          clear K' b
          have SG := (Sees.of_own oG).less (Nat.zero_le _)
          clear oG
          clear CBm CBx
          have CBm := Bm.cell
          have CBx := Bx.cell
          have hHas : ∀ G0 o0, (fieldM m x pace (t - 1)).getD [] = G0 → (fieldM m x pace (t - 1)).isSome = o0 → G0.length ≤ 36 ∧ (o0 = true → hasI G0 time = false) := by
            rintro G0 o0 rfl rfl
            cases hB : fieldM m x pace (t - 1) with
            | none => simp
            | some G => exact ⟨field_small hB, fun _ => hG G hB⟩
          obtain ⟨G0, hG0⟩ : ∃ G0, (fieldM m x pace (t - 1)).getD [] = G0 := ⟨_, rfl⟩
          obtain ⟨o0, ho0⟩ : ∃ o0, (fieldM m x pace (t - 1)).isSome = o0 := ⟨_, rfl⟩
          obtain ⟨hGl, hGc⟩ := hHas G0 o0 hG0 ho0
          rw [hG0] at SG
          rw [hG0, ho0]
          clear hHas hG0 ho0 hG
          go_wp2_with fail
          refine (rHas_any AF _ cF _ time w50 SF (by omega)).mono ?_
          rintro e w51 ⟨rfl, qq⟩
          have b := qq.below w50.heap.size
          have K' := bel_then K b
          replace hC := hC.next b
          replace s := s.next b
          replace Bm := Bm.next b
          replace Bx := Bx.next b
          replace SF := SF.next b
          replace SG := SG.next b
          replace K := K'
          clear K' qq b
          rw [hFc]
          cases o0 with
          | false =>
            go_wp2_with fail
            clear CBm CBx SF SG s Bm Bx
            clear hs hs' hR hF
            refine (drawChancesOf_any w51 A n c hC (by omega)).mono ?_
            rintro e w52 ⟨m, A1, n1, c1, A2, n2, c2, x, pace, time, rfl, s, hs, b, _, _⟩
            have K' := bel_then K b
            replace hC := hC.next b
            replace K := K'
            clear K' b
            go_wp2_with fail
            have U : Below w52.heap.size w52 ((w52.alloc (.cells #[.int .i64 m.width, .int .i64 m.height, .slice A1 n1 c1, .slice A2 n2 c2] 29)).alloc (.cells #[.int .i64 x.runner, .int .i64 x.start, .int .i64 x.seen, .int .i64 x.place] 31)) := two _ _ _
            have Bm : Blk ((w52.alloc (.cells #[.int .i64 m.width, .int .i64 m.height, .slice A1 n1 c1, .slice A2 n2 c2] 29)).alloc (.cells #[.int .i64 x.runner, .int .i64 x.start, .int .i64 x.seen, .int .i64 x.place] 31)) w52.heap.size 29 [.int .i64 m.width, .int .i64 m.height, .slice A1 n1 c1, .slice A2 n2 c2] := (Blk.at_ rfl : Blk (w52.alloc _) w52.heap.size 29 [.int .i64 m.width, .int .i64 m.height, .slice A1 n1 c1, .slice A2 n2 c2]).next ((Below.refl _ _).alloc (Nat.le_refl _) _)
            have Bx : Blk ((w52.alloc (.cells #[.int .i64 m.width, .int .i64 m.height, .slice A1 n1 c1, .slice A2 n2 c2] 29)).alloc (.cells #[.int .i64 x.runner, .int .i64 x.start, .int .i64 x.seen, .int .i64 x.place] 31)) (w52.heap.size + 1) 31 [.int .i64 x.runner, .int .i64 x.start, .int .i64 x.seen, .int .i64 x.place] := Blk.at_ (by simp)
            have K' := bel_then K U
            replace hC := hC.next U
            replace s := s.next U
            replace K := K'
            clear K' U
            generalize ((w52.alloc (.cells #[.int .i64 m.width, .int .i64 m.height, .slice A1 n1 c1, .slice A2 n2 c2] 29)).alloc (.cells #[.int .i64 x.runner, .int .i64 x.start, .int .i64 x.seen, .int .i64 x.place] 31)) = w53 at *
            generalize w52.heap.size + 1 = gx at *
            generalize w52.heap.size = gm at *
            have CBm := Bm.cell
            have CBx := Bx.cell
            have hs' : n1 ≤ 1048576 ∧ n2 ≤ 1048576 := by omega
            refine (ChancesOf_any A1 A2 n1 n2 c1 c2 m x pace time w53 s hs').mono ?_
            rintro e w54 ⟨AS, cS, rfl, oS, b⟩
            have K' := bel_then K b
            replace hC := hC.next b
            replace s := s.next b
            replace Bm := Bm.next b
            replace Bx := Bx.next b
            replace K := K'
            clear K' b
            have SS := (Sees.of_own oS).less (Nat.zero_le _)
            clear oS
            clear CBm CBx
            have CBm := Bm.cell
            have CBx := Bx.cell
            go_wp2_with fail
            refine (specChancesOf_any A1 A2 n1 n2 c1 c2 m x pace time w54 s hs').mono ?_
            rintro e w55 ⟨AT, cT, rfl, oT, b⟩
            have K' := bel_then K b
            replace hC := hC.next b
            replace s := s.next b
            replace Bm := Bm.next b
            replace Bx := Bx.next b
            replace SS := SS.next b
            replace K := K'
            clear K' b
            have ST := (Sees.of_own oT).less (Nat.zero_le _)
            clear oT
            clear CBm CBx
            have CBm := Bm.cell
            have CBx := Bx.cell
            have hSl : ((chancesM m x pace time).getD []).length ≤ 36 := by
              cases hR : chancesM m x pace time with
              | none => simp
              | some S => exact chances_small hR
            generalize (chancesM m x pace time).getD [] = S0 at *
            generalize (chancesM m x pace time).isSome = o0 at *
            have hoo : (o0 != o0) = false := bne_self_eq_false o0
            go_wp2_with fail
            refine (rSectors_any AS AT _ _ cS cT 0 0 S0 S0 w55 SS ST rfl (by omega)).mono ?_
            rintro e w56 ⟨rfl, qq⟩
            have b := qq.below w55.heap.size
            have K' := bel_then K b
            replace hC := hC.next b
            clear K qq b
            clear CBm CBx SS ST s Bm Bx
            have K := K'
            clear K'
            go_wp2_with fail
            refine (drawIsMissing_any w56 A n c hC (by omega)).mono ?_
            rintro e w57 ⟨m, A1, n1, c1, A2, n2, c2, x, rfl, s, hs, b⟩
            have K' := bel_then K b
            replace hC := hC.next b
            replace K := K'
            clear K' b
            go_wp2_with fail
            have U : Below w57.heap.size w57 ((w57.alloc (.cells #[.int .i64 m.width, .int .i64 m.height, .slice A1 n1 c1, .slice A2 n2 c2] 29)).alloc (.cells #[.int .i64 x.runner, .int .i64 x.start, .int .i64 x.seen, .int .i64 x.place] 31)) := two _ _ _
            have Bm : Blk ((w57.alloc (.cells #[.int .i64 m.width, .int .i64 m.height, .slice A1 n1 c1, .slice A2 n2 c2] 29)).alloc (.cells #[.int .i64 x.runner, .int .i64 x.start, .int .i64 x.seen, .int .i64 x.place] 31)) w57.heap.size 29 [.int .i64 m.width, .int .i64 m.height, .slice A1 n1 c1, .slice A2 n2 c2] := (Blk.at_ rfl : Blk (w57.alloc _) w57.heap.size 29 [.int .i64 m.width, .int .i64 m.height, .slice A1 n1 c1, .slice A2 n2 c2]).next ((Below.refl _ _).alloc (Nat.le_refl _) _)
            have Bx : Blk ((w57.alloc (.cells #[.int .i64 m.width, .int .i64 m.height, .slice A1 n1 c1, .slice A2 n2 c2] 29)).alloc (.cells #[.int .i64 x.runner, .int .i64 x.start, .int .i64 x.seen, .int .i64 x.place] 31)) (w57.heap.size + 1) 31 [.int .i64 x.runner, .int .i64 x.start, .int .i64 x.seen, .int .i64 x.place] := Blk.at_ (by simp)
            have K' := bel_then K U
            replace hC := hC.next U
            replace s := s.next U
            replace K := K'
            clear K' U
            generalize ((w57.alloc (.cells #[.int .i64 m.width, .int .i64 m.height, .slice A1 n1 c1, .slice A2 n2 c2] 29)).alloc (.cells #[.int .i64 x.runner, .int .i64 x.start, .int .i64 x.seen, .int .i64 x.place] 31)) = w58 at *
            generalize w57.heap.size + 1 = gx at *
            generalize w57.heap.size = gm at *
            have CBm := Bm.cell
            have CBx := Bx.cell
            have hs' : n1 ≤ 1048576 ∧ n2 ≤ 1048576 := by omega
            clear CBm CBx
            have KB := K
            clear K
            have b := (Quiet.one w58).below w58.heap.size
            refine wp_region_held_drew (S := fun w' => w'.cell? ⟨gm, 0, none⟩ = some (.int .i64 m.width) ∧ w'.cell? ⟨gm, 1, none⟩ = some (.int .i64 m.height) ∧ w'.cell? ⟨gm, 2, none⟩ = some (.slice A1 n1 c1) ∧ w'.cell? ⟨gm, 3, none⟩ = some (.slice A2 n2 c2) ∧ w'.cell? ⟨gx, 0, none⟩ = some (.int .i64 x.runner) ∧ w'.cell? ⟨gx, 1, none⟩ = some (.int .i64 x.start) ∧ w'.cell? ⟨gx, 2, none⟩ = some (.int .i64 x.seen) ∧ w'.cell? ⟨gx, 3, none⟩ = some (.int .i64 x.place)) (by kernel_rfl) (by (try dsimp only); exact ⟨(Bm.next b).cell 0, (Bm.next b).cell 1, (Bm.next b).cell 2, (Bm.next b).cell 3, (Bx.next b).cell 0, (Bx.next b).cell 1, (Bx.next b).cell 2, (Bx.next b).cell 3⟩) (fun hHeld => ?_)
            have K' := bel_then KB b
            replace s := s.next b
            replace Bm := Bm.next b
            replace Bx := Bx.next b
            replace KB := K'
            clear K' b
            generalize w58.drew = wd at *
            refine wpAnyH_take (i := 0) (v := ?_) rfl (by kernel_rfl) (by kernel_rfl) (by kernel_rfl) (fun _ _ _ h => h) (Or.inl ⟨by rfl, ?_⟩) (by assumption) ?_
            rotate_left 1
            · (intro w hSw; (try dsimp only at hSw); go_simp; try with_reducible rfl)
            simp only [Act.put, List.setIfInBounds_toArray, List.set_cons_zero, List.set_cons_succ, List.getElem_toArray, List.getElem_cons_zero]
            refine wpAnyH_take (i := 1) (v := ?_) rfl (by kernel_rfl) (by kernel_rfl) (by kernel_rfl) (fun _ _ _ h => h) (Or.inl ⟨by rfl, ?_⟩) (by assumption) ?_
            rotate_left 1
            · (intro w hSw; (try dsimp only at hSw); go_simp; try with_reducible rfl)
            simp only [Act.put, List.setIfInBounds_toArray, List.set_cons_zero, List.set_cons_succ, List.getElem_toArray, List.getElem_cons_zero, List.getElem_cons_succ]
            refine wpAnyH_take (i := 3) (v := ?_) rfl (by kernel_rfl) (by kernel_rfl) (by kernel_rfl) (fun _ _ _ h => h) (Or.inl ⟨by rfl, ?_⟩) (by assumption) ?_
            rotate_left 1
            · (intro w hSw; (try dsimp only at hSw); go_simp; try with_reducible rfl)
            simp only [Act.put, List.setIfInBounds_toArray, List.set_cons_zero, List.set_cons_succ, List.getElem_toArray, List.getElem_cons_zero, List.getElem_cons_succ]
            refine wpAnyH_take (i := 4) (v := ?_) rfl (by kernel_rfl) (by kernel_rfl) (by kernel_rfl) (fun _ _ _ h => h) (Or.inl ⟨by rfl, ?_⟩) (by assumption) ?_
            rotate_left 1
            · (intro w hSw; (try dsimp only at hSw); go_simp; try with_reducible rfl)
            simp only [Act.put, List.setIfInBounds_toArray, List.set_cons_zero, List.set_cons_succ, List.getElem_toArray, List.getElem_cons_zero, List.getElem_cons_succ]
            refine wpAnyH_ready (rs := [2]) (by kernel_rfl) (by simp) ?_
            refine AllReadyH.cons rfl (fun K hK => ?_) AllReadyH.nil
            go_simp
            refine (IsMissing_any A1 A2 n1 n2 c1 c2 m x _ s hs').mono ?_
            rintro e wa ⟨rfl, b⟩
            have K' := bel_then KB b
            replace s := s.next b
            replace Bm := Bm.next b
            replace Bx := Bx.next b
            replace KB := K'
            clear K' b
            go_wp2_with fail
            refine hK.out _ _ (by (try dsimp only); exact ⟨Bm.cell 0, Bm.cell 1, Bm.cell 2, Bm.cell 3, Bx.cell 0, Bx.cell 1, Bx.cell 2, Bx.cell 3⟩) (fun hHeld => ?_)
            clear hK K
            refine wpAnyH_ready (rs := [5]) (by kernel_rfl) (by simp) ?_
            refine AllReadyH.cons rfl (fun K hK => ?_) AllReadyH.nil
            go_simp
            refine (specIsMissing_any A1 A2 n1 n2 c1 c2 m x _ s hs').mono ?_
            rintro e wa ⟨rfl, b⟩
            have K' := bel_then KB b
            replace s := s.next b
            replace Bm := Bm.next b
            replace Bx := Bx.next b
            replace KB := K'
            clear K' b
            go_wp2_with fail
            refine hK.out _ _ (by (try dsimp only); exact ⟨Bm.cell 0, Bm.cell 1, Bm.cell 2, Bm.cell 3, Bx.cell 0, Bx.cell 1, Bx.cell 2, Bx.cell 3⟩) (fun hHeld => ?_)
            clear hK K
            refine wpAnyH_take (i := 6) (v := ?_) rfl (by kernel_rfl) (by kernel_rfl) (by kernel_rfl) (fun _ _ _ h => h) (Or.inl ⟨by rfl, ?_⟩) (by assumption) ?_
            rotate_left 1
            · (intro w hSw; (try dsimp only at hSw); go_simp; try with_reducible rfl)
            simp only [Act.put, List.setIfInBounds_toArray, List.set_cons_zero, List.set_cons_succ, List.getElem_toArray, List.getElem_cons_zero, List.getElem_cons_succ]
            refine wpAnyH_take (i := 7) (v := ?_) rfl (by kernel_rfl) (by kernel_rfl) (by kernel_rfl) (fun _ _ _ h => h) (Or.inl ⟨by rfl, ?_⟩) (by assumption) ?_
            rotate_left 1
            · (intro w hSw; (try dsimp only at hSw); go_simp; try with_reducible rfl)
            simp only [Act.put, List.setIfInBounds_toArray, List.set_cons_zero, List.set_cons_succ, List.getElem_toArray, List.getElem_cons_zero, List.getElem_cons_succ]
            refine wpAnyH_done (by kernel_rfl) ?_ _
            have hbb : (missingB m x == missingB m x) = true := beq_self_eq_true _
            go_wp2_with fail
            go_ret
            exact ⟨rfl, KB⟩
          | true =>
            go_wp2_with fail
            refine (rHas_any AG _ cG _ time w51 SG (by omega)).mono ?_
            rintro e w59 ⟨rfl, qq⟩
            have b := qq.below w51.heap.size
            have K' := bel_then K b
            replace hC := hC.next b
            replace s := s.next b
            replace Bm := Bm.next b
            replace Bx := Bx.next b
            replace SF := SF.next b
            replace SG := SG.next b
            replace K := K'
            clear K' qq b
            rw [hGc (by simp)]
            go_wp2_with fail
            clear CBm CBx SF SG s Bm Bx
            clear hs hs' hR hF
            refine (drawChancesOf_any w59 A n c hC (by omega)).mono ?_
            rintro e w60 ⟨m, A1, n1, c1, A2, n2, c2, x, pace, time, rfl, s, hs, b, _, _⟩
            have K' := bel_then K b
            replace hC := hC.next b
            replace K := K'
            clear K' b
            go_wp2_with fail
            have U : Below w60.heap.size w60 ((w60.alloc (.cells #[.int .i64 m.width, .int .i64 m.height, .slice A1 n1 c1, .slice A2 n2 c2] 29)).alloc (.cells #[.int .i64 x.runner, .int .i64 x.start, .int .i64 x.seen, .int .i64 x.place] 31)) := two _ _ _
            have Bm : Blk ((w60.alloc (.cells #[.int .i64 m.width, .int .i64 m.height, .slice A1 n1 c1, .slice A2 n2 c2] 29)).alloc (.cells #[.int .i64 x.runner, .int .i64 x.start, .int .i64 x.seen, .int .i64 x.place] 31)) w60.heap.size 29 [.int .i64 m.width, .int .i64 m.height, .slice A1 n1 c1, .slice A2 n2 c2] := (Blk.at_ rfl : Blk (w60.alloc _) w60.heap.size 29 [.int .i64 m.width, .int .i64 m.height, .slice A1 n1 c1, .slice A2 n2 c2]).next ((Below.refl _ _).alloc (Nat.le_refl _) _)
            have Bx : Blk ((w60.alloc (.cells #[.int .i64 m.width, .int .i64 m.height, .slice A1 n1 c1, .slice A2 n2 c2] 29)).alloc (.cells #[.int .i64 x.runner, .int .i64 x.start, .int .i64 x.seen, .int .i64 x.place] 31)) (w60.heap.size + 1) 31 [.int .i64 x.runner, .int .i64 x.start, .int .i64 x.seen, .int .i64 x.place] := Blk.at_ (by simp)
            have K' := bel_then K U
            replace hC := hC.next U
            replace s := s.next U
            replace K := K'
            clear K' U
            generalize ((w60.alloc (.cells #[.int .i64 m.width, .int .i64 m.height, .slice A1 n1 c1, .slice A2 n2 c2] 29)).alloc (.cells #[.int .i64 x.runner, .int .i64 x.start, .int .i64 x.seen, .int .i64 x.place] 31)) = w61 at *
            generalize w60.heap.size + 1 = gx at *
            generalize w60.heap.size = gm at *
            have CBm := Bm.cell
            have CBx := Bx.cell
            have hs' : n1 ≤ 1048576 ∧ n2 ≤ 1048576 := by omega
            refine (ChancesOf_any A1 A2 n1 n2 c1 c2 m x pace time w61 s hs').mono ?_
            rintro e w62 ⟨AS, cS, rfl, oS, b⟩
            have K' := bel_then K b
            replace hC := hC.next b
            replace s := s.next b
            replace Bm := Bm.next b
            replace Bx := Bx.next b
            replace K := K'
            clear K' b
            have SS := (Sees.of_own oS).less (Nat.zero_le _)
            clear oS
            clear CBm CBx
            have CBm := Bm.cell
            have CBx := Bx.cell
            go_wp2_with fail
            refine (specChancesOf_any A1 A2 n1 n2 c1 c2 m x pace time w62 s hs').mono ?_
            rintro e w63 ⟨AT, cT, rfl, oT, b⟩
            have K' := bel_then K b
            replace hC := hC.next b
            replace s := s.next b
            replace Bm := Bm.next b
            replace Bx := Bx.next b
            replace SS := SS.next b
            replace K := K'
            clear K' b
            have ST := (Sees.of_own oT).less (Nat.zero_le _)
            clear oT
            clear CBm CBx
            have CBm := Bm.cell
            have CBx := Bx.cell
            have hSl : ((chancesM m x pace time).getD []).length ≤ 36 := by
              cases hR : chancesM m x pace time with
              | none => simp
              | some S => exact chances_small hR
            generalize (chancesM m x pace time).getD [] = S0 at *
            generalize (chancesM m x pace time).isSome = o0 at *
            have hoo : (o0 != o0) = false := bne_self_eq_false o0
            go_wp2_with fail
            refine (rSectors_any AS AT _ _ cS cT 0 0 S0 S0 w63 SS ST rfl (by omega)).mono ?_
            rintro e w64 ⟨rfl, qq⟩
            have b := qq.below w63.heap.size
            have K' := bel_then K b
            replace hC := hC.next b
            clear K qq b
            clear CBm CBx SS ST s Bm Bx
            have K := K'
            clear K'
            go_wp2_with fail
            refine (drawIsMissing_any w64 A n c hC (by omega)).mono ?_
            rintro e w65 ⟨m, A1, n1, c1, A2, n2, c2, x, rfl, s, hs, b⟩
            have K' := bel_then K b
            replace hC := hC.next b
            replace K := K'
            clear K' b
            go_wp2_with fail
            have U : Below w65.heap.size w65 ((w65.alloc (.cells #[.int .i64 m.width, .int .i64 m.height, .slice A1 n1 c1, .slice A2 n2 c2] 29)).alloc (.cells #[.int .i64 x.runner, .int .i64 x.start, .int .i64 x.seen, .int .i64 x.place] 31)) := two _ _ _
            have Bm : Blk ((w65.alloc (.cells #[.int .i64 m.width, .int .i64 m.height, .slice A1 n1 c1, .slice A2 n2 c2] 29)).alloc (.cells #[.int .i64 x.runner, .int .i64 x.start, .int .i64 x.seen, .int .i64 x.place] 31)) w65.heap.size 29 [.int .i64 m.width, .int .i64 m.height, .slice A1 n1 c1, .slice A2 n2 c2] := (Blk.at_ rfl : Blk (w65.alloc _) w65.heap.size 29 [.int .i64 m.width, .int .i64 m.height, .slice A1 n1 c1, .slice A2 n2 c2]).next ((Below.refl _ _).alloc (Nat.le_refl _) _)
            have Bx : Blk ((w65.alloc (.cells #[.int .i64 m.width, .int .i64 m.height, .slice A1 n1 c1, .slice A2 n2 c2] 29)).alloc (.cells #[.int .i64 x.runner, .int .i64 x.start, .int .i64 x.seen, .int .i64 x.place] 31)) (w65.heap.size + 1) 31 [.int .i64 x.runner, .int .i64 x.start, .int .i64 x.seen, .int .i64 x.place] := Blk.at_ (by simp)
            have K' := bel_then K U
            replace hC := hC.next U
            replace s := s.next U
            replace K := K'
            clear K' U
            generalize ((w65.alloc (.cells #[.int .i64 m.width, .int .i64 m.height, .slice A1 n1 c1, .slice A2 n2 c2] 29)).alloc (.cells #[.int .i64 x.runner, .int .i64 x.start, .int .i64 x.seen, .int .i64 x.place] 31)) = w66 at *
            generalize w65.heap.size + 1 = gx at *
            generalize w65.heap.size = gm at *
            have CBm := Bm.cell
            have CBx := Bx.cell
            have hs' : n1 ≤ 1048576 ∧ n2 ≤ 1048576 := by omega
            clear CBm CBx
            have KB := K
            clear K
            have b := (Quiet.one w66).below w66.heap.size
            refine wp_region_held_drew (S := fun w' => w'.cell? ⟨gm, 0, none⟩ = some (.int .i64 m.width) ∧ w'.cell? ⟨gm, 1, none⟩ = some (.int .i64 m.height) ∧ w'.cell? ⟨gm, 2, none⟩ = some (.slice A1 n1 c1) ∧ w'.cell? ⟨gm, 3, none⟩ = some (.slice A2 n2 c2) ∧ w'.cell? ⟨gx, 0, none⟩ = some (.int .i64 x.runner) ∧ w'.cell? ⟨gx, 1, none⟩ = some (.int .i64 x.start) ∧ w'.cell? ⟨gx, 2, none⟩ = some (.int .i64 x.seen) ∧ w'.cell? ⟨gx, 3, none⟩ = some (.int .i64 x.place)) (by kernel_rfl) (by (try dsimp only); exact ⟨(Bm.next b).cell 0, (Bm.next b).cell 1, (Bm.next b).cell 2, (Bm.next b).cell 3, (Bx.next b).cell 0, (Bx.next b).cell 1, (Bx.next b).cell 2, (Bx.next b).cell 3⟩) (fun hHeld => ?_)
            have K' := bel_then KB b
            replace s := s.next b
            replace Bm := Bm.next b
            replace Bx := Bx.next b
            replace KB := K'
            clear K' b
            generalize w66.drew = wd at *
            refine wpAnyH_take (i := 0) (v := ?_) rfl (by kernel_rfl) (by kernel_rfl) (by kernel_rfl) (fun _ _ _ h => h) (Or.inl ⟨by rfl, ?_⟩) (by assumption) ?_
            rotate_left 1
            · (intro w hSw; (try dsimp only at hSw); go_simp; try with_reducible rfl)
            simp only [Act.put, List.setIfInBounds_toArray, List.set_cons_zero, List.set_cons_succ, List.getElem_toArray, List.getElem_cons_zero]
            refine wpAnyH_take (i := 1) (v := ?_) rfl (by kernel_rfl) (by kernel_rfl) (by kernel_rfl) (fun _ _ _ h => h) (Or.inl ⟨by rfl, ?_⟩) (by assumption) ?_
            rotate_left 1
            · (intro w hSw; (try dsimp only at hSw); go_simp; try with_reducible rfl)
            simp only [Act.put, List.setIfInBounds_toArray, List.set_cons_zero, List.set_cons_succ, List.getElem_toArray, List.getElem_cons_zero, List.getElem_cons_succ]
            refine wpAnyH_take (i := 3) (v := ?_) rfl (by kernel_rfl) (by kernel_rfl) (by kernel_rfl) (fun _ _ _ h => h) (Or.inl ⟨by rfl, ?_⟩) (by assumption) ?_
            rotate_left 1
            · (intro w hSw; (try dsimp only at hSw); go_simp; try with_reducible rfl)
            simp only [Act.put, List.setIfInBounds_toArray, List.set_cons_zero, List.set_cons_succ, List.getElem_toArray, List.getElem_cons_zero, List.getElem_cons_succ]
            refine wpAnyH_take (i := 4) (v := ?_) rfl (by kernel_rfl) (by kernel_rfl) (by kernel_rfl) (fun _ _ _ h => h) (Or.inl ⟨by rfl, ?_⟩) (by assumption) ?_
            rotate_left 1
            · (intro w hSw; (try dsimp only at hSw); go_simp; try with_reducible rfl)
            simp only [Act.put, List.setIfInBounds_toArray, List.set_cons_zero, List.set_cons_succ, List.getElem_toArray, List.getElem_cons_zero, List.getElem_cons_succ]
            refine wpAnyH_ready (rs := [2]) (by kernel_rfl) (by simp) ?_
            refine AllReadyH.cons rfl (fun K hK => ?_) AllReadyH.nil
            go_simp
            refine (IsMissing_any A1 A2 n1 n2 c1 c2 m x _ s hs').mono ?_
            rintro e wa ⟨rfl, b⟩
            have K' := bel_then KB b
            replace s := s.next b
            replace Bm := Bm.next b
            replace Bx := Bx.next b
            replace KB := K'
            clear K' b
            go_wp2_with fail
            refine hK.out _ _ (by (try dsimp only); exact ⟨Bm.cell 0, Bm.cell 1, Bm.cell 2, Bm.cell 3, Bx.cell 0, Bx.cell 1, Bx.cell 2, Bx.cell 3⟩) (fun hHeld => ?_)
            clear hK K
            refine wpAnyH_ready (rs := [5]) (by kernel_rfl) (by simp) ?_
            refine AllReadyH.cons rfl (fun K hK => ?_) AllReadyH.nil
            go_simp
            refine (specIsMissing_any A1 A2 n1 n2 c1 c2 m x _ s hs').mono ?_
            rintro e wa ⟨rfl, b⟩
            have K' := bel_then KB b
            replace s := s.next b
            replace Bm := Bm.next b
            replace Bx := Bx.next b
            replace KB := K'
            clear K' b
            go_wp2_with fail
            refine hK.out _ _ (by (try dsimp only); exact ⟨Bm.cell 0, Bm.cell 1, Bm.cell 2, Bm.cell 3, Bx.cell 0, Bx.cell 1, Bx.cell 2, Bx.cell 3⟩) (fun hHeld => ?_)
            clear hK K
            refine wpAnyH_take (i := 6) (v := ?_) rfl (by kernel_rfl) (by kernel_rfl) (by kernel_rfl) (fun _ _ _ h => h) (Or.inl ⟨by rfl, ?_⟩) (by assumption) ?_
            rotate_left 1
            · (intro w hSw; (try dsimp only at hSw); go_simp; try with_reducible rfl)
            simp only [Act.put, List.setIfInBounds_toArray, List.set_cons_zero, List.set_cons_succ, List.getElem_toArray, List.getElem_cons_zero, List.getElem_cons_succ]
            refine wpAnyH_take (i := 7) (v := ?_) rfl (by kernel_rfl) (by kernel_rfl) (by kernel_rfl) (fun _ _ _ h => h) (Or.inl ⟨by rfl, ?_⟩) (by assumption) ?_
            rotate_left 1
            · (intro w hSw; (try dsimp only at hSw); go_simp; try with_reducible rfl)
            simp only [Act.put, List.setIfInBounds_toArray, List.set_cons_zero, List.set_cons_succ, List.getElem_toArray, List.getElem_cons_zero, List.getElem_cons_succ]
            refine wpAnyH_done (by kernel_rfl) ?_ _
            have hbb : (missingB m x == missingB m x) = true := beq_self_eq_true _
            go_wp2_with fail
            go_ret
            exact ⟨rfl, KB⟩

end Go.Proofs.Ytjcmlloglnkbfaa
