/- The walk of the law FnExactAppendRecord. -/
import Derived.Test.YtjangfhelagjnaaDoorAppL
import Derived.Test.YtjangfhelagjnaaDoorBoxed
namespace Go.Proofs.YtjangfhelagjnaaDoor
open Go.RowKit

set_option maxRecDepth 100000 in
set_option maxHeartbeats 2000000 in
theorem FnExactAppendRecord_any (x : Log) (y : LogRecord) (w : World) (hkx : x.upto 9223372036854775807) (hky : y.upto 9223372036854775807) (hg : Gl w) :
    Calls Tryd.prog 8 #[.agg #[.string x.durable, .string x.pending, .int .i64 x.count], .agg #[.string y.command, .string y.reply]] w fun e w' => e = .returned (.bool true) ∧ Below w.heap.size w w' := by
  have K0 := Below.refl w.heap.size w
  go_enter Tryd.func8, Tryd.ntmps8
  go_wp2_with fail
  replace K0 : Below w.heap.size w ((w.alloc (.cells #[.string x.durable, .string x.pending, .int .i64 x.count] 36)).alloc (.cells #[.string y.command, .string y.reply] 23)) := (((Below.refl w.heap.size w).alloc (by simp) (.cells #[.string x.durable, .string x.pending, .int .i64 x.count] 36)).alloc (by simp) (.cells #[.string y.command, .string y.reply] 23))
  have Bx : Blk ((w.alloc (.cells #[.string x.durable, .string x.pending, .int .i64 x.count] 36)).alloc (.cells #[.string y.command, .string y.reply] 23)) (w.heap.size) 36 [.string x.durable, .string x.pending, .int .i64 x.count] := ((Blk.at_ (by simp)).alloc _)
  have By : Blk ((w.alloc (.cells #[.string x.durable, .string x.pending, .int .i64 x.count] 36)).alloc (.cells #[.string y.command, .string y.reply] 23)) (w.heap.size + 1) 23 [.string y.command, .string y.reply] := (Blk.at_ (by simp))
  have Y0 : w.heap.size + 2 ≤ ((w.alloc (.cells #[.string x.durable, .string x.pending, .int .i64 x.count] 36)).alloc (.cells #[.string y.command, .string y.reply] 23)).heap.size := by simp
  generalize ((w.alloc (.cells #[.string x.durable, .string x.pending, .int .i64 x.count] 36)).alloc (.cells #[.string y.command, .string y.reply] 23)) = w0 at *
  have Cx := Bx.cell
  have Cy := By.cell
  go_wp2_with fail
  refine (szLog_any x _ _ hkx (by omega) (by omega)).mono ?_
  rintro e w1 ⟨lx, rfl, b1, rfl | ⟨px, qx, hux⟩⟩
  · go_wp2_with fail
    go_ret
    exact ⟨rfl, bel_then K0 b1⟩
  have K1 := bel_then K0 b1
  have Z1 := b1.size
  have Y1 := K1.size
  clear Cx Cy
  replace Bx := Bx.next b1
  replace By := By.next b1
  clear b1
  have Cx := Bx.cell
  have Cy := By.cell
  go_wp2_with fail
  refine (szLogRecord_any y _ _ hky (by omega) (by omega)).mono ?_
  rintro e w2 ⟨ly, rfl, b2, rfl | ⟨py, qy, huy⟩⟩
  · go_wp2_with fail
    go_ret
    exact ⟨rfl, bel_then K1 b2⟩
  have K2 := bel_then K1 b2
  have Z2 := b2.size
  have Y2 := K2.size
  clear Cx Cy
  replace Bx := Bx.next b2
  replace By := By.next b2
  clear b2
  have Cx := Bx.cell
  have Cy := By.cell
  obtain ⟨R, hRe⟩ : ∃ R, appL x y = R := ⟨_, rfl⟩
  have HR := Lib.hid hRe
  clear hRe
  go_upto_region 8 with fail
  go_cut [6, 7] (fun s6 s7 wx => s7 = .int .i64 R.2 ∧ Boxed (w.heap.size + 2) w wx 31 [.string R.1.durable, .string R.1.pending, .int .i64 R.1.count] (fun w' => Blk w' (w.heap.size) 36 [.string x.durable, .string x.pending, .int .i64 x.count] ∧ Blk w' (w.heap.size + 1) 23 [.string y.command, .string y.reply]) s6)
  case first =>
    refine wp_region_held_drew (S := fun w' => w'.cell? ⟨w.heap.size, 0, none⟩ = some (.string x.durable) ∧ w'.cell? ⟨w.heap.size, 1, none⟩ = some (.string x.pending) ∧ w'.cell? ⟨w.heap.size, 2, none⟩ = some (.int .i64 x.count) ∧ w'.cell? ⟨w.heap.size + 1, 0, none⟩ = some (.string y.command) ∧ w'.cell? ⟨w.heap.size + 1, 1, none⟩ = some (.string y.reply)) (by kernel_rfl) (by (try dsimp only); go_keep) (fun hHeld => ?_)
    have b3 := (Quiet.one w2).below w2.heap.size
    have K3 := bel_then K2 b3
    have Z3 := b3.size
    clear Cx Cy
    replace Bx := Bx.next b3
    replace By := By.next b3
    generalize w2.drew = w3 at *
    clear b3
    have Cx := Bx.cell
    have Cy := By.cell
    refine wpAnyH_take (i := 0) (v := ?_) rfl (by kernel_rfl) (by kernel_rfl) (by kernel_rfl) (fun _ _ _ h => h) (Or.inl ⟨by rfl, ?_⟩) (by assumption) ?_
    rotate_left 1
    · (intro w hSw; (try dsimp only at hSw); go_simp; try with_reducible rfl)
    (try simp only [Act.put, List.setIfInBounds_toArray, List.set_cons_zero, List.set_cons_succ, List.getElem_toArray, List.getElem_cons_zero])
    refine wpAnyH_take (i := 2) (v := ?_) rfl (by kernel_rfl) (by kernel_rfl) (by kernel_rfl) (fun _ _ _ h => h) (Or.inl ⟨by rfl, ?_⟩) (by assumption) ?_
    rotate_left 1
    · (intro w hSw; (try dsimp only at hSw); go_simp; try with_reducible rfl)
    (try simp only [Act.put, List.setIfInBounds_toArray, List.set_cons_zero, List.set_cons_succ, List.getElem_toArray, List.getElem_cons_zero, List.getElem_cons_succ])
    refine wpAnyH_ready (rs := [1, 8]) (by kernel_rfl) (by simp) ?_
    refine AllReadyH.cons rfl (fun K hK => ?_) ?_
    · go_simp
      refine (toLog_any _ _ _ _).mono ?_
      rintro e w4 ⟨rfl, b4⟩
      have K4 := bel_then K3 b4
      have Z4 := b4.size
      clear Cx Cy
      replace Bx := Bx.next b4
      replace By := By.next b4
      clear b4
      have Cx := Bx.cell
      have Cy := By.cell
      go_wp2_with fail
      refine hK.out _ _ (by (try dsimp only); go_keep) (fun hHeld => ?_)
      clear hK K
      refine wpAnyH_ready (rs := [3, 8]) (by kernel_rfl) (by simp) ?_
      refine AllReadyH.cons rfl (fun K hK => ?_) ?_
      · go_simp
        refine (toLogRecord_any _ _ _).mono ?_
        rintro e w5 ⟨rfl, b5⟩
        have K5 := bel_then K4 b5
        have Z5 := b5.size
        clear Cx Cy
        replace Bx := Bx.next b5
        replace By := By.next b5
        clear b5
        have Cx := Bx.cell
        have Cy := By.cell
        go_wp2_with fail
        refine hK.out _ _ (by (try dsimp only); go_keep) (fun hHeld => ?_)
        clear hK K
        refine wpAnyH_ready (rs := [4, 8]) (by kernel_rfl) (by simp) ?_
        refine AllReadyH.cons rfl (fun K hK => ?_) ?_
        · go_simp
          refine (specAppendRecord_any x y _ hux hky).mono ?_
          rw [HR.out]
          rintro e w6 ⟨rfl, b6⟩
          have K6 := bel_then K5 b6
          have Z6 := b6.size
          clear Cx Cy
          replace Bx := Bx.next b6
          replace By := By.next b6
          clear b6
          have Cx := Bx.cell
          have Cy := By.cell
          go_wp2_with fail
          refine hK.out _ _ (by (try dsimp only); go_keep) (fun hHeld => ?_)
          clear hK K
          refine wpAnyH_take (i := 5) (v := ?_) rfl (by kernel_rfl) (by kernel_rfl) (by kernel_rfl) (fun _ _ _ h => h) (Or.inl ⟨by rfl, ?_⟩) (by assumption) ?_
          rotate_left 1
          · (intro w hSw; (try dsimp only at hSw); go_simp; try with_reducible rfl)
          (try simp only [Act.put, List.setIfInBounds_toArray, List.set_cons_zero, List.set_cons_succ, List.getElem_toArray, List.getElem_cons_zero, List.getElem_cons_succ])
          refine wpAnyH_take (i := 6) (v := ?_) rfl (by kernel_rfl) (by kernel_rfl) (by kernel_rfl) (fun _ _ _ h => h) (Or.inl ⟨by rfl, ?_⟩) (by assumption) ?_
          rotate_left 1
          · (intro w hSw; (try dsimp only at hSw); go_simp; try with_reducible rfl)
          (try simp only [Act.put, List.setIfInBounds_toArray, List.set_cons_zero, List.set_cons_succ, List.getElem_toArray, List.getElem_cons_zero, List.getElem_cons_succ])
          refine wpAnyH_take (i := 7) (v := ?_) rfl (by kernel_rfl) (by kernel_rfl) (by kernel_rfl) (fun _ _ _ h => h) (Or.inl ⟨by rfl, ?_⟩) (by assumption) ?_
          rotate_left 1
          · (intro w hSw; (try dsimp only at hSw); go_simp; try with_reducible rfl)
          (try simp only [Act.put, List.setIfInBounds_toArray, List.set_cons_zero, List.set_cons_succ, List.getElem_toArray, List.getElem_cons_zero, List.getElem_cons_succ])
          refine wpAnyH_ready (rs := [8]) (by kernel_rfl) (by simp) ?_
          refine AllReadyH.cons rfl (fun K hK => ?_) AllReadyH.nil
          go_simp
          refine hK.out _ _ (by (try dsimp only); go_keep) (fun hHeld => ?_)
          clear hK K
          try simp only [Act.put, List.setIfInBounds_toArray, List.set_cons_zero, List.set_cons_succ, List.getElem_toArray, List.getElem_cons_zero, List.getElem_cons_succ]
          have b7 : Below w6.heap.size w6 (w6.alloc (.cells #[.string ⟨#[]⟩, .string ⟨#[]⟩, .int .i64 0] 31)) := (Below.refl _ _).alloc (Nat.le_refl _) _
          have RB : Blk (w6.alloc (.cells #[.string ⟨#[]⟩, .string ⟨#[]⟩, .int .i64 0] 31)) w6.heap.size 31 [.string ⟨#[]⟩, .string ⟨#[]⟩, .int .i64 0] := Blk.at_ rfl
          have RL : w6.heap.size < (w6.alloc (.cells #[.string ⟨#[]⟩, .string ⟨#[]⟩, .int .i64 0] 31)).heap.size := RB.lt
          have K7 := bel_then K6 b7
          have Z7 := b7.size
          clear Cx Cy
          replace Bx := Bx.next b7
          replace By := By.next b7
          generalize (w6.alloc (.cells #[.string ⟨#[]⟩, .string ⟨#[]⟩, .int .i64 0] 31)) = w7 at *
          clear b7
          have Cx := Bx.cell
          have Cy := By.cell
          have CB := RB.cell
          have RBf := RB.frozen
          refine wpAnyH_ready (rs := [9]) (by kernel_rfl) (by simp) ?_
          refine AllReadyH.cons rfl (fun K hK => ?_) AllReadyH.nil
          go_simp
          have hO : ∀ u0' u1' u2' : Value, Only (fun b => b = w6.heap.size) w7 ((((w7.setCell ⟨w6.heap.size, 0, none⟩ u0').setCell ⟨w6.heap.size, 1, none⟩ u1').setCell ⟨w6.heap.size, 2, none⟩ u2')) := fun _ _ _ => (only_set (only_set (only_set (Only.refl _ _) _ _) _ _) _ _)
          refine hK.out _ _ (by (try dsimp only); exact ⟨(Bx.only (hO _ _ _) (fun (h : _ = _) => by omega)).cell 0, (Bx.only (hO _ _ _) (fun (h : _ = _) => by omega)).cell 1, (Bx.only (hO _ _ _) (fun (h : _ = _) => by omega)).cell 2, (By.only (hO _ _ _) (fun (h : _ = _) => by omega)).cell 0, (By.only (hO _ _ _) (fun (h : _ = _) => by omega)).cell 1⟩) (fun hHeld => ?_)
          clear hK K
          try simp only [Act.put, List.setIfInBounds_toArray, List.set_cons_zero, List.set_cons_succ, List.getElem_toArray, List.getElem_cons_zero, List.getElem_cons_succ]
          have ho := hO (.string R.1.durable) (.string R.1.pending) (.int .i64 R.1.count)
          clear Cx
          replace Bx := Bx.only ho (fun (h : _ = _) => by omega)
          clear Cy
          replace By := By.only ho (fun (h : _ = _) => by omega)
          refine wpAnyH_take (i := 10) (v := ?_) rfl (by kernel_rfl) (by kernel_rfl) (by kernel_rfl) (fun _ _ _ h => h) (Or.inl ⟨by rfl, ?_⟩) (by assumption) ?_
          rotate_left 1
          · (intro w hSw; (try dsimp only at hSw); go_simp; try with_reducible rfl)
          (try simp only [Act.put, List.setIfInBounds_toArray, List.set_cons_zero, List.set_cons_succ, List.getElem_toArray, List.getElem_cons_zero, List.getElem_cons_succ])
          refine wpAnyH_done (by kernel_rfl) ?_ _
          go_wp2_with fail
          go_meet
          exact ⟨rfl, ⟨⟨w6.heap.size, rfl, by omega, (Blk.set_ (Blk.set_ (Blk.set_ RB 0 (.string R.1.durable)) 1 (.string R.1.pending)) 2 (.int .i64 R.1.count))⟩, bel_new K7 ho (by omega) (by omega), ⟨Bx, By⟩⟩⟩
        refine AllReadyH.cons rfl (fun K hK => ?_) AllReadyH.nil
        · go_simp
          refine hK.out _ _ (by (try dsimp only); go_keep) (fun hHeld => ?_)
          clear hK K
          try simp only [Act.put, List.setIfInBounds_toArray, List.set_cons_zero, List.set_cons_succ, List.getElem_toArray, List.getElem_cons_zero, List.getElem_cons_succ]
          have b6 : Below w5.heap.size w5 (w5.alloc (.cells #[.string ⟨#[]⟩, .string ⟨#[]⟩, .int .i64 0] 31)) := (Below.refl _ _).alloc (Nat.le_refl _) _
          have RB : Blk (w5.alloc (.cells #[.string ⟨#[]⟩, .string ⟨#[]⟩, .int .i64 0] 31)) w5.heap.size 31 [.string ⟨#[]⟩, .string ⟨#[]⟩, .int .i64 0] := Blk.at_ rfl
          have RL : w5.heap.size < (w5.alloc (.cells #[.string ⟨#[]⟩, .string ⟨#[]⟩, .int .i64 0] 31)).heap.size := RB.lt
          have K6 := bel_then K5 b6
          have Z6 := b6.size
          clear Cx Cy
          replace Bx := Bx.next b6
          replace By := By.next b6
          generalize (w5.alloc (.cells #[.string ⟨#[]⟩, .string ⟨#[]⟩, .int .i64 0] 31)) = w6 at *
          clear b6
          have Cx := Bx.cell
          have Cy := By.cell
          have CB := RB.cell
          have RBf := RB.frozen
          refine wpAnyH_ready (rs := [4]) (by kernel_rfl) (by simp) ?_
          refine AllReadyH.cons rfl (fun K hK => ?_) AllReadyH.nil
          go_simp
          refine (specAppendRecord_any x y _ hux hky).mono ?_
          rw [HR.out]
          rintro e w7 ⟨rfl, b7⟩
          have K7 := bel_then K6 b7
          have Z7 := b7.size
          clear Cx Cy CB
          replace Bx := Bx.next b7
          replace By := By.next b7
          replace RB := RB.next b7
          clear b7
          have Cx := Bx.cell
          have Cy := By.cell
          have CB := RB.cell
          have RBf := RB.frozen
          go_wp2_with fail
          refine hK.out _ _ (by (try dsimp only); go_keep) (fun hHeld => ?_)
          clear hK K
          refine wpAnyH_take (i := 5) (v := ?_) rfl (by kernel_rfl) (by kernel_rfl) (by kernel_rfl) (fun _ _ _ h => h) (Or.inl ⟨by rfl, ?_⟩) (by assumption) ?_
          rotate_left 1
          · (intro w hSw; (try dsimp only at hSw); go_simp; try with_reducible rfl)
          (try simp only [Act.put, List.setIfInBounds_toArray, List.set_cons_zero, List.set_cons_succ, List.getElem_toArray, List.getElem_cons_zero, List.getElem_cons_succ])
          refine wpAnyH_take (i := 6) (v := ?_) rfl (by kernel_rfl) (by kernel_rfl) (by kernel_rfl) (fun _ _ _ h => h) (Or.inl ⟨by rfl, ?_⟩) (by assumption) ?_
          rotate_left 1
          · (intro w hSw; (try dsimp only at hSw); go_simp; try with_reducible rfl)
          (try simp only [Act.put, List.setIfInBounds_toArray, List.set_cons_zero, List.set_cons_succ, List.getElem_toArray, List.getElem_cons_zero, List.getElem_cons_succ])
          refine wpAnyH_take (i := 7) (v := ?_) rfl (by kernel_rfl) (by kernel_rfl) (by kernel_rfl) (fun _ _ _ h => h) (Or.inl ⟨by rfl, ?_⟩) (by assumption) ?_
          rotate_left 1
          · (intro w hSw; (try dsimp only at hSw); go_simp; try with_reducible rfl)
          (try simp only [Act.put, List.setIfInBounds_toArray, List.set_cons_zero, List.set_cons_succ, List.getElem_toArray, List.getElem_cons_zero, List.getElem_cons_succ])
          refine wpAnyH_ready (rs := [9]) (by kernel_rfl) (by simp) ?_
          refine AllReadyH.cons rfl (fun K hK => ?_) AllReadyH.nil
          go_simp
          have hO : ∀ u0' u1' u2' : Value, Only (fun b => b = w5.heap.size) w7 ((((w7.setCell ⟨w5.heap.size, 0, none⟩ u0').setCell ⟨w5.heap.size, 1, none⟩ u1').setCell ⟨w5.heap.size, 2, none⟩ u2')) := fun _ _ _ => (only_set (only_set (only_set (Only.refl _ _) _ _) _ _) _ _)
          refine hK.out _ _ (by (try dsimp only); exact ⟨(Bx.only (hO _ _ _) (fun (h : _ = _) => by omega)).cell 0, (Bx.only (hO _ _ _) (fun (h : _ = _) => by omega)).cell 1, (Bx.only (hO _ _ _) (fun (h : _ = _) => by omega)).cell 2, (By.only (hO _ _ _) (fun (h : _ = _) => by omega)).cell 0, (By.only (hO _ _ _) (fun (h : _ = _) => by omega)).cell 1⟩) (fun hHeld => ?_)
          clear hK K
          try simp only [Act.put, List.setIfInBounds_toArray, List.set_cons_zero, List.set_cons_succ, List.getElem_toArray, List.getElem_cons_zero, List.getElem_cons_succ]
          have ho := hO (.string R.1.durable) (.string R.1.pending) (.int .i64 R.1.count)
          clear Cx
          replace Bx := Bx.only ho (fun (h : _ = _) => by omega)
          clear Cy
          replace By := By.only ho (fun (h : _ = _) => by omega)
          refine wpAnyH_take (i := 10) (v := ?_) rfl (by kernel_rfl) (by kernel_rfl) (by kernel_rfl) (fun _ _ _ h => h) (Or.inl ⟨by rfl, ?_⟩) (by assumption) ?_
          rotate_left 1
          · (intro w hSw; (try dsimp only at hSw); go_simp; try with_reducible rfl)
          (try simp only [Act.put, List.setIfInBounds_toArray, List.set_cons_zero, List.set_cons_succ, List.getElem_toArray, List.getElem_cons_zero, List.getElem_cons_succ])
          refine wpAnyH_done (by kernel_rfl) ?_ _
          go_wp2_with fail
          go_meet
          exact ⟨rfl, ⟨⟨w5.heap.size, rfl, by omega, (Blk.set_ (Blk.set_ (Blk.set_ RB 0 (.string R.1.durable)) 1 (.string R.1.pending)) 2 (.int .i64 R.1.count))⟩, bel_new K7 ho (by omega) (by omega), ⟨Bx, By⟩⟩⟩
      refine AllReadyH.cons rfl (fun K hK => ?_) AllReadyH.nil
      · go_simp
        refine hK.out _ _ (by (try dsimp only); go_keep) (fun hHeld => ?_)
        clear hK K
        try simp only [Act.put, List.setIfInBounds_toArray, List.set_cons_zero, List.set_cons_succ, List.getElem_toArray, List.getElem_cons_zero, List.getElem_cons_succ]
        have b5 : Below w4.heap.size w4 (w4.alloc (.cells #[.string ⟨#[]⟩, .string ⟨#[]⟩, .int .i64 0] 31)) := (Below.refl _ _).alloc (Nat.le_refl _) _
        have RB : Blk (w4.alloc (.cells #[.string ⟨#[]⟩, .string ⟨#[]⟩, .int .i64 0] 31)) w4.heap.size 31 [.string ⟨#[]⟩, .string ⟨#[]⟩, .int .i64 0] := Blk.at_ rfl
        have RL : w4.heap.size < (w4.alloc (.cells #[.string ⟨#[]⟩, .string ⟨#[]⟩, .int .i64 0] 31)).heap.size := RB.lt
        have K5 := bel_then K4 b5
        have Z5 := b5.size
        clear Cx Cy
        replace Bx := Bx.next b5
        replace By := By.next b5
        generalize (w4.alloc (.cells #[.string ⟨#[]⟩, .string ⟨#[]⟩, .int .i64 0] 31)) = w5 at *
        clear b5
        have Cx := Bx.cell
        have Cy := By.cell
        have CB := RB.cell
        have RBf := RB.frozen
        refine wpAnyH_ready (rs := [3]) (by kernel_rfl) (by simp) ?_
        refine AllReadyH.cons rfl (fun K hK => ?_) AllReadyH.nil
        go_simp
        refine (toLogRecord_any _ _ _).mono ?_
        rintro e w6 ⟨rfl, b6⟩
        have K6 := bel_then K5 b6
        have Z6 := b6.size
        clear Cx Cy CB
        replace Bx := Bx.next b6
        replace By := By.next b6
        replace RB := RB.next b6
        clear b6
        have Cx := Bx.cell
        have Cy := By.cell
        have CB := RB.cell
        have RBf := RB.frozen
        go_wp2_with fail
        refine hK.out _ _ (by (try dsimp only); go_keep) (fun hHeld => ?_)
        clear hK K
        refine wpAnyH_ready (rs := [4]) (by kernel_rfl) (by simp) ?_
        refine AllReadyH.cons rfl (fun K hK => ?_) AllReadyH.nil
        go_simp
        refine (specAppendRecord_any x y _ hux hky).mono ?_
        rw [HR.out]
        rintro e w7 ⟨rfl, b7⟩
        have K7 := bel_then K6 b7
        have Z7 := b7.size
        clear Cx Cy CB
        replace Bx := Bx.next b7
        replace By := By.next b7
        replace RB := RB.next b7
        clear b7
        have Cx := Bx.cell
        have Cy := By.cell
        have CB := RB.cell
        have RBf := RB.frozen
        go_wp2_with fail
        refine hK.out _ _ (by (try dsimp only); go_keep) (fun hHeld => ?_)
        clear hK K
        refine wpAnyH_take (i := 5) (v := ?_) rfl (by kernel_rfl) (by kernel_rfl) (by kernel_rfl) (fun _ _ _ h => h) (Or.inl ⟨by rfl, ?_⟩) (by assumption) ?_
        rotate_left 1
        · (intro w hSw; (try dsimp only at hSw); go_simp; try with_reducible rfl)
        (try simp only [Act.put, List.setIfInBounds_toArray, List.set_cons_zero, List.set_cons_succ, List.getElem_toArray, List.getElem_cons_zero, List.getElem_cons_succ])
        refine wpAnyH_take (i := 6) (v := ?_) rfl (by kernel_rfl) (by kernel_rfl) (by kernel_rfl) (fun _ _ _ h => h) (Or.inl ⟨by rfl, ?_⟩) (by assumption) ?_
        rotate_left 1
        · (intro w hSw; (try dsimp only at hSw); go_simp; try with_reducible rfl)
        (try simp only [Act.put, List.setIfInBounds_toArray, List.set_cons_zero, List.set_cons_succ, List.getElem_toArray, List.getElem_cons_zero, List.getElem_cons_succ])
        refine wpAnyH_take (i := 7) (v := ?_) rfl (by kernel_rfl) (by kernel_rfl) (by kernel_rfl) (fun _ _ _ h => h) (Or.inl ⟨by rfl, ?_⟩) (by assumption) ?_
        rotate_left 1
        · (intro w hSw; (try dsimp only at hSw); go_simp; try with_reducible rfl)
        (try simp only [Act.put, List.setIfInBounds_toArray, List.set_cons_zero, List.set_cons_succ, List.getElem_toArray, List.getElem_cons_zero, List.getElem_cons_succ])
        refine wpAnyH_ready (rs := [9]) (by kernel_rfl) (by simp) ?_
        refine AllReadyH.cons rfl (fun K hK => ?_) AllReadyH.nil
        go_simp
        have hO : ∀ u0' u1' u2' : Value, Only (fun b => b = w4.heap.size) w7 ((((w7.setCell ⟨w4.heap.size, 0, none⟩ u0').setCell ⟨w4.heap.size, 1, none⟩ u1').setCell ⟨w4.heap.size, 2, none⟩ u2')) := fun _ _ _ => (only_set (only_set (only_set (Only.refl _ _) _ _) _ _) _ _)
        refine hK.out _ _ (by (try dsimp only); exact ⟨(Bx.only (hO _ _ _) (fun (h : _ = _) => by omega)).cell 0, (Bx.only (hO _ _ _) (fun (h : _ = _) => by omega)).cell 1, (Bx.only (hO _ _ _) (fun (h : _ = _) => by omega)).cell 2, (By.only (hO _ _ _) (fun (h : _ = _) => by omega)).cell 0, (By.only (hO _ _ _) (fun (h : _ = _) => by omega)).cell 1⟩) (fun hHeld => ?_)
        clear hK K
        try simp only [Act.put, List.setIfInBounds_toArray, List.set_cons_zero, List.set_cons_succ, List.getElem_toArray, List.getElem_cons_zero, List.getElem_cons_succ]
        have ho := hO (.string R.1.durable) (.string R.1.pending) (.int .i64 R.1.count)
        clear Cx
        replace Bx := Bx.only ho (fun (h : _ = _) => by omega)
        clear Cy
        replace By := By.only ho (fun (h : _ = _) => by omega)
        refine wpAnyH_take (i := 10) (v := ?_) rfl (by kernel_rfl) (by kernel_rfl) (by kernel_rfl) (fun _ _ _ h => h) (Or.inl ⟨by rfl, ?_⟩) (by assumption) ?_
        rotate_left 1
        · (intro w hSw; (try dsimp only at hSw); go_simp; try with_reducible rfl)
        (try simp only [Act.put, List.setIfInBounds_toArray, List.set_cons_zero, List.set_cons_succ, List.getElem_toArray, List.getElem_cons_zero, List.getElem_cons_succ])
        refine wpAnyH_done (by kernel_rfl) ?_ _
        go_wp2_with fail
        go_meet
        exact ⟨rfl, ⟨⟨w4.heap.size, rfl, by omega, (Blk.set_ (Blk.set_ (Blk.set_ RB 0 (.string R.1.durable)) 1 (.string R.1.pending)) 2 (.int .i64 R.1.count))⟩, bel_new K7 ho (by omega) (by omega), ⟨Bx, By⟩⟩⟩
    refine AllReadyH.cons rfl (fun K hK => ?_) AllReadyH.nil
    · go_simp
      refine hK.out _ _ (by (try dsimp only); go_keep) (fun hHeld => ?_)
      clear hK K
      try simp only [Act.put, List.setIfInBounds_toArray, List.set_cons_zero, List.set_cons_succ, List.getElem_toArray, List.getElem_cons_zero, List.getElem_cons_succ]
      have b4 : Below w3.heap.size w3 (w3.alloc (.cells #[.string ⟨#[]⟩, .string ⟨#[]⟩, .int .i64 0] 31)) := (Below.refl _ _).alloc (Nat.le_refl _) _
      have RB : Blk (w3.alloc (.cells #[.string ⟨#[]⟩, .string ⟨#[]⟩, .int .i64 0] 31)) w3.heap.size 31 [.string ⟨#[]⟩, .string ⟨#[]⟩, .int .i64 0] := Blk.at_ rfl
      have RL : w3.heap.size < (w3.alloc (.cells #[.string ⟨#[]⟩, .string ⟨#[]⟩, .int .i64 0] 31)).heap.size := RB.lt
      have K4 := bel_then K3 b4
      have Z4 := b4.size
      clear Cx Cy
      replace Bx := Bx.next b4
      replace By := By.next b4
      generalize (w3.alloc (.cells #[.string ⟨#[]⟩, .string ⟨#[]⟩, .int .i64 0] 31)) = w4 at *
      clear b4
      have Cx := Bx.cell
      have Cy := By.cell
      have CB := RB.cell
      have RBf := RB.frozen
      refine wpAnyH_ready (rs := [1]) (by kernel_rfl) (by simp) ?_
      refine AllReadyH.cons rfl (fun K hK => ?_) AllReadyH.nil
      go_simp
      refine (toLog_any _ _ _ _).mono ?_
      rintro e w5 ⟨rfl, b5⟩
      have K5 := bel_then K4 b5
      have Z5 := b5.size
      clear Cx Cy CB
      replace Bx := Bx.next b5
      replace By := By.next b5
      replace RB := RB.next b5
      clear b5
      have Cx := Bx.cell
      have Cy := By.cell
      have CB := RB.cell
      have RBf := RB.frozen
      go_wp2_with fail
      refine hK.out _ _ (by (try dsimp only); go_keep) (fun hHeld => ?_)
      clear hK K
      refine wpAnyH_ready (rs := [3]) (by kernel_rfl) (by simp) ?_
      refine AllReadyH.cons rfl (fun K hK => ?_) AllReadyH.nil
      go_simp
      refine (toLogRecord_any _ _ _).mono ?_
      rintro e w6 ⟨rfl, b6⟩
      have K6 := bel_then K5 b6
      have Z6 := b6.size
      clear Cx Cy CB
      replace Bx := Bx.next b6
      replace By := By.next b6
      replace RB := RB.next b6
      clear b6
      have Cx := Bx.cell
      have Cy := By.cell
      have CB := RB.cell
      have RBf := RB.frozen
      go_wp2_with fail
      refine hK.out _ _ (by (try dsimp only); go_keep) (fun hHeld => ?_)
      clear hK K
      refine wpAnyH_ready (rs := [4]) (by kernel_rfl) (by simp) ?_
      refine AllReadyH.cons rfl (fun K hK => ?_) AllReadyH.nil
      go_simp
      refine (specAppendRecord_any x y _ hux hky).mono ?_
      rw [HR.out]
      rintro e w7 ⟨rfl, b7⟩
      have K7 := bel_then K6 b7
      have Z7 := b7.size
      clear Cx Cy CB
      replace Bx := Bx.next b7
      replace By := By.next b7
      replace RB := RB.next b7
      clear b7
      have Cx := Bx.cell
      have Cy := By.cell
      have CB := RB.cell
      have RBf := RB.frozen
      go_wp2_with fail
      refine hK.out _ _ (by (try dsimp only); go_keep) (fun hHeld => ?_)
      clear hK K
      refine wpAnyH_take (i := 5) (v := ?_) rfl (by kernel_rfl) (by kernel_rfl) (by kernel_rfl) (fun _ _ _ h => h) (Or.inl ⟨by rfl, ?_⟩) (by assumption) ?_
      rotate_left 1
      · (intro w hSw; (try dsimp only at hSw); go_simp; try with_reducible rfl)
      (try simp only [Act.put, List.setIfInBounds_toArray, List.set_cons_zero, List.set_cons_succ, List.getElem_toArray, List.getElem_cons_zero, List.getElem_cons_succ])
      refine wpAnyH_take (i := 6) (v := ?_) rfl (by kernel_rfl) (by kernel_rfl) (by kernel_rfl) (fun _ _ _ h => h) (Or.inl ⟨by rfl, ?_⟩) (by assumption) ?_
      rotate_left 1
      · (intro w hSw; (try dsimp only at hSw); go_simp; try with_reducible rfl)
      (try simp only [Act.put, List.setIfInBounds_toArray, List.set_cons_zero, List.set_cons_succ, List.getElem_toArray, List.getElem_cons_zero, List.getElem_cons_succ])
      refine wpAnyH_take (i := 7) (v := ?_) rfl (by kernel_rfl) (by kernel_rfl) (by kernel_rfl) (fun _ _ _ h => h) (Or.inl ⟨by rfl, ?_⟩) (by assumption) ?_
      rotate_left 1
      · (intro w hSw; (try dsimp only at hSw); go_simp; try with_reducible rfl)
      (try simp only [Act.put, List.setIfInBounds_toArray, List.set_cons_zero, List.set_cons_succ, List.getElem_toArray, List.getElem_cons_zero, List.getElem_cons_succ])
      refine wpAnyH_ready (rs := [9]) (by kernel_rfl) (by simp) ?_
      refine AllReadyH.cons rfl (fun K hK => ?_) AllReadyH.nil
      go_simp
      have hO : ∀ u0' u1' u2' : Value, Only (fun b => b = w3.heap.size) w7 ((((w7.setCell ⟨w3.heap.size, 0, none⟩ u0').setCell ⟨w3.heap.size, 1, none⟩ u1').setCell ⟨w3.heap.size, 2, none⟩ u2')) := fun _ _ _ => (only_set (only_set (only_set (Only.refl _ _) _ _) _ _) _ _)
      refine hK.out _ _ (by (try dsimp only); exact ⟨(Bx.only (hO _ _ _) (fun (h : _ = _) => by omega)).cell 0, (Bx.only (hO _ _ _) (fun (h : _ = _) => by omega)).cell 1, (Bx.only (hO _ _ _) (fun (h : _ = _) => by omega)).cell 2, (By.only (hO _ _ _) (fun (h : _ = _) => by omega)).cell 0, (By.only (hO _ _ _) (fun (h : _ = _) => by omega)).cell 1⟩) (fun hHeld => ?_)
      clear hK K
      try simp only [Act.put, List.setIfInBounds_toArray, List.set_cons_zero, List.set_cons_succ, List.getElem_toArray, List.getElem_cons_zero, List.getElem_cons_succ]
      have ho := hO (.string R.1.durable) (.string R.1.pending) (.int .i64 R.1.count)
      clear Cx
      replace Bx := Bx.only ho (fun (h : _ = _) => by omega)
      clear Cy
      replace By := By.only ho (fun (h : _ = _) => by omega)
      refine wpAnyH_take (i := 10) (v := ?_) rfl (by kernel_rfl) (by kernel_rfl) (by kernel_rfl) (fun _ _ _ h => h) (Or.inl ⟨by rfl, ?_⟩) (by assumption) ?_
      rotate_left 1
      · (intro w hSw; (try dsimp only at hSw); go_simp; try with_reducible rfl)
      (try simp only [Act.put, List.setIfInBounds_toArray, List.set_cons_zero, List.set_cons_succ, List.getElem_toArray, List.getElem_cons_zero, List.getElem_cons_succ])
      refine wpAnyH_done (by kernel_rfl) ?_ _
      go_wp2_with fail
      go_meet
      exact ⟨rfl, ⟨⟨w3.heap.size, rfl, by omega, (Blk.set_ (Blk.set_ (Blk.set_ RB 0 (.string R.1.durable)) 1 (.string R.1.pending)) 2 (.int .i64 R.1.count))⟩, bel_new K7 ho (by omega) (by omega), ⟨Bx, By⟩⟩⟩
  obtain ⟨rfl, hbox⟩ := hcut
  clear Cx Cy
  clear Bx By
  obtain ⟨⟨g8, rfl, hlo8, BR0⟩, K8, Bx, By⟩ := hbox
  obtain ⟨w8, rfl⟩ : ∃ w' : World, w' = wc := ⟨_, rfl⟩
  have Y8 := K8.size
  have V8 := BR0.lt
  have Cx := Bx.cell
  have Cy := By.cell
  have CR0 := BR0.cell
  go_upto_region 9 with fail
  go_cut [8, 9] (fun s8 s9 wx => s9 = .int .i64 R.2 ∧ Boxed (w.heap.size + 3) w wx 31 [.string R.1.durable, .string R.1.pending, .int .i64 R.1.count] (fun w' => Blk w' (w.heap.size) 36 [.string x.durable, .string x.pending, .int .i64 x.count] ∧ Blk w' (w.heap.size + 1) 23 [.string y.command, .string y.reply] ∧ Blk w' (g8) 31 [.string R.1.durable, .string R.1.pending, .int .i64 R.1.count]) s8)
  case first =>
    refine wp_region_held_drew (S := fun w' => w'.cell? ⟨w.heap.size, 0, none⟩ = some (.string x.durable) ∧ w'.cell? ⟨w.heap.size, 1, none⟩ = some (.string x.pending) ∧ w'.cell? ⟨w.heap.size, 2, none⟩ = some (.int .i64 x.count) ∧ w'.cell? ⟨w.heap.size + 1, 0, none⟩ = some (.string y.command) ∧ w'.cell? ⟨w.heap.size + 1, 1, none⟩ = some (.string y.reply) ∧ w'.cell? ⟨g8, 0, none⟩ = some (.string R.1.durable) ∧ w'.cell? ⟨g8, 1, none⟩ = some (.string R.1.pending) ∧ w'.cell? ⟨g8, 2, none⟩ = some (.int .i64 R.1.count)) (by kernel_rfl) (by (try dsimp only); go_keep) (fun hHeld => ?_)
    have b9 := (Quiet.one w8).below w8.heap.size
    have K9 := bel_then K8 b9
    have Z9 := b9.size
    clear Cx Cy CR0
    replace Bx := Bx.next b9
    replace By := By.next b9
    replace BR0 := BR0.next b9
    generalize w8.drew = w9 at *
    clear b9
    have Cx := Bx.cell
    have Cy := By.cell
    have CR0 := BR0.cell
    refine wpAnyH_take (i := 0) (v := ?_) rfl (by kernel_rfl) (by kernel_rfl) (by kernel_rfl) (fun _ _ _ h => h) (Or.inl ⟨by rfl, ?_⟩) (by assumption) ?_
    rotate_left 1
    · (intro w hSw; (try dsimp only at hSw); go_simp; try with_reducible rfl)
    (try simp only [Act.put, List.setIfInBounds_toArray, List.set_cons_zero, List.set_cons_succ, List.getElem_toArray, List.getElem_cons_zero])
    refine wpAnyH_take (i := 2) (v := ?_) rfl (by kernel_rfl) (by kernel_rfl) (by kernel_rfl) (fun _ _ _ h => h) (Or.inl ⟨by rfl, ?_⟩) (by assumption) ?_
    rotate_left 1
    · (intro w hSw; (try dsimp only at hSw); go_simp; try with_reducible rfl)
    (try simp only [Act.put, List.setIfInBounds_toArray, List.set_cons_zero, List.set_cons_succ, List.getElem_toArray, List.getElem_cons_zero, List.getElem_cons_succ])
    refine wpAnyH_ready (rs := [1, 8]) (by kernel_rfl) (by simp) ?_
    refine AllReadyH.cons rfl (fun K hK => ?_) ?_
    · go_simp
      refine (toLog_any _ _ _ _).mono ?_
      rintro e w10 ⟨rfl, b10⟩
      have K10 := bel_then K9 b10
      have Z10 := b10.size
      clear Cx Cy CR0
      replace Bx := Bx.next b10
      replace By := By.next b10
      replace BR0 := BR0.next b10
      clear b10
      have Cx := Bx.cell
      have Cy := By.cell
      have CR0 := BR0.cell
      go_wp2_with fail
      refine hK.out _ _ (by (try dsimp only); go_keep) (fun hHeld => ?_)
      clear hK K
      refine wpAnyH_ready (rs := [3, 8]) (by kernel_rfl) (by simp) ?_
      refine AllReadyH.cons rfl (fun K hK => ?_) ?_
      · go_simp
        refine (toLogRecord_any _ _ _).mono ?_
        rintro e w11 ⟨rfl, b11⟩
        have K11 := bel_then K10 b11
        have Z11 := b11.size
        clear Cx Cy CR0
        replace Bx := Bx.next b11
        replace By := By.next b11
        replace BR0 := BR0.next b11
        clear b11
        have Cx := Bx.cell
        have Cy := By.cell
        have CR0 := BR0.cell
        go_wp2_with fail
        refine hK.out _ _ (by (try dsimp only); go_keep) (fun hHeld => ?_)
        clear hK K
        refine wpAnyH_ready (rs := [4, 8]) (by kernel_rfl) (by simp) ?_
        refine AllReadyH.cons rfl (fun K hK => ?_) ?_
        · go_simp
          refine (AppendRecord_any x y _ hux hky (hg.next K11)).mono ?_
          rw [HR.out]
          rintro e w12 ⟨rfl, b12⟩
          have K12 := bel_then K11 b12
          have Z12 := b12.size
          clear Cx Cy CR0
          replace Bx := Bx.next b12
          replace By := By.next b12
          replace BR0 := BR0.next b12
          clear b12
          have Cx := Bx.cell
          have Cy := By.cell
          have CR0 := BR0.cell
          go_wp2_with fail
          refine hK.out _ _ (by (try dsimp only); go_keep) (fun hHeld => ?_)
          clear hK K
          refine wpAnyH_take (i := 5) (v := ?_) rfl (by kernel_rfl) (by kernel_rfl) (by kernel_rfl) (fun _ _ _ h => h) (Or.inl ⟨by rfl, ?_⟩) (by assumption) ?_
          rotate_left 1
          · (intro w hSw; (try dsimp only at hSw); go_simp; try with_reducible rfl)
          (try simp only [Act.put, List.setIfInBounds_toArray, List.set_cons_zero, List.set_cons_succ, List.getElem_toArray, List.getElem_cons_zero, List.getElem_cons_succ])
          refine wpAnyH_take (i := 6) (v := ?_) rfl (by kernel_rfl) (by kernel_rfl) (by kernel_rfl) (fun _ _ _ h => h) (Or.inl ⟨by rfl, ?_⟩) (by assumption) ?_
          rotate_left 1
          · (intro w hSw; (try dsimp only at hSw); go_simp; try with_reducible rfl)
          (try simp only [Act.put, List.setIfInBounds_toArray, List.set_cons_zero, List.set_cons_succ, List.getElem_toArray, List.getElem_cons_zero, List.getElem_cons_succ])
          refine wpAnyH_take (i := 7) (v := ?_) rfl (by kernel_rfl) (by kernel_rfl) (by kernel_rfl) (fun _ _ _ h => h) (Or.inl ⟨by rfl, ?_⟩) (by assumption) ?_
          rotate_left 1
          · (intro w hSw; (try dsimp only at hSw); go_simp; try with_reducible rfl)
          (try simp only [Act.put, List.setIfInBounds_toArray, List.set_cons_zero, List.set_cons_succ, List.getElem_toArray, List.getElem_cons_zero, List.getElem_cons_succ])
          refine wpAnyH_ready (rs := [8]) (by kernel_rfl) (by simp) ?_
          refine AllReadyH.cons rfl (fun K hK => ?_) AllReadyH.nil
          go_simp
          refine hK.out _ _ (by (try dsimp only); go_keep) (fun hHeld => ?_)
          clear hK K
          try simp only [Act.put, List.setIfInBounds_toArray, List.set_cons_zero, List.set_cons_succ, List.getElem_toArray, List.getElem_cons_zero, List.getElem_cons_succ]
          have b13 : Below w12.heap.size w12 (w12.alloc (.cells #[.string ⟨#[]⟩, .string ⟨#[]⟩, .int .i64 0] 31)) := (Below.refl _ _).alloc (Nat.le_refl _) _
          have RB : Blk (w12.alloc (.cells #[.string ⟨#[]⟩, .string ⟨#[]⟩, .int .i64 0] 31)) w12.heap.size 31 [.string ⟨#[]⟩, .string ⟨#[]⟩, .int .i64 0] := Blk.at_ rfl
          have RL : w12.heap.size < (w12.alloc (.cells #[.string ⟨#[]⟩, .string ⟨#[]⟩, .int .i64 0] 31)).heap.size := RB.lt
          have K13 := bel_then K12 b13
          have Z13 := b13.size
          clear Cx Cy CR0
          replace Bx := Bx.next b13
          replace By := By.next b13
          replace BR0 := BR0.next b13
          generalize (w12.alloc (.cells #[.string ⟨#[]⟩, .string ⟨#[]⟩, .int .i64 0] 31)) = w13 at *
          clear b13
          have Cx := Bx.cell
          have Cy := By.cell
          have CR0 := BR0.cell
          have CB := RB.cell
          have RBf := RB.frozen
          refine wpAnyH_ready (rs := [9]) (by kernel_rfl) (by simp) ?_
          refine AllReadyH.cons rfl (fun K hK => ?_) AllReadyH.nil
          go_simp
          have hO : ∀ u0' u1' u2' : Value, Only (fun b => b = w12.heap.size) w13 ((((w13.setCell ⟨w12.heap.size, 0, none⟩ u0').setCell ⟨w12.heap.size, 1, none⟩ u1').setCell ⟨w12.heap.size, 2, none⟩ u2')) := fun _ _ _ => (only_set (only_set (only_set (Only.refl _ _) _ _) _ _) _ _)
          refine hK.out _ _ (by (try dsimp only); exact ⟨(Bx.only (hO _ _ _) (fun (h : _ = _) => by omega)).cell 0, (Bx.only (hO _ _ _) (fun (h : _ = _) => by omega)).cell 1, (Bx.only (hO _ _ _) (fun (h : _ = _) => by omega)).cell 2, (By.only (hO _ _ _) (fun (h : _ = _) => by omega)).cell 0, (By.only (hO _ _ _) (fun (h : _ = _) => by omega)).cell 1, (BR0.only (hO _ _ _) (fun (h : _ = _) => by omega)).cell 0, (BR0.only (hO _ _ _) (fun (h : _ = _) => by omega)).cell 1, (BR0.only (hO _ _ _) (fun (h : _ = _) => by omega)).cell 2⟩) (fun hHeld => ?_)
          clear hK K
          try simp only [Act.put, List.setIfInBounds_toArray, List.set_cons_zero, List.set_cons_succ, List.getElem_toArray, List.getElem_cons_zero, List.getElem_cons_succ]
          have ho := hO (.string R.1.durable) (.string R.1.pending) (.int .i64 R.1.count)
          clear Cx
          replace Bx := Bx.only ho (fun (h : _ = _) => by omega)
          clear Cy
          replace By := By.only ho (fun (h : _ = _) => by omega)
          clear CR0
          replace BR0 := BR0.only ho (fun (h : _ = _) => by omega)
          refine wpAnyH_take (i := 10) (v := ?_) rfl (by kernel_rfl) (by kernel_rfl) (by kernel_rfl) (fun _ _ _ h => h) (Or.inl ⟨by rfl, ?_⟩) (by assumption) ?_
          rotate_left 1
          · (intro w hSw; (try dsimp only at hSw); go_simp; try with_reducible rfl)
          (try simp only [Act.put, List.setIfInBounds_toArray, List.set_cons_zero, List.set_cons_succ, List.getElem_toArray, List.getElem_cons_zero, List.getElem_cons_succ])
          refine wpAnyH_done (by kernel_rfl) ?_ _
          go_wp2_with fail
          go_meet
          exact ⟨rfl, ⟨⟨w12.heap.size, rfl, by omega, (Blk.set_ (Blk.set_ (Blk.set_ RB 0 (.string R.1.durable)) 1 (.string R.1.pending)) 2 (.int .i64 R.1.count))⟩, bel_new K13 ho (by omega) (by omega), ⟨Bx, By, BR0⟩⟩⟩
        refine AllReadyH.cons rfl (fun K hK => ?_) AllReadyH.nil
        · go_simp
          refine hK.out _ _ (by (try dsimp only); go_keep) (fun hHeld => ?_)
          clear hK K
          try simp only [Act.put, List.setIfInBounds_toArray, List.set_cons_zero, List.set_cons_succ, List.getElem_toArray, List.getElem_cons_zero, List.getElem_cons_succ]
          have b12 : Below w11.heap.size w11 (w11.alloc (.cells #[.string ⟨#[]⟩, .string ⟨#[]⟩, .int .i64 0] 31)) := (Below.refl _ _).alloc (Nat.le_refl _) _
          have RB : Blk (w11.alloc (.cells #[.string ⟨#[]⟩, .string ⟨#[]⟩, .int .i64 0] 31)) w11.heap.size 31 [.string ⟨#[]⟩, .string ⟨#[]⟩, .int .i64 0] := Blk.at_ rfl
          have RL : w11.heap.size < (w11.alloc (.cells #[.string ⟨#[]⟩, .string ⟨#[]⟩, .int .i64 0] 31)).heap.size := RB.lt
          have K12 := bel_then K11 b12
          have Z12 := b12.size
          clear Cx Cy CR0
          replace Bx := Bx.next b12
          replace By := By.next b12
          replace BR0 := BR0.next b12
          generalize (w11.alloc (.cells #[.string ⟨#[]⟩, .string ⟨#[]⟩, .int .i64 0] 31)) = w12 at *
          clear b12
          have Cx := Bx.cell
          have Cy := By.cell
          have CR0 := BR0.cell
          have CB := RB.cell
          have RBf := RB.frozen
          refine wpAnyH_ready (rs := [4]) (by kernel_rfl) (by simp) ?_
          refine AllReadyH.cons rfl (fun K hK => ?_) AllReadyH.nil
          go_simp
          refine (AppendRecord_any x y _ hux hky (hg.next K12)).mono ?_
          rw [HR.out]
          rintro e w13 ⟨rfl, b13⟩
          have K13 := bel_then K12 b13
          have Z13 := b13.size
          clear Cx Cy CR0 CB
          replace Bx := Bx.next b13
          replace By := By.next b13
          replace BR0 := BR0.next b13
          replace RB := RB.next b13
          clear b13
          have Cx := Bx.cell
          have Cy := By.cell
          have CR0 := BR0.cell
          have CB := RB.cell
          have RBf := RB.frozen
          go_wp2_with fail
          refine hK.out _ _ (by (try dsimp only); go_keep) (fun hHeld => ?_)
          clear hK K
          refine wpAnyH_take (i := 5) (v := ?_) rfl (by kernel_rfl) (by kernel_rfl) (by kernel_rfl) (fun _ _ _ h => h) (Or.inl ⟨by rfl, ?_⟩) (by assumption) ?_
          rotate_left 1
          · (intro w hSw; (try dsimp only at hSw); go_simp; try with_reducible rfl)
          (try simp only [Act.put, List.setIfInBounds_toArray, List.set_cons_zero, List.set_cons_succ, List.getElem_toArray, List.getElem_cons_zero, List.getElem_cons_succ])
          refine wpAnyH_take (i := 6) (v := ?_) rfl (by kernel_rfl) (by kernel_rfl) (by kernel_rfl) (fun _ _ _ h => h) (Or.inl ⟨by rfl, ?_⟩) (by assumption) ?_
          rotate_left 1
          · (intro w hSw; (try dsimp only at hSw); go_simp; try with_reducible rfl)
          (try simp only [Act.put, List.setIfInBounds_toArray, List.set_cons_zero, List.set_cons_succ, List.getElem_toArray, List.getElem_cons_zero, List.getElem_cons_succ])
          refine wpAnyH_take (i := 7) (v := ?_) rfl (by kernel_rfl) (by kernel_rfl) (by kernel_rfl) (fun _ _ _ h => h) (Or.inl ⟨by rfl, ?_⟩) (by assumption) ?_
          rotate_left 1
          · (intro w hSw; (try dsimp only at hSw); go_simp; try with_reducible rfl)
          (try simp only [Act.put, List.setIfInBounds_toArray, List.set_cons_zero, List.set_cons_succ, List.getElem_toArray, List.getElem_cons_zero, List.getElem_cons_succ])
          refine wpAnyH_ready (rs := [9]) (by kernel_rfl) (by simp) ?_
          refine AllReadyH.cons rfl (fun K hK => ?_) AllReadyH.nil
          go_simp
          have hO : ∀ u0' u1' u2' : Value, Only (fun b => b = w11.heap.size) w13 ((((w13.setCell ⟨w11.heap.size, 0, none⟩ u0').setCell ⟨w11.heap.size, 1, none⟩ u1').setCell ⟨w11.heap.size, 2, none⟩ u2')) := fun _ _ _ => (only_set (only_set (only_set (Only.refl _ _) _ _) _ _) _ _)
          refine hK.out _ _ (by (try dsimp only); exact ⟨(Bx.only (hO _ _ _) (fun (h : _ = _) => by omega)).cell 0, (Bx.only (hO _ _ _) (fun (h : _ = _) => by omega)).cell 1, (Bx.only (hO _ _ _) (fun (h : _ = _) => by omega)).cell 2, (By.only (hO _ _ _) (fun (h : _ = _) => by omega)).cell 0, (By.only (hO _ _ _) (fun (h : _ = _) => by omega)).cell 1, (BR0.only (hO _ _ _) (fun (h : _ = _) => by omega)).cell 0, (BR0.only (hO _ _ _) (fun (h : _ = _) => by omega)).cell 1, (BR0.only (hO _ _ _) (fun (h : _ = _) => by omega)).cell 2⟩) (fun hHeld => ?_)
          clear hK K
          try simp only [Act.put, List.setIfInBounds_toArray, List.set_cons_zero, List.set_cons_succ, List.getElem_toArray, List.getElem_cons_zero, List.getElem_cons_succ]
          have ho := hO (.string R.1.durable) (.string R.1.pending) (.int .i64 R.1.count)
          clear Cx
          replace Bx := Bx.only ho (fun (h : _ = _) => by omega)
          clear Cy
          replace By := By.only ho (fun (h : _ = _) => by omega)
          clear CR0
          replace BR0 := BR0.only ho (fun (h : _ = _) => by omega)
          refine wpAnyH_take (i := 10) (v := ?_) rfl (by kernel_rfl) (by kernel_rfl) (by kernel_rfl) (fun _ _ _ h => h) (Or.inl ⟨by rfl, ?_⟩) (by assumption) ?_
          rotate_left 1
          · (intro w hSw; (try dsimp only at hSw); go_simp; try with_reducible rfl)
          (try simp only [Act.put, List.setIfInBounds_toArray, List.set_cons_zero, List.set_cons_succ, List.getElem_toArray, List.getElem_cons_zero, List.getElem_cons_succ])
          refine wpAnyH_done (by kernel_rfl) ?_ _
          go_wp2_with fail
          go_meet
          exact ⟨rfl, ⟨⟨w11.heap.size, rfl, by omega, (Blk.set_ (Blk.set_ (Blk.set_ RB 0 (.string R.1.durable)) 1 (.string R.1.pending)) 2 (.int .i64 R.1.count))⟩, bel_new K13 ho (by omega) (by omega), ⟨Bx, By, BR0⟩⟩⟩
      refine AllReadyH.cons rfl (fun K hK => ?_) AllReadyH.nil
      · go_simp
        refine hK.out _ _ (by (try dsimp only); go_keep) (fun hHeld => ?_)
        clear hK K
        try simp only [Act.put, List.setIfInBounds_toArray, List.set_cons_zero, List.set_cons_succ, List.getElem_toArray, List.getElem_cons_zero, List.getElem_cons_succ]
        have b11 : Below w10.heap.size w10 (w10.alloc (.cells #[.string ⟨#[]⟩, .string ⟨#[]⟩, .int .i64 0] 31)) := (Below.refl _ _).alloc (Nat.le_refl _) _
        have RB : Blk (w10.alloc (.cells #[.string ⟨#[]⟩, .string ⟨#[]⟩, .int .i64 0] 31)) w10.heap.size 31 [.string ⟨#[]⟩, .string ⟨#[]⟩, .int .i64 0] := Blk.at_ rfl
        have RL : w10.heap.size < (w10.alloc (.cells #[.string ⟨#[]⟩, .string ⟨#[]⟩, .int .i64 0] 31)).heap.size := RB.lt
        have K11 := bel_then K10 b11
        have Z11 := b11.size
        clear Cx Cy CR0
        replace Bx := Bx.next b11
        replace By := By.next b11
        replace BR0 := BR0.next b11
        generalize (w10.alloc (.cells #[.string ⟨#[]⟩, .string ⟨#[]⟩, .int .i64 0] 31)) = w11 at *
        clear b11
        have Cx := Bx.cell
        have Cy := By.cell
        have CR0 := BR0.cell
        have CB := RB.cell
        have RBf := RB.frozen
        refine wpAnyH_ready (rs := [3]) (by kernel_rfl) (by simp) ?_
        refine AllReadyH.cons rfl (fun K hK => ?_) AllReadyH.nil
        go_simp
        refine (toLogRecord_any _ _ _).mono ?_
        rintro e w12 ⟨rfl, b12⟩
        have K12 := bel_then K11 b12
        have Z12 := b12.size
        clear Cx Cy CR0 CB
        replace Bx := Bx.next b12
        replace By := By.next b12
        replace BR0 := BR0.next b12
        replace RB := RB.next b12
        clear b12
        have Cx := Bx.cell
        have Cy := By.cell
        have CR0 := BR0.cell
        have CB := RB.cell
        have RBf := RB.frozen
        go_wp2_with fail
        refine hK.out _ _ (by (try dsimp only); go_keep) (fun hHeld => ?_)
        clear hK K
        refine wpAnyH_ready (rs := [4]) (by kernel_rfl) (by simp) ?_
        refine AllReadyH.cons rfl (fun K hK => ?_) AllReadyH.nil
        go_simp
        refine (AppendRecord_any x y _ hux hky (hg.next K12)).mono ?_
        rw [HR.out]
        rintro e w13 ⟨rfl, b13⟩
        have K13 := bel_then K12 b13
        have Z13 := b13.size
        clear Cx Cy CR0 CB
        replace Bx := Bx.next b13
        replace By := By.next b13
        replace BR0 := BR0.next b13
        replace RB := RB.next b13
        clear b13
        have Cx := Bx.cell
        have Cy := By.cell
        have CR0 := BR0.cell
        have CB := RB.cell
        have RBf := RB.frozen
        go_wp2_with fail
        refine hK.out _ _ (by (try dsimp only); go_keep) (fun hHeld => ?_)
        clear hK K
        refine wpAnyH_take (i := 5) (v := ?_) rfl (by kernel_rfl) (by kernel_rfl) (by kernel_rfl) (fun _ _ _ h => h) (Or.inl ⟨by rfl, ?_⟩) (by assumption) ?_
        rotate_left 1
        · (intro w hSw; (try dsimp only at hSw); go_simp; try with_reducible rfl)
        (try simp only [Act.put, List.setIfInBounds_toArray, List.set_cons_zero, List.set_cons_succ, List.getElem_toArray, List.getElem_cons_zero, List.getElem_cons_succ])
        refine wpAnyH_take (i := 6) (v := ?_) rfl (by kernel_rfl) (by kernel_rfl) (by kernel_rfl) (fun _ _ _ h => h) (Or.inl ⟨by rfl, ?_⟩) (by assumption) ?_
        rotate_left 1
        · (intro w hSw; (try dsimp only at hSw); go_simp; try with_reducible rfl)
        (try simp only [Act.put, List.setIfInBounds_toArray, List.set_cons_zero, List.set_cons_succ, List.getElem_toArray, List.getElem_cons_zero, List.getElem_cons_succ])
        refine wpAnyH_take (i := 7) (v := ?_) rfl (by kernel_rfl) (by kernel_rfl) (by kernel_rfl) (fun _ _ _ h => h) (Or.inl ⟨by rfl, ?_⟩) (by assumption) ?_
        rotate_left 1
        · (intro w hSw; (try dsimp only at hSw); go_simp; try with_reducible rfl)
        (try simp only [Act.put, List.setIfInBounds_toArray, List.set_cons_zero, List.set_cons_succ, List.getElem_toArray, List.getElem_cons_zero, List.getElem_cons_succ])
        refine wpAnyH_ready (rs := [9]) (by kernel_rfl) (by simp) ?_
        refine AllReadyH.cons rfl (fun K hK => ?_) AllReadyH.nil
        go_simp
        have hO : ∀ u0' u1' u2' : Value, Only (fun b => b = w10.heap.size) w13 ((((w13.setCell ⟨w10.heap.size, 0, none⟩ u0').setCell ⟨w10.heap.size, 1, none⟩ u1').setCell ⟨w10.heap.size, 2, none⟩ u2')) := fun _ _ _ => (only_set (only_set (only_set (Only.refl _ _) _ _) _ _) _ _)
        refine hK.out _ _ (by (try dsimp only); exact ⟨(Bx.only (hO _ _ _) (fun (h : _ = _) => by omega)).cell 0, (Bx.only (hO _ _ _) (fun (h : _ = _) => by omega)).cell 1, (Bx.only (hO _ _ _) (fun (h : _ = _) => by omega)).cell 2, (By.only (hO _ _ _) (fun (h : _ = _) => by omega)).cell 0, (By.only (hO _ _ _) (fun (h : _ = _) => by omega)).cell 1, (BR0.only (hO _ _ _) (fun (h : _ = _) => by omega)).cell 0, (BR0.only (hO _ _ _) (fun (h : _ = _) => by omega)).cell 1, (BR0.only (hO _ _ _) (fun (h : _ = _) => by omega)).cell 2⟩) (fun hHeld => ?_)
        clear hK K
        try simp only [Act.put, List.setIfInBounds_toArray, List.set_cons_zero, List.set_cons_succ, List.getElem_toArray, List.getElem_cons_zero, List.getElem_cons_succ]
        have ho := hO (.string R.1.durable) (.string R.1.pending) (.int .i64 R.1.count)
        clear Cx
        replace Bx := Bx.only ho (fun (h : _ = _) => by omega)
        clear Cy
        replace By := By.only ho (fun (h : _ = _) => by omega)
        clear CR0
        replace BR0 := BR0.only ho (fun (h : _ = _) => by omega)
        refine wpAnyH_take (i := 10) (v := ?_) rfl (by kernel_rfl) (by kernel_rfl) (by kernel_rfl) (fun _ _ _ h => h) (Or.inl ⟨by rfl, ?_⟩) (by assumption) ?_
        rotate_left 1
        · (intro w hSw; (try dsimp only at hSw); go_simp; try with_reducible rfl)
        (try simp only [Act.put, List.setIfInBounds_toArray, List.set_cons_zero, List.set_cons_succ, List.getElem_toArray, List.getElem_cons_zero, List.getElem_cons_succ])
        refine wpAnyH_done (by kernel_rfl) ?_ _
        go_wp2_with fail
        go_meet
        exact ⟨rfl, ⟨⟨w10.heap.size, rfl, by omega, (Blk.set_ (Blk.set_ (Blk.set_ RB 0 (.string R.1.durable)) 1 (.string R.1.pending)) 2 (.int .i64 R.1.count))⟩, bel_new K13 ho (by omega) (by omega), ⟨Bx, By, BR0⟩⟩⟩
    refine AllReadyH.cons rfl (fun K hK => ?_) AllReadyH.nil
    · go_simp
      refine hK.out _ _ (by (try dsimp only); go_keep) (fun hHeld => ?_)
      clear hK K
      try simp only [Act.put, List.setIfInBounds_toArray, List.set_cons_zero, List.set_cons_succ, List.getElem_toArray, List.getElem_cons_zero, List.getElem_cons_succ]
      have b10 : Below w9.heap.size w9 (w9.alloc (.cells #[.string ⟨#[]⟩, .string ⟨#[]⟩, .int .i64 0] 31)) := (Below.refl _ _).alloc (Nat.le_refl _) _
      have RB : Blk (w9.alloc (.cells #[.string ⟨#[]⟩, .string ⟨#[]⟩, .int .i64 0] 31)) w9.heap.size 31 [.string ⟨#[]⟩, .string ⟨#[]⟩, .int .i64 0] := Blk.at_ rfl
      have RL : w9.heap.size < (w9.alloc (.cells #[.string ⟨#[]⟩, .string ⟨#[]⟩, .int .i64 0] 31)).heap.size := RB.lt
      have K10 := bel_then K9 b10
      have Z10 := b10.size
      clear Cx Cy CR0
      replace Bx := Bx.next b10
      replace By := By.next b10
      replace BR0 := BR0.next b10
      generalize (w9.alloc (.cells #[.string ⟨#[]⟩, .string ⟨#[]⟩, .int .i64 0] 31)) = w10 at *
      clear b10
      have Cx := Bx.cell
      have Cy := By.cell
      have CR0 := BR0.cell
      have CB := RB.cell
      have RBf := RB.frozen
      refine wpAnyH_ready (rs := [1]) (by kernel_rfl) (by simp) ?_
      refine AllReadyH.cons rfl (fun K hK => ?_) AllReadyH.nil
      go_simp
      refine (toLog_any _ _ _ _).mono ?_
      rintro e w11 ⟨rfl, b11⟩
      have K11 := bel_then K10 b11
      have Z11 := b11.size
      clear Cx Cy CR0 CB
      replace Bx := Bx.next b11
      replace By := By.next b11
      replace BR0 := BR0.next b11
      replace RB := RB.next b11
      clear b11
      have Cx := Bx.cell
      have Cy := By.cell
      have CR0 := BR0.cell
      have CB := RB.cell
      have RBf := RB.frozen
      go_wp2_with fail
      refine hK.out _ _ (by (try dsimp only); go_keep) (fun hHeld => ?_)
      clear hK K
      refine wpAnyH_ready (rs := [3]) (by kernel_rfl) (by simp) ?_
      refine AllReadyH.cons rfl (fun K hK => ?_) AllReadyH.nil
      go_simp
      refine (toLogRecord_any _ _ _).mono ?_
      rintro e w12 ⟨rfl, b12⟩
      have K12 := bel_then K11 b12
      have Z12 := b12.size
      clear Cx Cy CR0 CB
      replace Bx := Bx.next b12
      replace By := By.next b12
      replace BR0 := BR0.next b12
      replace RB := RB.next b12
      clear b12
      have Cx := Bx.cell
      have Cy := By.cell
      have CR0 := BR0.cell
      have CB := RB.cell
      have RBf := RB.frozen
      go_wp2_with fail
      refine hK.out _ _ (by (try dsimp only); go_keep) (fun hHeld => ?_)
      clear hK K
      refine wpAnyH_ready (rs := [4]) (by kernel_rfl) (by simp) ?_
      refine AllReadyH.cons rfl (fun K hK => ?_) AllReadyH.nil
      go_simp
      refine (AppendRecord_any x y _ hux hky (hg.next K12)).mono ?_
      rw [HR.out]
      rintro e w13 ⟨rfl, b13⟩
      have K13 := bel_then K12 b13
      have Z13 := b13.size
      clear Cx Cy CR0 CB
      replace Bx := Bx.next b13
      replace By := By.next b13
      replace BR0 := BR0.next b13
      replace RB := RB.next b13
      clear b13
      have Cx := Bx.cell
      have Cy := By.cell
      have CR0 := BR0.cell
      have CB := RB.cell
      have RBf := RB.frozen
      go_wp2_with fail
      refine hK.out _ _ (by (try dsimp only); go_keep) (fun hHeld => ?_)
      clear hK K
      refine wpAnyH_take (i := 5) (v := ?_) rfl (by kernel_rfl) (by kernel_rfl) (by kernel_rfl) (fun _ _ _ h => h) (Or.inl ⟨by rfl, ?_⟩) (by assumption) ?_
      rotate_left 1
      · (intro w hSw; (try dsimp only at hSw); go_simp; try with_reducible rfl)
      (try simp only [Act.put, List.setIfInBounds_toArray, List.set_cons_zero, List.set_cons_succ, List.getElem_toArray, List.getElem_cons_zero, List.getElem_cons_succ])
      refine wpAnyH_take (i := 6) (v := ?_) rfl (by kernel_rfl) (by kernel_rfl) (by kernel_rfl) (fun _ _ _ h => h) (Or.inl ⟨by rfl, ?_⟩) (by assumption) ?_
      rotate_left 1
      · (intro w hSw; (try dsimp only at hSw); go_simp; try with_reducible rfl)
      (try simp only [Act.put, List.setIfInBounds_toArray, List.set_cons_zero, List.set_cons_succ, List.getElem_toArray, List.getElem_cons_zero, List.getElem_cons_succ])
      refine wpAnyH_take (i := 7) (v := ?_) rfl (by kernel_rfl) (by kernel_rfl) (by kernel_rfl) (fun _ _ _ h => h) (Or.inl ⟨by rfl, ?_⟩) (by assumption) ?_
      rotate_left 1
      · (intro w hSw; (try dsimp only at hSw); go_simp; try with_reducible rfl)
      (try simp only [Act.put, List.setIfInBounds_toArray, List.set_cons_zero, List.set_cons_succ, List.getElem_toArray, List.getElem_cons_zero, List.getElem_cons_succ])
      refine wpAnyH_ready (rs := [9]) (by kernel_rfl) (by simp) ?_
      refine AllReadyH.cons rfl (fun K hK => ?_) AllReadyH.nil
      go_simp
      have hO : ∀ u0' u1' u2' : Value, Only (fun b => b = w9.heap.size) w13 ((((w13.setCell ⟨w9.heap.size, 0, none⟩ u0').setCell ⟨w9.heap.size, 1, none⟩ u1').setCell ⟨w9.heap.size, 2, none⟩ u2')) := fun _ _ _ => (only_set (only_set (only_set (Only.refl _ _) _ _) _ _) _ _)
      refine hK.out _ _ (by (try dsimp only); exact ⟨(Bx.only (hO _ _ _) (fun (h : _ = _) => by omega)).cell 0, (Bx.only (hO _ _ _) (fun (h : _ = _) => by omega)).cell 1, (Bx.only (hO _ _ _) (fun (h : _ = _) => by omega)).cell 2, (By.only (hO _ _ _) (fun (h : _ = _) => by omega)).cell 0, (By.only (hO _ _ _) (fun (h : _ = _) => by omega)).cell 1, (BR0.only (hO _ _ _) (fun (h : _ = _) => by omega)).cell 0, (BR0.only (hO _ _ _) (fun (h : _ = _) => by omega)).cell 1, (BR0.only (hO _ _ _) (fun (h : _ = _) => by omega)).cell 2⟩) (fun hHeld => ?_)
      clear hK K
      try simp only [Act.put, List.setIfInBounds_toArray, List.set_cons_zero, List.set_cons_succ, List.getElem_toArray, List.getElem_cons_zero, List.getElem_cons_succ]
      have ho := hO (.string R.1.durable) (.string R.1.pending) (.int .i64 R.1.count)
      clear Cx
      replace Bx := Bx.only ho (fun (h : _ = _) => by omega)
      clear Cy
      replace By := By.only ho (fun (h : _ = _) => by omega)
      clear CR0
      replace BR0 := BR0.only ho (fun (h : _ = _) => by omega)
      refine wpAnyH_take (i := 10) (v := ?_) rfl (by kernel_rfl) (by kernel_rfl) (by kernel_rfl) (fun _ _ _ h => h) (Or.inl ⟨by rfl, ?_⟩) (by assumption) ?_
      rotate_left 1
      · (intro w hSw; (try dsimp only at hSw); go_simp; try with_reducible rfl)
      (try simp only [Act.put, List.setIfInBounds_toArray, List.set_cons_zero, List.set_cons_succ, List.getElem_toArray, List.getElem_cons_zero, List.getElem_cons_succ])
      refine wpAnyH_done (by kernel_rfl) ?_ _
      go_wp2_with fail
      go_meet
      exact ⟨rfl, ⟨⟨w9.heap.size, rfl, by omega, (Blk.set_ (Blk.set_ (Blk.set_ RB 0 (.string R.1.durable)) 1 (.string R.1.pending)) 2 (.int .i64 R.1.count))⟩, bel_new K13 ho (by omega) (by omega), ⟨Bx, By, BR0⟩⟩⟩
  obtain ⟨rfl, hbox⟩ := hcut
  clear Cx Cy CR0
  clear Bx By BR0
  obtain ⟨⟨g14, rfl, hlo14, BR1⟩, K14, Bx, By, BR0⟩ := hbox
  obtain ⟨w14, rfl⟩ : ∃ w' : World, w' = wc := ⟨_, rfl⟩
  have Y14 := K14.size
  have V14 := BR1.lt
  have Cx := Bx.cell
  have Cy := By.cell
  have CR0 := BR0.cell
  have CR1 := BR1.cell
  go_wp2_with fail
  refine (eqLog_any _ _ _ _).mono ?_
  rintro e w15 ⟨rfl, b15⟩
  have K15 := bel_then K14 b15
  have Z15 := b15.size
  have Y15 := K15.size
  clear Cx Cy CR0 CR1
  replace Bx := Bx.next b15
  replace By := By.next b15
  replace BR0 := BR0.next b15
  replace BR1 := BR1.next b15
  clear b15
  have Cx := Bx.cell
  have Cy := By.cell
  have CR0 := BR0.cell
  have CR1 := BR1.cell
  go_wp2_with fail
  go_ret
  exact ⟨rfl, K15⟩

end Go.Proofs.YtjangfhelagjnaaDoor
