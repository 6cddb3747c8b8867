/- How rows of a desk are compared, by the program and by the reference. -/
import Derived.Test.YtkeffhnkhmalpaaSortD
namespace Go.Proofs.Ytkeffhnkhmalpaa
open Go.RowKit

def cfR (x y : DeskRow) : Int := orI [cmpI x.missing y.missing, cmpI x.time y.time, cmpI x.number y.number]
def lessR (x y : DeskRow) : Bool := if x.missing ≠ y.missing then decide (x.missing < y.missing) else decide (x.time < y.time) || (decide (x.time = y.time) && decide (x.number < y.number))
theorem lessR_eq (x y : DeskRow) : ltOf' cfR x y = lessR x y := by
  unfold ltOf' cfR lessR orI
  by_cases h1 : x.missing = y.missing
  · have e1 : cmpI x.missing y.missing = 0 := (cmpI_zero _ _).2 h1
    rw [if_neg (by simp [e1]), if_neg (by simp [h1])]
    unfold orI
    by_cases h2 : x.time = y.time
    · have e2 : cmpI x.time y.time = 0 := (cmpI_zero _ _).2 h2
      rw [if_neg (by simp [e2])]
      unfold orI
      rw [show decide (x.time < y.time) = false from decide_eq_false (by omega), show decide (x.time = y.time) = true from decide_eq_true h2, Bool.false_or, Bool.true_and]
      split
      · rw [Bool.eq_iff_iff, decide_eq_true_eq, decide_eq_true_eq]
        exact cmpI_neg _ _
      · rename_i h3
        have h4 : cmpI x.number y.number = 0 := by simpa using h3
        have h5 := (cmpI_zero _ _).1 h4
        rw [show orI [] = 0 from rfl, show decide (x.number < y.number) = false from decide_eq_false (by omega)]
        rfl
    · have e2 : cmpI x.time y.time ≠ 0 := fun h => h2 ((cmpI_zero _ _).1 h)
      rw [if_pos e2, show decide (x.time = y.time) = false from decide_eq_false h2, Bool.false_and, Bool.or_false]
      rw [Bool.eq_iff_iff, decide_eq_true_eq, decide_eq_true_eq]
      exact cmpI_neg _ _
  · have e1 : cmpI x.missing y.missing ≠ 0 := fun h => h1 ((cmpI_zero _ _).1 h)
    rw [if_pos e1, if_pos h1]
    rw [Bool.eq_iff_iff, decide_eq_true_eq, decide_eq_true_eq]
    exact cmpI_neg _ _

set_option maxRecDepth 100000 in
set_option maxHeartbeats 2000000 in
theorem DeskRanking1_any (x y : DeskRow) (w : World) : Calls Try.prog 65 #[.agg #[.int .i64 x.number, .int .i64 x.missing, .int .i64 x.time], .agg #[.int .i64 y.number, .int .i64 y.missing, .int .i64 y.time]] w fun e w' => e = .returned (.int .i64 (cfR x y)) ∧ Below w.heap.size w w' := by
  obtain ⟨a1, h1⟩ : ∃ a, cmpI x.missing y.missing = a := ⟨_, rfl⟩
  obtain ⟨a2, h2⟩ : ∃ a, cmpI x.time y.time = a := ⟨_, rfl⟩
  obtain ⟨a3, h3⟩ : ∃ a, cmpI x.number y.number = a := ⟨_, rfl⟩
  obtain ⟨a5, h5⟩ : ∃ a, orI [a1, a2, a3] = a := ⟨_, rfl⟩
  have h6 : cfR x y = a5 := by unfold cfR; rw [h1, h2, h3, h5]
  rw [h6]
  have H1 := Lib.hid h1
  have H2 := Lib.hid h2
  have H3 := Lib.hid h3
  have H5 := Lib.hid h5
  clear h1 h2 h3 h5 h6
  have K0 : Below w.heap.size w ((w.alloc (.cells #[.int .i64 x.number, .int .i64 x.missing, .int .i64 x.time] 54)).alloc (.cells #[.int .i64 y.number, .int .i64 y.missing, .int .i64 y.time] 54)) := ((Below.refl _ _).alloc (Nat.le_refl _) _).alloc (by simp) _
  have X0 : Blk ((w.alloc (.cells #[.int .i64 x.number, .int .i64 x.missing, .int .i64 x.time] 54)).alloc (.cells #[.int .i64 y.number, .int .i64 y.missing, .int .i64 y.time] 54)) w.heap.size 54 [.int .i64 x.number, .int .i64 x.missing, .int .i64 x.time] := (Blk.at_ rfl).alloc _
  have Y0 : Blk ((w.alloc (.cells #[.int .i64 x.number, .int .i64 x.missing, .int .i64 x.time] 54)).alloc (.cells #[.int .i64 y.number, .int .i64 y.missing, .int .i64 y.time] 54)) (w.heap.size + 1) 54 [.int .i64 y.number, .int .i64 y.missing, .int .i64 y.time] := Blk.at_ (by simp)
  go_enter Try.func65, Try.ntmps65
  go_wp2_with fail
  have K3 : Below w.heap.size w (((w.alloc (.cells #[.int .i64 x.number, .int .i64 x.missing, .int .i64 x.time] 54)).alloc (.cells #[.int .i64 y.number, .int .i64 y.missing, .int .i64 y.time] 54)).alloc (.cells #[.int .i64 a1, .int .i64 a2, .int .i64 a3] 3)).drew := bel_quiet (K0.alloc (by simp; omega) _) (Quiet.one _)
  have A1 : Sees (((w.alloc (.cells #[.int .i64 x.number, .int .i64 x.missing, .int .i64 x.time] 54)).alloc (.cells #[.int .i64 y.number, .int .i64 y.missing, .int .i64 y.time] 54)).alloc (.cells #[.int .i64 a1, .int .i64 a2, .int .i64 a3] 3)).drew 0 1 (some ⟨w.heap.size + 1 + 1, 0, none⟩) 3 (ints [a1, a2, a3]) := ((Blk.at_ (cs := [.int .i64 a1, .int .i64 a2, .int .i64 a3]) (by simp)).quiet (Quiet.one _)).sees (Nat.zero_le _) rfl
  have cx := (X0.quiet (Quiet.one _)).cell
  have cy := (Y0.quiet (Quiet.one _)).cell
  clear X0 Y0 K0
  refine wp_region_held_drew (S := fun w' => w'.cell? ⟨w.heap.size, 0, none⟩ = some (.int .i64 x.number) ∧ w'.cell? ⟨w.heap.size, 1, none⟩ = some (.int .i64 x.missing) ∧ w'.cell? ⟨w.heap.size, 2, none⟩ = some (.int .i64 x.time) ∧ w'.cell? ⟨w.heap.size + 1, 0, none⟩ = some (.int .i64 y.number) ∧ w'.cell? ⟨w.heap.size + 1, 1, none⟩ = some (.int .i64 y.missing) ∧ w'.cell? ⟨w.heap.size + 1, 2, none⟩ = some (.int .i64 y.time)) (by kernel_rfl) (by (try dsimp only); go_keep) (fun hHeld => ?_)
  refine wpAnyH_take (i := 0) (v := ?_) rfl (by kernel_rfl) (by kernel_rfl) (by kernel_rfl) (fun _ _ _ h => h) (Or.inl ⟨by rfl, ?_⟩) (by assumption) ?_
  rotate_left 1
  · (intro w hSw; (try dsimp only at hSw); go_simp; try with_reducible rfl)
  simp only [Act.put, List.setIfInBounds_toArray, List.set_cons_zero, List.set_cons_succ, List.getElem_toArray, List.getElem_cons_zero]
  refine wpAnyH_take (i := 1) (v := ?_) rfl (by kernel_rfl) (by kernel_rfl) (by kernel_rfl) (fun _ _ _ h => h) (Or.inl ⟨by rfl, ?_⟩) (by assumption) ?_
  rotate_left 1
  · (intro w hSw; (try dsimp only at hSw); go_simp; try with_reducible rfl)
  simp only [Act.put, List.setIfInBounds_toArray, List.set_cons_zero, List.set_cons_succ, List.getElem_toArray, List.getElem_cons_zero, List.getElem_cons_succ]
  refine wpAnyH_take (i := 2) (v := ?_) rfl (by kernel_rfl) (by kernel_rfl) (by kernel_rfl) (fun _ _ _ h => h) (Or.inl ⟨by rfl, ?_⟩) (by assumption) ?_
  rotate_left 1
  · (intro w hSw; (try dsimp only at hSw); go_simp; try with_reducible rfl)
  simp only [Act.put, List.setIfInBounds_toArray, List.set_cons_zero, List.set_cons_succ, List.getElem_toArray, List.getElem_cons_zero, List.getElem_cons_succ]
  refine wpAnyH_take (i := 3) (v := ?_) rfl (by kernel_rfl) (by kernel_rfl) (by kernel_rfl) (fun _ _ _ h => h) (Or.inl ⟨by rfl, ?_⟩) (by assumption) ?_
  rotate_left 1
  · (intro w hSw; (try dsimp only at hSw); go_simp; try with_reducible rfl)
  simp only [Act.put, List.setIfInBounds_toArray, List.set_cons_zero, List.set_cons_succ, List.getElem_toArray, List.getElem_cons_zero, List.getElem_cons_succ]
  refine wpAnyH_take (i := 5) (v := ?_) rfl (by kernel_rfl) (by kernel_rfl) (by kernel_rfl) (fun _ _ _ h => h) (Or.inl ⟨by rfl, ?_⟩) (by assumption) ?_
  rotate_left 1
  · (intro w hSw; (try dsimp only at hSw); go_simp; try with_reducible rfl)
  simp only [Act.put, List.setIfInBounds_toArray, List.set_cons_zero, List.set_cons_succ, List.getElem_toArray, List.getElem_cons_zero, List.getElem_cons_succ]
  refine wpAnyH_take (i := 6) (v := ?_) rfl (by kernel_rfl) (by kernel_rfl) (by kernel_rfl) (fun _ _ _ h => h) (Or.inl ⟨by rfl, ?_⟩) (by assumption) ?_
  rotate_left 1
  · (intro w hSw; (try dsimp only at hSw); go_simp; try with_reducible rfl)
  simp only [Act.put, List.setIfInBounds_toArray, List.set_cons_zero, List.set_cons_succ, List.getElem_toArray, List.getElem_cons_zero, List.getElem_cons_succ]
  refine wpAnyH_take (i := 7) (v := ?_) rfl (by kernel_rfl) (by kernel_rfl) (by kernel_rfl) (fun _ _ _ h => h) (Or.inl ⟨by rfl, ?_⟩) (by assumption) ?_
  rotate_left 1
  · (intro w hSw; (try dsimp only at hSw); go_simp; try with_reducible rfl)
  simp only [Act.put, List.setIfInBounds_toArray, List.set_cons_zero, List.set_cons_succ, List.getElem_toArray, List.getElem_cons_zero, List.getElem_cons_succ]
  refine wpAnyH_take (i := 8) (v := ?_) rfl (by kernel_rfl) (by kernel_rfl) (by kernel_rfl) (fun _ _ _ h => h) (Or.inl ⟨by rfl, ?_⟩) (by assumption) ?_
  rotate_left 1
  · (intro w hSw; (try dsimp only at hSw); go_simp; try with_reducible rfl)
  simp only [Act.put, List.setIfInBounds_toArray, List.set_cons_zero, List.set_cons_succ, List.getElem_toArray, List.getElem_cons_zero, List.getElem_cons_succ]
  refine wpAnyH_take (i := 10) (v := ?_) rfl (by kernel_rfl) (by kernel_rfl) (by kernel_rfl) (fun _ _ _ h => h) (Or.inl ⟨by rfl, ?_⟩) (by assumption) ?_
  rotate_left 1
  · (intro w hSw; (try dsimp only at hSw); go_simp; try with_reducible rfl)
  simp only [Act.put, List.setIfInBounds_toArray, List.set_cons_zero, List.set_cons_succ, List.getElem_toArray, List.getElem_cons_zero, List.getElem_cons_succ]
  refine wpAnyH_take (i := 11) (v := ?_) rfl (by kernel_rfl) (by kernel_rfl) (by kernel_rfl) (fun _ _ _ h => h) (Or.inl ⟨by rfl, ?_⟩) (by assumption) ?_
  rotate_left 1
  · (intro w hSw; (try dsimp only at hSw); go_simp; try with_reducible rfl)
  simp only [Act.put, List.setIfInBounds_toArray, List.set_cons_zero, List.set_cons_succ, List.getElem_toArray, List.getElem_cons_zero, List.getElem_cons_succ]
  refine wpAnyH_take (i := 12) (v := ?_) rfl (by kernel_rfl) (by kernel_rfl) (by kernel_rfl) (fun _ _ _ h => h) (Or.inl ⟨by rfl, ?_⟩) (by assumption) ?_
  rotate_left 1
  · (intro w hSw; (try dsimp only at hSw); go_simp; try with_reducible rfl)
  simp only [Act.put, List.setIfInBounds_toArray, List.set_cons_zero, List.set_cons_succ, List.getElem_toArray, List.getElem_cons_zero, List.getElem_cons_succ]
  refine wpAnyH_take (i := 13) (v := ?_) rfl (by kernel_rfl) (by kernel_rfl) (by kernel_rfl) (fun _ _ _ h => h) (Or.inl ⟨by rfl, ?_⟩) (by assumption) ?_
  rotate_left 1
  · (intro w hSw; (try dsimp only at hSw); go_simp; try with_reducible rfl)
  simp only [Act.put, List.setIfInBounds_toArray, List.set_cons_zero, List.set_cons_succ, List.getElem_toArray, List.getElem_cons_zero, List.getElem_cons_succ]
  refine wpAnyH_ready (rs := [4]) (by kernel_rfl) (by simp) ?_
  refine AllReadyH.cons rfl (fun K hK => ?_) AllReadyH.nil
  go_simp
  refine (Compare_int x.missing y.missing _).mono ?_
  rw [H1.out]
  rintro e w' ⟨rfl, rfl⟩
  go_wp2_with fail
  refine hK.out _ _ (by (try dsimp only); go_keep) (fun hHeld => ?_)
  clear hK K
  refine wpAnyH_ready (rs := [9]) (by kernel_rfl) (by simp) ?_
  refine AllReadyH.cons rfl (fun K hK => ?_) AllReadyH.nil
  go_simp
  refine (Compare_int x.time y.time _).mono ?_
  rw [H2.out]
  rintro e w' ⟨rfl, rfl⟩
  go_wp2_with fail
  refine hK.out _ _ (by (try dsimp only); go_keep) (fun hHeld => ?_)
  clear hK K
  refine wpAnyH_ready (rs := [14]) (by kernel_rfl) (by simp) ?_
  refine AllReadyH.cons rfl (fun K hK => ?_) AllReadyH.nil
  go_simp
  refine (Compare_int x.number y.number _).mono ?_
  rw [H3.out]
  rintro e w' ⟨rfl, rfl⟩
  go_wp2_with fail
  refine hK.out _ _ (by (try dsimp only); go_keep) (fun hHeld => ?_)
  clear hK K
  refine wpAnyH_ready (rs := [15]) (by kernel_rfl) (by simp) ?_
  refine AllReadyH.cons rfl (fun K hK => ?_) AllReadyH.nil
  go_simp
  refine hK.out _ _ (by (try dsimp only); go_keep) (fun hHeld => ?_)
  clear hK K
  try simp only [Act.put, List.setIfInBounds_toArray, List.set_cons_zero, List.set_cons_succ, List.getElem_toArray, List.getElem_cons_zero, List.getElem_cons_succ]
  refine wpAnyH_ready (rs := [16]) (by kernel_rfl) (by simp) ?_
  refine AllReadyH.cons rfl (fun K hK => ?_) AllReadyH.nil
  go_simp
  refine (Or_int _ 3 3 [a1, a2, a3] _ A1 (by decide)).mono ?_
  rw [H5.out]
  rintro e w' ⟨rfl, rfl⟩
  go_wp2_with fail
  refine hK.out _ _ (by (try dsimp only); go_keep) (fun hHeld => ?_)
  clear hK K
  refine wpAnyH_take (i := 17) (v := ?_) rfl (by kernel_rfl) (by kernel_rfl) (by kernel_rfl) (fun _ _ _ h => h) (Or.inl ⟨by rfl, ?_⟩) (by assumption) ?_
  rotate_left 1
  · (intro w hSw; (try dsimp only at hSw); go_simp; try with_reducible rfl)
  simp only [Act.put, List.setIfInBounds_toArray, List.set_cons_zero, List.set_cons_succ, List.getElem_toArray, List.getElem_cons_zero, List.getElem_cons_succ]
  refine wpAnyH_done (by kernel_rfl) ?_ _
  go_wp2_with fail
  go_ret
  exact ⟨rfl, K3⟩
theorem DeskRanking1_compares : Compares 65 #[] (fun x : DeskRow => .agg x.enc.toArray) cfR (fun _ => True) :=
  ⟨enters_of Try.func65 (by kernel_rfl) rfl, fun x y _ _ W => DeskRanking1_any x y W⟩
set_option maxRecDepth 100000 in
set_option maxHeartbeats 2000000 in
theorem l25Before_any (x y : DeskRow) (w : World) : Calls Try.prog 62 #[.agg #[.int .i64 x.number, .int .i64 x.missing, .int .i64 x.time], .agg #[.int .i64 y.number, .int .i64 y.missing, .int .i64 y.time]] w fun e w' => e = .returned (.bool (lessR x y)) ∧ Below w.heap.size w w' := by
  have K0 : Below w.heap.size w ((w.alloc (.cells #[.int .i64 x.number, .int .i64 x.missing, .int .i64 x.time] 54)).alloc (.cells #[.int .i64 y.number, .int .i64 y.missing, .int .i64 y.time] 54)) := ((Below.refl _ _).alloc (Nat.le_refl _) _).alloc (by simp) _
  have cx := ((Blk.at_ rfl).alloc _ : Blk ((w.alloc (.cells #[.int .i64 x.number, .int .i64 x.missing, .int .i64 x.time] 54)).alloc (.cells #[.int .i64 y.number, .int .i64 y.missing, .int .i64 y.time] 54)) w.heap.size 54 [.int .i64 x.number, .int .i64 x.missing, .int .i64 x.time]).cell
  have cy := (Blk.at_ (by simp) : Blk ((w.alloc (.cells #[.int .i64 x.number, .int .i64 x.missing, .int .i64 x.time] 54)).alloc (.cells #[.int .i64 y.number, .int .i64 y.missing, .int .i64 y.time] 54)) (w.heap.size + 1) 54 [.int .i64 y.number, .int .i64 y.missing, .int .i64 y.time]).cell
  by_cases h1 : x.missing = y.missing
  · have e1 : (x.missing != y.missing) = false := by simp [h1]
    by_cases h2 : x.time < y.time
    · have HR := Lib.hid (show lessR x y = true by simp [lessR, h1, h2])
      clear h1
      go_enter Try.func62, Try.ntmps62
      go_wp2_with fail
      go_ret
      exact ⟨ret_bool HR.out.symm, K0⟩
    · by_cases h3 : x.time = y.time
      · have e3 : (x.time == y.time) = true := by simp [h3]
        have HR := Lib.hid (show lessR x y = decide (x.number < y.number) by simp [lessR, h1, h3])
        clear h1 h3
        go_enter Try.func62, Try.ntmps62
        go_wp2_with fail
        go_ret
        exact ⟨ret_bool HR.out.symm, K0⟩
      · have e3 : (x.time == y.time) = false := by simp [h3]
        have HR := Lib.hid (show lessR x y = false by simp [lessR, h1, h2, h3])
        clear h1 h3
        go_enter Try.func62, Try.ntmps62
        go_wp2_with fail
        go_ret
        exact ⟨ret_bool HR.out.symm, K0⟩
  · have e1 : (x.missing != y.missing) = true := by simp [h1]
    have HR := Lib.hid (show lessR x y = decide (x.missing < y.missing) by simp [lessR, h1])
    clear h1
    go_enter Try.func62, Try.ntmps62
    go_wp2_with fail
    go_ret
    exact ⟨ret_bool HR.out.symm, K0⟩

end Go.Proofs.Ytkeffhnkhmalpaa
