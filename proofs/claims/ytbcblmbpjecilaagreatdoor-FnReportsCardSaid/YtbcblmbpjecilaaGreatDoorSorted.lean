/- How lines are compared, by the program and by the reference. -/
import Derived.Test.YtbcblmbpjecilaaGreatDoorSortF
namespace Go.Proofs.YtbcblmbpjecilaaGreatDoor
open Go.RowKit

def cfL (x y : ReportLine) : Int := orI [cmpI x.status y.status, cmpI x.time y.time, Lib.compareBytes x.name.data.toList y.name.data.toList, Lib.compareBytes x.club.data.toList y.club.data.toList]
def lessL (x y : ReportLine) : Bool := if x.status ≠ y.status then decide (x.status < y.status) else if x.time ≠ y.time then decide (x.time < y.time) else if x.name ≠ y.name then Op.bytesLess x.name.toList y.name.toList else Op.bytesLess x.club.toList y.club.toList
theorem toList_data (a : ByteArray) : a.toList = a.data.toList := ByteArray.toList_eq a
theorem data_inj {a b : ByteArray} : a.data.toList = b.data.toList ↔ a = b := by
  constructor
  · intro h
    cases a; cases b
    congr 1
    exact Array.ext' h
  · rintro rfl; rfl
theorem lessL_eq (x y : ReportLine) : ltOf' cfL x y = lessL x y := by
  unfold ltOf' cfL lessL orI
  rw [toList_data, toList_data, toList_data, toList_data, cmpB_neg, cmpB_neg]
  by_cases h1 : x.status = y.status
  · have e1 : cmpI x.status y.status = 0 := (cmpI_zero _ _).2 h1
    rw [if_neg (by simp [e1]), if_neg (by simp [h1])]
    unfold orI
    by_cases h2 : x.time = y.time
    · have e2 : cmpI x.time y.time = 0 := (cmpI_zero _ _).2 h2
      rw [if_neg (by simp [e2]), if_neg (by simp [h2])]
      unfold orI
      by_cases h3 : x.name = y.name
      · have e3 := (cmpB_zero x.name.data.toList y.name.data.toList).2 (by rw [h3])
        rw [if_neg (by simp [e3]), if_neg (by simp [h3])]
        unfold orI
        split
        · rfl
        · rename_i h4
          have h5 : Lib.compareBytes x.club.data.toList y.club.data.toList = 0 := by simpa using h4
          rw [h5]; rfl
      · have e3 : Lib.compareBytes x.name.data.toList y.name.data.toList ≠ 0 := fun h => h3 (data_inj.1 ((cmpB_zero _ _).1 h))
        rw [if_pos e3, if_pos h3]
    · have e2 : cmpI x.time y.time ≠ 0 := fun h => h2 ((cmpI_zero _ _).1 h)
      rw [if_pos e2, if_pos h2]
      rw [Bool.eq_iff_iff, decide_eq_true_eq, decide_eq_true_eq]
      exact cmpI_neg _ _
  · have e1 : cmpI x.status y.status ≠ 0 := fun h => h1 ((cmpI_zero _ _).1 h)
    rw [if_pos e1, if_pos h1]
    rw [Bool.eq_iff_iff, decide_eq_true_eq, decide_eq_true_eq]
    exact cmpI_neg _ _

set_option maxRecDepth 100000 in
set_option maxHeartbeats 2000000 in
theorem sortedLines1_any (x y : ReportLine) (w : World) : Calls Tryz.prog 50 #[.agg #[.string x.name, .string x.club, .int .i64 x.status, .int .i64 x.time], .agg #[.string y.name, .string y.club, .int .i64 y.status, .int .i64 y.time]] w fun e w' => e = .returned (.int .i64 (cfL x y)) ∧ Below w.heap.size w w' := by
  obtain ⟨a1, h1⟩ : ∃ a, cmpI x.status y.status = a := ⟨_, rfl⟩
  obtain ⟨a2, h2⟩ : ∃ a, cmpI x.time y.time = a := ⟨_, rfl⟩
  obtain ⟨a3, h3⟩ : ∃ a, Lib.compareBytes x.name.data.toList y.name.data.toList = a := ⟨_, rfl⟩
  obtain ⟨a4, h4⟩ : ∃ a, Lib.compareBytes x.club.data.toList y.club.data.toList = a := ⟨_, rfl⟩
  obtain ⟨a5, h5⟩ : ∃ a, orI [a1, a2, a3, a4] = a := ⟨_, rfl⟩
  have h6 : cfL x y = a5 := by unfold cfL; rw [h1, h2, h3, h4, h5]
  rw [h6]
  have H1 := Lib.hid h1
  have H2 := Lib.hid h2
  have H3 := Lib.hid h3
  have H4 := Lib.hid h4
  have H5 := Lib.hid h5
  clear h1 h2 h3 h4 h5 h6
  have K0 : Below w.heap.size w ((w.alloc (.cells #[.string x.name, .string x.club, .int .i64 x.status, .int .i64 x.time] 41)).alloc (.cells #[.string y.name, .string y.club, .int .i64 y.status, .int .i64 y.time] 41)) := ((Below.refl _ _).alloc (Nat.le_refl _) _).alloc (by simp) _
  have X0 : Blk ((w.alloc (.cells #[.string x.name, .string x.club, .int .i64 x.status, .int .i64 x.time] 41)).alloc (.cells #[.string y.name, .string y.club, .int .i64 y.status, .int .i64 y.time] 41)) w.heap.size 41 [.string x.name, .string x.club, .int .i64 x.status, .int .i64 x.time] := (Blk.at_ rfl).alloc _
  have Y0 : Blk ((w.alloc (.cells #[.string x.name, .string x.club, .int .i64 x.status, .int .i64 x.time] 41)).alloc (.cells #[.string y.name, .string y.club, .int .i64 y.status, .int .i64 y.time] 41)) (w.heap.size + 1) 41 [.string y.name, .string y.club, .int .i64 y.status, .int .i64 y.time] := Blk.at_ (by simp)
  go_enter Tryz.func50, Tryz.ntmps50
  go_wp2_with fail
  have K3 : Below w.heap.size w (((w.alloc (.cells #[.string x.name, .string x.club, .int .i64 x.status, .int .i64 x.time] 41)).alloc (.cells #[.string y.name, .string y.club, .int .i64 y.status, .int .i64 y.time] 41)).alloc (.cells #[.int .i64 a1, .int .i64 a2, .int .i64 a3, .int .i64 a4] 3)).drew := bel_quiet (K0.alloc (by simp; omega) _) (Quiet.one _)
  have A1 : Sees (((w.alloc (.cells #[.string x.name, .string x.club, .int .i64 x.status, .int .i64 x.time] 41)).alloc (.cells #[.string y.name, .string y.club, .int .i64 y.status, .int .i64 y.time] 41)).alloc (.cells #[.int .i64 a1, .int .i64 a2, .int .i64 a3, .int .i64 a4] 3)).drew 0 1 (some ⟨w.heap.size + 1 + 1, 0, none⟩) 4 (ints [a1, a2, a3, a4]) := ((Blk.at_ (cs := [.int .i64 a1, .int .i64 a2, .int .i64 a3, .int .i64 a4]) (by simp)).quiet (Quiet.one _)).sees (Nat.zero_le _) rfl
  have cx := (X0.quiet (Quiet.one _)).cell
  have cy := (Y0.quiet (Quiet.one _)).cell
  clear X0 Y0 K0
  refine wp_region_held_drew (S := fun w' => w'.cell? ⟨w.heap.size, 0, none⟩ = some (.string x.name) ∧ w'.cell? ⟨w.heap.size, 1, none⟩ = some (.string x.club) ∧ w'.cell? ⟨w.heap.size, 2, none⟩ = some (.int .i64 x.status) ∧ w'.cell? ⟨w.heap.size, 3, none⟩ = some (.int .i64 x.time) ∧ w'.cell? ⟨w.heap.size + 1, 0, none⟩ = some (.string y.name) ∧ w'.cell? ⟨w.heap.size + 1, 1, none⟩ = some (.string y.club) ∧ w'.cell? ⟨w.heap.size + 1, 2, none⟩ = some (.int .i64 y.status) ∧ w'.cell? ⟨w.heap.size + 1, 3, none⟩ = some (.int .i64 y.time)) (by kernel_rfl) (by (try dsimp only); go_keep) (fun hHeld => ?_)
  refine wpAnyH_take (i := 0) (v := ?_) rfl (by kernel_rfl) (by kernel_rfl) (by kernel_rfl) (fun _ _ _ h => h) (Or.inl ⟨by rfl, ?_⟩) (by assumption) ?_
  rotate_left 1
  · (intro w hSw; (try dsimp only at hSw); go_simp; try with_reducible rfl)
  simp only [Act.put, List.setIfInBounds_toArray, List.set_cons_zero, List.set_cons_succ, List.getElem_toArray, List.getElem_cons_zero]
  refine wpAnyH_take (i := 1) (v := ?_) rfl (by kernel_rfl) (by kernel_rfl) (by kernel_rfl) (fun _ _ _ h => h) (Or.inl ⟨by rfl, ?_⟩) (by assumption) ?_
  rotate_left 1
  · (intro w hSw; (try dsimp only at hSw); go_simp; try with_reducible rfl)
  simp only [Act.put, List.setIfInBounds_toArray, List.set_cons_zero, List.set_cons_succ, List.getElem_toArray, List.getElem_cons_zero, List.getElem_cons_succ]
  refine wpAnyH_take (i := 2) (v := ?_) rfl (by kernel_rfl) (by kernel_rfl) (by kernel_rfl) (fun _ _ _ h => h) (Or.inl ⟨by rfl, ?_⟩) (by assumption) ?_
  rotate_left 1
  · (intro w hSw; (try dsimp only at hSw); go_simp; try with_reducible rfl)
  simp only [Act.put, List.setIfInBounds_toArray, List.set_cons_zero, List.set_cons_succ, List.getElem_toArray, List.getElem_cons_zero, List.getElem_cons_succ]
  refine wpAnyH_take (i := 3) (v := ?_) rfl (by kernel_rfl) (by kernel_rfl) (by kernel_rfl) (fun _ _ _ h => h) (Or.inl ⟨by rfl, ?_⟩) (by assumption) ?_
  rotate_left 1
  · (intro w hSw; (try dsimp only at hSw); go_simp; try with_reducible rfl)
  simp only [Act.put, List.setIfInBounds_toArray, List.set_cons_zero, List.set_cons_succ, List.getElem_toArray, List.getElem_cons_zero, List.getElem_cons_succ]
  refine wpAnyH_take (i := 5) (v := ?_) rfl (by kernel_rfl) (by kernel_rfl) (by kernel_rfl) (fun _ _ _ h => h) (Or.inl ⟨by rfl, ?_⟩) (by assumption) ?_
  rotate_left 1
  · (intro w hSw; (try dsimp only at hSw); go_simp; try with_reducible rfl)
  simp only [Act.put, List.setIfInBounds_toArray, List.set_cons_zero, List.set_cons_succ, List.getElem_toArray, List.getElem_cons_zero, List.getElem_cons_succ]
  refine wpAnyH_take (i := 6) (v := ?_) rfl (by kernel_rfl) (by kernel_rfl) (by kernel_rfl) (fun _ _ _ h => h) (Or.inl ⟨by rfl, ?_⟩) (by assumption) ?_
  rotate_left 1
  · (intro w hSw; (try dsimp only at hSw); go_simp; try with_reducible rfl)
  simp only [Act.put, List.setIfInBounds_toArray, List.set_cons_zero, List.set_cons_succ, List.getElem_toArray, List.getElem_cons_zero, List.getElem_cons_succ]
  refine wpAnyH_take (i := 7) (v := ?_) rfl (by kernel_rfl) (by kernel_rfl) (by kernel_rfl) (fun _ _ _ h => h) (Or.inl ⟨by rfl, ?_⟩) (by assumption) ?_
  rotate_left 1
  · (intro w hSw; (try dsimp only at hSw); go_simp; try with_reducible rfl)
  simp only [Act.put, List.setIfInBounds_toArray, List.set_cons_zero, List.set_cons_succ, List.getElem_toArray, List.getElem_cons_zero, List.getElem_cons_succ]
  refine wpAnyH_take (i := 8) (v := ?_) rfl (by kernel_rfl) (by kernel_rfl) (by kernel_rfl) (fun _ _ _ h => h) (Or.inl ⟨by rfl, ?_⟩) (by assumption) ?_
  rotate_left 1
  · (intro w hSw; (try dsimp only at hSw); go_simp; try with_reducible rfl)
  simp only [Act.put, List.setIfInBounds_toArray, List.set_cons_zero, List.set_cons_succ, List.getElem_toArray, List.getElem_cons_zero, List.getElem_cons_succ]
  refine wpAnyH_take (i := 10) (v := ?_) rfl (by kernel_rfl) (by kernel_rfl) (by kernel_rfl) (fun _ _ _ h => h) (Or.inl ⟨by rfl, ?_⟩) (by assumption) ?_
  rotate_left 1
  · (intro w hSw; (try dsimp only at hSw); go_simp; try with_reducible rfl)
  simp only [Act.put, List.setIfInBounds_toArray, List.set_cons_zero, List.set_cons_succ, List.getElem_toArray, List.getElem_cons_zero, List.getElem_cons_succ]
  refine wpAnyH_take (i := 11) (v := ?_) rfl (by kernel_rfl) (by kernel_rfl) (by kernel_rfl) (fun _ _ _ h => h) (Or.inl ⟨by rfl, ?_⟩) (by assumption) ?_
  rotate_left 1
  · (intro w hSw; (try dsimp only at hSw); go_simp; try with_reducible rfl)
  simp only [Act.put, List.setIfInBounds_toArray, List.set_cons_zero, List.set_cons_succ, List.getElem_toArray, List.getElem_cons_zero, List.getElem_cons_succ]
  refine wpAnyH_take (i := 12) (v := ?_) rfl (by kernel_rfl) (by kernel_rfl) (by kernel_rfl) (fun _ _ _ h => h) (Or.inl ⟨by rfl, ?_⟩) (by assumption) ?_
  rotate_left 1
  · (intro w hSw; (try dsimp only at hSw); go_simp; try with_reducible rfl)
  simp only [Act.put, List.setIfInBounds_toArray, List.set_cons_zero, List.set_cons_succ, List.getElem_toArray, List.getElem_cons_zero, List.getElem_cons_succ]
  refine wpAnyH_take (i := 13) (v := ?_) rfl (by kernel_rfl) (by kernel_rfl) (by kernel_rfl) (fun _ _ _ h => h) (Or.inl ⟨by rfl, ?_⟩) (by assumption) ?_
  rotate_left 1
  · (intro w hSw; (try dsimp only at hSw); go_simp; try with_reducible rfl)
  simp only [Act.put, List.setIfInBounds_toArray, List.set_cons_zero, List.set_cons_succ, List.getElem_toArray, List.getElem_cons_zero, List.getElem_cons_succ]
  refine wpAnyH_take (i := 15) (v := ?_) rfl (by kernel_rfl) (by kernel_rfl) (by kernel_rfl) (fun _ _ _ h => h) (Or.inl ⟨by rfl, ?_⟩) (by assumption) ?_
  rotate_left 1
  · (intro w hSw; (try dsimp only at hSw); go_simp; try with_reducible rfl)
  simp only [Act.put, List.setIfInBounds_toArray, List.set_cons_zero, List.set_cons_succ, List.getElem_toArray, List.getElem_cons_zero, List.getElem_cons_succ]
  refine wpAnyH_take (i := 16) (v := ?_) rfl (by kernel_rfl) (by kernel_rfl) (by kernel_rfl) (fun _ _ _ h => h) (Or.inl ⟨by rfl, ?_⟩) (by assumption) ?_
  rotate_left 1
  · (intro w hSw; (try dsimp only at hSw); go_simp; try with_reducible rfl)
  simp only [Act.put, List.setIfInBounds_toArray, List.set_cons_zero, List.set_cons_succ, List.getElem_toArray, List.getElem_cons_zero, List.getElem_cons_succ]
  refine wpAnyH_take (i := 17) (v := ?_) rfl (by kernel_rfl) (by kernel_rfl) (by kernel_rfl) (fun _ _ _ h => h) (Or.inl ⟨by rfl, ?_⟩) (by assumption) ?_
  rotate_left 1
  · (intro w hSw; (try dsimp only at hSw); go_simp; try with_reducible rfl)
  simp only [Act.put, List.setIfInBounds_toArray, List.set_cons_zero, List.set_cons_succ, List.getElem_toArray, List.getElem_cons_zero, List.getElem_cons_succ]
  refine wpAnyH_take (i := 18) (v := ?_) rfl (by kernel_rfl) (by kernel_rfl) (by kernel_rfl) (fun _ _ _ h => h) (Or.inl ⟨by rfl, ?_⟩) (by assumption) ?_
  rotate_left 1
  · (intro w hSw; (try dsimp only at hSw); go_simp; try with_reducible rfl)
  simp only [Act.put, List.setIfInBounds_toArray, List.set_cons_zero, List.set_cons_succ, List.getElem_toArray, List.getElem_cons_zero, List.getElem_cons_succ]
  refine wpAnyH_ready (rs := [4]) (by kernel_rfl) (by simp) ?_
  refine AllReadyH.cons rfl (fun K hK => ?_) AllReadyH.nil
  go_simp
  refine (Compare_int x.status y.status _).mono ?_
  rw [H1.out]
  rintro e w' ⟨rfl, rfl⟩
  go_wp2_with fail
  refine hK.out _ _ (by (try dsimp only); go_keep) (fun hHeld => ?_)
  clear hK K
  refine wpAnyH_ready (rs := [9]) (by kernel_rfl) (by simp) ?_
  refine AllReadyH.cons rfl (fun K hK => ?_) AllReadyH.nil
  go_simp
  refine (Compare_int x.time y.time _).mono ?_
  rw [H2.out]
  rintro e w' ⟨rfl, rfl⟩
  go_wp2_with fail
  refine hK.out _ _ (by (try dsimp only); go_keep) (fun hHeld => ?_)
  clear hK K
  refine wpAnyH_ready (rs := [14]) (by kernel_rfl) (by simp) ?_
  refine AllReadyH.cons rfl (fun K hK => ?_) AllReadyH.nil
  go_simp
  refine (sh_strings_Compare x.name y.name _).mono ?_
  rw [H3.out]
  rintro e w' ⟨rfl, rfl⟩
  go_wp2_with fail
  refine hK.out _ _ (by (try dsimp only); go_keep) (fun hHeld => ?_)
  clear hK K
  refine wpAnyH_ready (rs := [19]) (by kernel_rfl) (by simp) ?_
  refine AllReadyH.cons rfl (fun K hK => ?_) AllReadyH.nil
  go_simp
  refine (sh_strings_Compare x.club y.club _).mono ?_
  rw [H4.out]
  rintro e w' ⟨rfl, rfl⟩
  go_wp2_with fail
  refine hK.out _ _ (by (try dsimp only); go_keep) (fun hHeld => ?_)
  clear hK K
  refine wpAnyH_ready (rs := [20]) (by kernel_rfl) (by simp) ?_
  refine AllReadyH.cons rfl (fun K hK => ?_) AllReadyH.nil
  go_simp
  refine hK.out _ _ (by (try dsimp only); go_keep) (fun hHeld => ?_)
  clear hK K
  try simp only [Act.put, List.setIfInBounds_toArray, List.set_cons_zero, List.set_cons_succ, List.getElem_toArray, List.getElem_cons_zero, List.getElem_cons_succ]
  refine wpAnyH_ready (rs := [21]) (by kernel_rfl) (by simp) ?_
  refine AllReadyH.cons rfl (fun K hK => ?_) AllReadyH.nil
  go_simp
  refine (Or_int _ 4 4 [a1, a2, a3, a4] _ A1 (by decide)).mono ?_
  rw [H5.out]
  rintro e w' ⟨rfl, rfl⟩
  go_wp2_with fail
  refine hK.out _ _ (by (try dsimp only); go_keep) (fun hHeld => ?_)
  clear hK K
  refine wpAnyH_take (i := 22) (v := ?_) rfl (by kernel_rfl) (by kernel_rfl) (by kernel_rfl) (fun _ _ _ h => h) (Or.inl ⟨by rfl, ?_⟩) (by assumption) ?_
  rotate_left 1
  · (intro w hSw; (try dsimp only at hSw); go_simp; try with_reducible rfl)
  simp only [Act.put, List.setIfInBounds_toArray, List.set_cons_zero, List.set_cons_succ, List.getElem_toArray, List.getElem_cons_zero, List.getElem_cons_succ]
  refine wpAnyH_done (by kernel_rfl) ?_ _
  go_wp2_with fail
  go_ret
  exact ⟨rfl, K3⟩
theorem sortedLines1_compares : Compares 50 #[] (fun x : ReportLine => .agg x.enc.toArray) cfL (fun _ => True) :=
  ⟨enters_of Tryz.func50 (by kernel_rfl) rfl, fun x y _ _ W => sortedLines1_any x y W⟩
set_option maxRecDepth 100000 in
set_option maxHeartbeats 2000000 in
theorem l26Less_any (x y : ReportLine) (w : World) : Calls Tryz.prog 55 #[.agg #[.string x.name, .string x.club, .int .i64 x.status, .int .i64 x.time], .agg #[.string y.name, .string y.club, .int .i64 y.status, .int .i64 y.time]] w fun e w' => e = .returned (.bool (lessL x y)) ∧ Below w.heap.size w w' := by
  have K0 : Below w.heap.size w ((w.alloc (.cells #[.string x.name, .string x.club, .int .i64 x.status, .int .i64 x.time] 41)).alloc (.cells #[.string y.name, .string y.club, .int .i64 y.status, .int .i64 y.time] 41)) := ((Below.refl _ _).alloc (Nat.le_refl _) _).alloc (by simp) _
  have cx := ((Blk.at_ rfl).alloc _ : Blk ((w.alloc (.cells #[.string x.name, .string x.club, .int .i64 x.status, .int .i64 x.time] 41)).alloc (.cells #[.string y.name, .string y.club, .int .i64 y.status, .int .i64 y.time] 41)) w.heap.size 41 [.string x.name, .string x.club, .int .i64 x.status, .int .i64 x.time]).cell
  have cy := (Blk.at_ (by simp) : Blk ((w.alloc (.cells #[.string x.name, .string x.club, .int .i64 x.status, .int .i64 x.time] 41)).alloc (.cells #[.string y.name, .string y.club, .int .i64 y.status, .int .i64 y.time] 41)) (w.heap.size + 1) 41 [.string y.name, .string y.club, .int .i64 y.status, .int .i64 y.time]).cell
  by_cases h1 : x.status = y.status
  · have e1 : (x.status != y.status) = false := by simp [h1]
    by_cases h2 : x.time = y.time
    · have e2 : (x.time != y.time) = false := by simp [h2]
      by_cases h3 : x.name = y.name
      · have e3 : (x.name.toList == y.name.toList) = true := by simp [h3]
        have HR := Lib.hid (show lessL x y = Op.bytesLess x.club.toList y.club.toList by simp [lessL, h1, h2, h3])
        clear h1 h2 h3
        go_enter Tryz.func55, Tryz.ntmps55
        go_wp2_with fail
        go_ret
        exact ⟨ret_bool HR.out.symm, K0⟩
      · have e3 : (x.name.toList == y.name.toList) = false := by rw [str_beq, decide_eq_false h3]
        have HR := Lib.hid (show lessL x y = Op.bytesLess x.name.toList y.name.toList by simp [lessL, h1, h2, h3])
        clear h1 h2 h3
        go_enter Tryz.func55, Tryz.ntmps55
        go_wp2_with fail
        go_ret
        exact ⟨ret_bool HR.out.symm, K0⟩
    · have e2 : (x.time != y.time) = true := by simp [h2]
      have HR := Lib.hid (show lessL x y = decide (x.time < y.time) by simp [lessL, h1, h2])
      clear h1 h2
      go_enter Tryz.func55, Tryz.ntmps55
      go_wp2_with fail
      go_ret
      exact ⟨ret_bool HR.out.symm, K0⟩
  · have e1 : (x.status != y.status) = true := by simp [h1]
    have HR := Lib.hid (show lessL x y = decide (x.status < y.status) by simp [lessL, h1])
    clear h1
    go_enter Tryz.func55, Tryz.ntmps55
    go_wp2_with fail
    go_ret
    exact ⟨ret_bool HR.out.symm, K0⟩

end Go.Proofs.YtbcblmbpjecilaaGreatDoor
