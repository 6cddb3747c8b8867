/- AppendRecord, as the program and as the reference have it. -/
import Derived.Test.YtjangfhelagjnaaDoorSyncL
namespace Go.Proofs.YtjangfhelagjnaaDoor
open Go.RowKit

def appL (l : Log) (e : LogRecord) : Log × Int := if validL l && recB e then if l.count = 60 then (l, 2) else (⟨l.durable, l.pending ++ lineT l.count.toNat e, l.count + 1⟩, 0) else (l, 1)
/-- A log and a number. -/
def GivesLI (w : World) (R : Log × Int) (e : Ending) (w' : World) : Prop := e = .returned (.tuple #[.agg #[.string R.1.durable, .string R.1.pending, .int .i64 R.1.count], .int .i64 R.2]) ∧ Below w.heap.size w w'
theorem validL_facts {l : Log} (h : validL l = true) : 0 ≤ l.count ∧ l.count ≤ 60 ∧ l.durable.size + l.pending.size ≤ 30000 := by
  unfold validL at h
  simp only [Bool.and_eq_true, decide_eq_true_eq] at h
  have h1 := (allR_ok (l.durable ++ l.pending)).len
  have h2 := allR_size (l.durable ++ l.pending)
  omega
theorem encodeRecord_int (k : Int) (e : LogRecord) (w : World) (h0 : 0 ≤ k) (h1 : k < 60) (he : recB e = true) (hg : Gl w) :
    Calls Tryd.prog 46 #[.int .i64 k, .agg #[.string e.command, .string e.reply]] w fun x w' => x = .returned (.string (lineT k.toNat e)) ∧ Below w.heap.size w w' := by
  obtain ⟨n, rfl⟩ := Int.eq_ofNat_of_zero_le h0
  exact encodeRecord_any n e w (by omega) he hg
theorem l27Line_int (k : Int) (e : LogRecord) (w : World) (h0 : 0 ≤ k) (h1 : k < 60) (he : recB e = true) :
    Calls Tryd.prog 44 #[.int .i64 k, .agg #[.string e.command, .string e.reply]] w fun x w' => x = .returned (.string (lineT k.toNat e)) ∧ Below w.heap.size w w' := by
  obtain ⟨n, rfl⟩ := Int.eq_ofNat_of_zero_le h0
  exact l27Line_any n e w (by omega) he

set_option maxRecDepth 100000 in
set_option maxHeartbeats 2000000 in
theorem AppendRecord_any (l : Log) (e : LogRecord) (w : World) (hs : l.upto 1048576) (he : e.upto 9223372036854775807) (hg : Gl w) :
    Calls Tryd.prog 29 #[.agg #[.string l.durable, .string l.pending, .int .i64 l.count], .agg #[.string e.command, .string e.reply]] w (GivesLI w (appL l e)) := by
  have ⟨h1, h2⟩ := hs
  have K0 : Below w.heap.size w (((w.alloc (.cells #[.string l.durable, .string l.pending, .int .i64 l.count] 31)).alloc (.cells #[.string e.command, .string e.reply] 27)).alloc (.cells #[.string ⟨#[]⟩, .string ⟨#[]⟩, .int .i64 0] 31)) := (((Below.refl _ _).alloc (Nat.le_refl _) _).alloc (by simp) _).alloc (by simp; omega) _
  have L0 : Blk (((w.alloc (.cells #[.string l.durable, .string l.pending, .int .i64 l.count] 31)).alloc (.cells #[.string e.command, .string e.reply] 27)).alloc (.cells #[.string ⟨#[]⟩, .string ⟨#[]⟩, .int .i64 0] 31)) w.heap.size 31 [.string l.durable, .string l.pending, .int .i64 l.count] := ((Blk.at_ rfl).alloc _).alloc _
  have E0 : Blk (((w.alloc (.cells #[.string l.durable, .string l.pending, .int .i64 l.count] 31)).alloc (.cells #[.string e.command, .string e.reply] 27)).alloc (.cells #[.string ⟨#[]⟩, .string ⟨#[]⟩, .int .i64 0] 31)) (w.heap.size + 1) 27 [.string e.command, .string e.reply] := (Blk.at_ (by simp)).alloc _
  have R0 : Blk (((w.alloc (.cells #[.string l.durable, .string l.pending, .int .i64 l.count] 31)).alloc (.cells #[.string e.command, .string e.reply] 27)).alloc (.cells #[.string ⟨#[]⟩, .string ⟨#[]⟩, .int .i64 0] 31)) (w.heap.size + 2) 31 [.string ⟨#[]⟩, .string ⟨#[]⟩, .int .i64 0] := Blk.at_ (by simp)
  cases hv : validL l
  · have HR := Lib.hid (show appL l e = (l, 1) by simp [appL, hv])
    have HV := Lib.hid hv
    clear hv
    go_enter Tryd.func29, Tryd.ntmps29
    go_wp2_with fail
    refine (IsValidLog_any l _ hs (hg.next K0)).mono ?_
    rintro x w1 ⟨rfl, b1⟩
    rw [HV.out]
    have K1 := bel_then K0 b1
    have L1 := L0.next b1
    have E1 := E0.next b1
    have R1 := R0.next b1
    have l1 := L1.cell
    have e1 := E1.cell
    have r1 := R1.cell
    have r1f := R1.frozen
    go_wp2_with fail
    refine bodyPost_ret (v := .tuple #[.agg #[.string l.durable, .string l.pending, .int .i64 l.count], .int .i64 1]) (by simp [results, Tryd.results29, go_sem, r1]) rfl ?_
    rw [HR.out]
    exact ⟨rfl, bel_set3 K1 (by omega) _ _ _⟩
  have HV := Lib.hid hv
  have ⟨h0, h60', h3⟩ := validL_facts hv
  cases hr : recB e
  · have HR := Lib.hid (show appL l e = (l, 1) by simp [appL, hr])
    have HG := Lib.hid hr
    clear hv hr
    go_enter Tryd.func29, Tryd.ntmps29
    go_wp2_with fail
    refine (IsValidLog_any l _ hs (hg.next K0)).mono ?_
    rintro x w1 ⟨rfl, b1⟩
    rw [HV.out]
    have K1 := bel_then K0 b1
    have L1 := L0.next b1
    have E1 := E0.next b1
    have R1 := R0.next b1
    have l1 := L1.cell
    have e1 := E1.cell
    have r1 := R1.cell
    have r1f := R1.frozen
    clear r1f
    go_wp2_with fail
    refine (IsValidRecord_any e _ he).mono ?_
    rintro x w2 ⟨rfl, b2⟩
    rw [HG.out]
    have K2 := bel_then K1 b2
    have L2 := L1.next b2
    have E2 := E1.next b2
    have R2 := R1.next b2
    have l2 := L2.cell
    have r2 := R2.cell
    have r2f := R2.frozen
    clear l1 e1 r1
    go_wp2_with fail
    refine bodyPost_ret (v := .tuple #[.agg #[.string l.durable, .string l.pending, .int .i64 l.count], .int .i64 1]) (by simp [results, Tryd.results29, go_sem, r2]) rfl ?_
    rw [HR.out]
    exact ⟨rfl, bel_set3 K2 (by omega) _ _ _⟩
  have HG := Lib.hid hr
  by_cases hc : l.count = 60
  · have HR := Lib.hid (show appL l e = (l, 2) by simp [appL, hv, hr, hc])
    have d1 : (l.count == (60 : Int)) = true := beq_iff_eq.2 hc
    clear hv hr hc
    go_enter Tryd.func29, Tryd.ntmps29
    go_wp2_with fail
    refine (IsValidLog_any l _ hs (hg.next K0)).mono ?_
    rintro x w1 ⟨rfl, b1⟩
    rw [HV.out]
    have K1 := bel_then K0 b1
    have L1 := L0.next b1
    have E1 := E0.next b1
    have R1 := R0.next b1
    have l1 := L1.cell
    have e1 := E1.cell
    have r1 := R1.cell
    have r1f := R1.frozen
    clear r1f
    go_wp2_with fail
    refine (IsValidRecord_any e _ he).mono ?_
    rintro x w2 ⟨rfl, b2⟩
    rw [HG.out]
    have K2 := bel_then K1 b2
    have L2 := L1.next b2
    have E2 := E1.next b2
    have R2 := R1.next b2
    have l2 := L2.cell
    have r2 := R2.cell
    have r2f := R2.frozen
    clear l1 e1 r1
    go_wp2_with fail
    refine bodyPost_ret (v := .tuple #[.agg #[.string l.durable, .string l.pending, .int .i64 l.count], .int .i64 2]) (by simp [results, Tryd.results29, go_sem, r2]) rfl ?_
    rw [HR.out]
    exact ⟨rfl, bel_set3 K2 (by omega) _ _ _⟩
  have HR := Lib.hid (show appL l e = (⟨l.durable, l.pending ++ lineT l.count.toNat e, l.count + 1⟩, 0) by simp [appL, hv, hr, hc])
  have d1 : (l.count == (60 : Int)) = false := beq_eq_false_iff_ne.2 hc
  have h60 : l.count < 60 := by omega
  clear hv hr hc
  go_enter Tryd.func29, Tryd.ntmps29
  go_wp2_with fail
  refine (IsValidLog_any l _ hs (hg.next K0)).mono ?_
  rintro x w1 ⟨rfl, b1⟩
  rw [HV.out]
  have K1 := bel_then K0 b1
  have L1 := L0.next b1
  have E1 := E0.next b1
  have R1 := R0.next b1
  have l1 := L1.cell
  have e1 := E1.cell
  have r1 := R1.cell
  have r1f := R1.frozen
  clear r1f
  go_wp2_with fail
  refine (IsValidRecord_any e _ he).mono ?_
  rintro x w2 ⟨rfl, b2⟩
  rw [HG.out]
  have K2 := bel_then K1 b2
  have L2 := L1.next b2
  have E2 := E1.next b2
  have R2 := R1.next b2
  have l2 := L2.cell
  have r2 := R2.cell
  have r2f := R2.frozen
  clear l1 e1 r1
  go_wp2_with fail
  replace K2 := bel_quiet K2 (Quiet.one w2)
  replace L2 := L2.quiet (Quiet.one w2)
  replace E2 := E2.quiet (Quiet.one w2)
  replace R2 := R2.quiet (Quiet.one w2)
  clear l2 r2 r2f
  have l2 := L2.cell
  have e2 := E2.cell
  have l2f := L2.frozen
  refine wp_region_held_drew (S := fun w' => w'.cell? ⟨w.heap.size, 0, none⟩ = some (.string l.durable) ∧ w'.cell? ⟨w.heap.size, 1, none⟩ = some (.string l.pending) ∧ w'.cell? ⟨w.heap.size, 2, none⟩ = some (.int .i64 l.count) ∧ w'.cell? ⟨w.heap.size + 1, 0, none⟩ = some (.string e.command) ∧ w'.cell? ⟨w.heap.size + 1, 1, none⟩ = some (.string e.reply)) (by kernel_rfl) (by (try dsimp only); go_keep) (fun hHeld => ?_)
  refine wpAnyH_take (i := 0) (v := ?_) rfl (by kernel_rfl) (by kernel_rfl) (by kernel_rfl) (fun _ _ _ h => h) (Or.inl ⟨by rfl, ?_⟩) (by assumption) ?_
  rotate_left 1
  · (intro w hSw; (try dsimp only at hSw); go_simp; try with_reducible rfl)
  simp only [Act.put, List.setIfInBounds_toArray, List.set_cons_zero, List.set_cons_succ, List.getElem_toArray, List.getElem_cons_zero]
  refine wpAnyH_take (i := 1) (v := ?_) rfl (by kernel_rfl) (by kernel_rfl) (by kernel_rfl) (fun _ _ _ h => h) (Or.inl ⟨by rfl, ?_⟩) (by assumption) ?_
  rotate_left 1
  · (intro w hSw; (try dsimp only at hSw); go_simp; try with_reducible rfl)
  simp only [Act.put, List.setIfInBounds_toArray, List.set_cons_zero, List.set_cons_succ, List.getElem_toArray, List.getElem_cons_zero, List.getElem_cons_succ]
  refine wpAnyH_take (i := 2) (v := ?_) rfl (by kernel_rfl) (by kernel_rfl) (by kernel_rfl) (fun _ _ _ h => h) (Or.inl ⟨by rfl, ?_⟩) (by assumption) ?_
  rotate_left 1
  · (intro w hSw; (try dsimp only at hSw); go_simp; try with_reducible rfl)
  simp only [Act.put, List.setIfInBounds_toArray, List.set_cons_zero, List.set_cons_succ, List.getElem_toArray, List.getElem_cons_zero, List.getElem_cons_succ]
  refine wpAnyH_take (i := 3) (v := ?_) rfl (by kernel_rfl) (by kernel_rfl) (by kernel_rfl) (fun _ _ _ h => h) (Or.inl ⟨by rfl, ?_⟩) (by assumption) ?_
  rotate_left 1
  · (intro w hSw; (try dsimp only at hSw); go_simp; try with_reducible rfl)
  simp only [Act.put, List.setIfInBounds_toArray, List.set_cons_zero, List.set_cons_succ, List.getElem_toArray, List.getElem_cons_zero, List.getElem_cons_succ]
  refine wpAnyH_take (i := 4) (v := ?_) rfl (by kernel_rfl) (by kernel_rfl) (by kernel_rfl) (fun _ _ _ h => h) (Or.inl ⟨by rfl, ?_⟩) (by assumption) ?_
  rotate_left 1
  · (intro w hSw; (try dsimp only at hSw); go_simp; try with_reducible rfl)
  simp only [Act.put, List.setIfInBounds_toArray, List.set_cons_zero, List.set_cons_succ, List.getElem_toArray, List.getElem_cons_zero, List.getElem_cons_succ]
  refine wpAnyH_take (i := 5) (v := ?_) rfl (by kernel_rfl) (by kernel_rfl) (by kernel_rfl) (fun _ _ _ h => h) (Or.inl ⟨by rfl, ?_⟩) (by assumption) ?_
  rotate_left 1
  · (intro w hSw; (try dsimp only at hSw); go_simp; try with_reducible rfl)
  simp only [Act.put, List.setIfInBounds_toArray, List.set_cons_zero, List.set_cons_succ, List.getElem_toArray, List.getElem_cons_zero, List.getElem_cons_succ]
  refine wpAnyH_take (i := 6) (v := ?_) rfl (by kernel_rfl) (by kernel_rfl) (by kernel_rfl) (fun _ _ _ h => h) (Or.inl ⟨by rfl, ?_⟩) (by assumption) ?_
  rotate_left 1
  · (intro w hSw; (try dsimp only at hSw); go_simp; try with_reducible rfl)
  simp only [Act.put, List.setIfInBounds_toArray, List.set_cons_zero, List.set_cons_succ, List.getElem_toArray, List.getElem_cons_zero, List.getElem_cons_succ]
  refine wpAnyH_take (i := 9) (v := ?_) rfl (by kernel_rfl) (by kernel_rfl) (by kernel_rfl) (fun _ _ _ h => h) (Or.inl ⟨by rfl, ?_⟩) (by assumption) ?_
  rotate_left 1
  · (intro w hSw; (try dsimp only at hSw); go_simp; try with_reducible rfl)
  simp only [Act.put, List.setIfInBounds_toArray, List.set_cons_zero, List.set_cons_succ, List.getElem_toArray, List.getElem_cons_zero, List.getElem_cons_succ]
  refine wpAnyH_take (i := 10) (v := ?_) rfl (by kernel_rfl) (by kernel_rfl) (by kernel_rfl) (fun _ _ _ h => h) (Or.inl ⟨by rfl, ?_⟩) (by assumption) ?_
  rotate_left 1
  · (intro w hSw; (try dsimp only at hSw); go_simp; try with_reducible rfl)
  simp only [Act.put, List.setIfInBounds_toArray, List.set_cons_zero, List.set_cons_succ, List.getElem_toArray, List.getElem_cons_zero, List.getElem_cons_succ]
  refine wpAnyH_take (i := 11) (v := ?_) rfl (by kernel_rfl) (by kernel_rfl) (by kernel_rfl) (fun _ _ _ h => h) (Or.inl ⟨by rfl, ?_⟩) (by assumption) ?_
  rotate_left 1
  · (intro w hSw; (try dsimp only at hSw); go_simp; try with_reducible rfl)
  simp only [Act.put, List.setIfInBounds_toArray, List.set_cons_zero, List.set_cons_succ, List.getElem_toArray, List.getElem_cons_zero, List.getElem_cons_succ]
  refine wpAnyH_ready (rs := [7]) (by kernel_rfl) (by simp) ?_
  refine AllReadyH.cons rfl (fun K hK => ?_) AllReadyH.nil
  go_simp
  refine (encodeRecord_int l.count e _ h0 h60 HG.out (hg.next K2)).mono ?_
  rintro x w3 ⟨rfl, b3⟩
  have zl := line_size (k := l.count.toNat) HG.out (by omega)
  have fl : ¬ 9223372036854775807 < l.pending.size + (lineT l.count.toNat e).size := by omega
  have K3 := bel_then K2 b3
  have L3 := L2.next b3
  have E3 := E2.next b3
  have R3 := R2.next b3
  have l3 := L3.cell
  have e3 := E3.cell
  have l3f := L3.frozen
  clear l2 e2 l2f
  generalize lineT l.count.toNat e = t at *
  have r3f := R3.frozen
  have r3 := R3.cell

  go_wp2_with fail
  refine hK.out _ _ (by (try dsimp only); go_keep) (fun hHeld => ?_)
  clear hK K
  refine wpAnyH_take (i := 8) (v := ?_) rfl (by kernel_rfl) (by kernel_rfl) (by kernel_rfl) (fun _ _ _ h => h) (Or.inl ⟨by rfl, ?_⟩) (by assumption) ?_
  rotate_left 1
  · (intro w hSw; (try dsimp only at hSw); go_simp; try with_reducible rfl)
  simp only [Act.put, List.setIfInBounds_toArray, List.set_cons_zero, List.set_cons_succ, List.getElem_toArray, List.getElem_cons_zero, List.getElem_cons_succ]
  refine wpAnyH_take (i := 12) (v := ?_) rfl (by kernel_rfl) (by kernel_rfl) (by kernel_rfl) (fun _ _ _ h => h) (Or.inl ⟨by rfl, ?_⟩) (by assumption) ?_
  rotate_left 1
  · (intro w hSw; (try dsimp only at hSw); go_simp; try with_reducible rfl)
  simp only [Act.put, List.setIfInBounds_toArray, List.set_cons_zero, List.set_cons_succ, List.getElem_toArray, List.getElem_cons_zero, List.getElem_cons_succ]
  refine wpAnyH_ready (rs := [13]) (by kernel_rfl) (by simp) ?_
  refine AllReadyH.cons rfl (fun K hK => ?_) AllReadyH.nil
  go_simp
  refine hK.out _ _ (by (try dsimp only); exact ⟨(((L3.far (p := ⟨w.heap.size + 2, 0, none⟩) (by simp) _).far (p := ⟨w.heap.size + 2, 1, none⟩) (by simp) _).far (p := ⟨w.heap.size + 2, 2, none⟩) (by simp) _).cell 0, (((L3.far (p := ⟨w.heap.size + 2, 0, none⟩) (by simp) _).far (p := ⟨w.heap.size + 2, 1, none⟩) (by simp) _).far (p := ⟨w.heap.size + 2, 2, none⟩) (by simp) _).cell 1, (((L3.far (p := ⟨w.heap.size + 2, 0, none⟩) (by simp) _).far (p := ⟨w.heap.size + 2, 1, none⟩) (by simp) _).far (p := ⟨w.heap.size + 2, 2, none⟩) (by simp) _).cell 2, (((E3.far (p := ⟨w.heap.size + 2, 0, none⟩) (by simp) _).far (p := ⟨w.heap.size + 2, 1, none⟩) (by simp) _).far (p := ⟨w.heap.size + 2, 2, none⟩) (by simp) _).cell 0, (((E3.far (p := ⟨w.heap.size + 2, 0, none⟩) (by simp) _).far (p := ⟨w.heap.size + 2, 1, none⟩) (by simp) _).far (p := ⟨w.heap.size + 2, 2, none⟩) (by simp) _).cell 1⟩) (fun hHeld => ?_)
  clear hK K
  try simp only [Act.put, List.setIfInBounds_toArray, List.set_cons_zero, List.set_cons_succ, List.getElem_toArray, List.getElem_cons_zero, List.getElem_cons_succ]
  refine wpAnyH_take (i := 14) (v := ?_) rfl (by kernel_rfl) (by kernel_rfl) (by kernel_rfl) (fun _ _ _ h => h) (Or.inl ⟨by rfl, ?_⟩) (by assumption) ?_
  rotate_left 1
  · (intro w hSw; (try dsimp only at hSw); go_simp; try with_reducible rfl)
  simp only [Act.put, List.setIfInBounds_toArray, List.set_cons_zero, List.set_cons_succ, List.getElem_toArray, List.getElem_cons_zero, List.getElem_cons_succ]
  refine wpAnyH_done (by kernel_rfl) ?_ _
  have hw : IntKind.i64.wrap (l.count + 1) = l.count + 1 := IntWalk.i64_in _ (by omega)
  go_wp2_with fail
  refine bodyPost_ret (v := .tuple #[.agg #[.string l.durable, .string (l.pending ++ t), .int .i64 (l.count + 1)], .int .i64 0]) (by simp [results, Tryd.results29, go_sem, r3, hw]) rfl ?_
  rw [HR.out]
  exact ⟨rfl, bel_set3 K3 (Nat.le_trans (Nat.le_succ _) (Nat.le_succ _)) _ _ _⟩

set_option maxRecDepth 100000 in
set_option maxHeartbeats 2000000 in
theorem specAppendRecord_any (l : Log) (e : LogRecord) (w : World) (hs : l.upto 1048576) (he : e.upto 9223372036854775807) :
    Calls Tryd.prog 28 #[.agg #[.string l.durable, .string l.pending, .int .i64 l.count], .agg #[.string e.command, .string e.reply]] w (GivesLI w (appL l e)) := by
  have ⟨h1, h2⟩ := hs
  have K0 : Below w.heap.size w (((w.alloc (.cells #[.string l.durable, .string l.pending, .int .i64 l.count] 31)).alloc (.cells #[.string e.command, .string e.reply] 27)).alloc (.cells #[.string ⟨#[]⟩, .string ⟨#[]⟩, .int .i64 0] 31)) := (((Below.refl _ _).alloc (Nat.le_refl _) _).alloc (by simp) _).alloc (by simp; omega) _
  have L0 : Blk (((w.alloc (.cells #[.string l.durable, .string l.pending, .int .i64 l.count] 31)).alloc (.cells #[.string e.command, .string e.reply] 27)).alloc (.cells #[.string ⟨#[]⟩, .string ⟨#[]⟩, .int .i64 0] 31)) w.heap.size 31 [.string l.durable, .string l.pending, .int .i64 l.count] := ((Blk.at_ rfl).alloc _).alloc _
  have E0 : Blk (((w.alloc (.cells #[.string l.durable, .string l.pending, .int .i64 l.count] 31)).alloc (.cells #[.string e.command, .string e.reply] 27)).alloc (.cells #[.string ⟨#[]⟩, .string ⟨#[]⟩, .int .i64 0] 31)) (w.heap.size + 1) 27 [.string e.command, .string e.reply] := (Blk.at_ (by simp)).alloc _
  have R0 : Blk (((w.alloc (.cells #[.string l.durable, .string l.pending, .int .i64 l.count] 31)).alloc (.cells #[.string e.command, .string e.reply] 27)).alloc (.cells #[.string ⟨#[]⟩, .string ⟨#[]⟩, .int .i64 0] 31)) (w.heap.size + 2) 31 [.string ⟨#[]⟩, .string ⟨#[]⟩, .int .i64 0] := Blk.at_ (by simp)
  cases hv : validL l
  · have HR := Lib.hid (show appL l e = (l, 1) by simp [appL, hv])
    have HV := Lib.hid hv
    clear hv
    go_enter Tryd.func28, Tryd.ntmps28
    go_wp2_with fail
    refine (l27Log_any l _ hs).mono ?_
    rintro x w1 ⟨rfl, b1⟩
    rw [HV.out]
    have K1 := bel_then K0 b1
    have L1 := L0.next b1
    have E1 := E0.next b1
    have R1 := R0.next b1
    have l1 := L1.cell
    have e1 := E1.cell
    have r1 := R1.cell
    have r1f := R1.frozen
    go_wp2_with fail
    refine bodyPost_ret (v := .tuple #[.agg #[.string l.durable, .string l.pending, .int .i64 l.count], .int .i64 1]) (by simp [results, Tryd.results28, go_sem, r1]) rfl ?_
    rw [HR.out]
    exact ⟨rfl, bel_set3 K1 (by omega) _ _ _⟩
  have HV := Lib.hid hv
  have ⟨h0, h60', h3⟩ := validL_facts hv
  cases hr : recB e
  · have HR := Lib.hid (show appL l e = (l, 1) by simp [appL, hr])
    have HG := Lib.hid hr
    clear hv hr
    go_enter Tryd.func28, Tryd.ntmps28
    go_wp2_with fail
    refine (l27Log_any l _ hs).mono ?_
    rintro x w1 ⟨rfl, b1⟩
    rw [HV.out]
    have K1 := bel_then K0 b1
    have L1 := L0.next b1
    have E1 := E0.next b1
    have R1 := R0.next b1
    have l1 := L1.cell
    have e1 := E1.cell
    have r1 := R1.cell
    have r1f := R1.frozen
    clear r1f
    go_wp2_with fail
    refine (l27Good_any e _ he).mono ?_
    rintro x w2 ⟨rfl, b2⟩
    rw [HG.out]
    have K2 := bel_then K1 b2
    have L2 := L1.next b2
    have E2 := E1.next b2
    have R2 := R1.next b2
    have l2 := L2.cell
    have r2 := R2.cell
    have r2f := R2.frozen
    clear l1 e1 r1
    go_wp2_with fail
    refine bodyPost_ret (v := .tuple #[.agg #[.string l.durable, .string l.pending, .int .i64 l.count], .int .i64 1]) (by simp [results, Tryd.results28, go_sem, r2]) rfl ?_
    rw [HR.out]
    exact ⟨rfl, bel_set3 K2 (by omega) _ _ _⟩
  have HG := Lib.hid hr
  by_cases hc : l.count = 60
  · have HR := Lib.hid (show appL l e = (l, 2) by simp [appL, hv, hr, hc])
    have d1 : (l.count == (60 : Int)) = true := beq_iff_eq.2 hc
    clear hv hr hc
    go_enter Tryd.func28, Tryd.ntmps28
    go_wp2_with fail
    refine (l27Log_any l _ hs).mono ?_
    rintro x w1 ⟨rfl, b1⟩
    rw [HV.out]
    have K1 := bel_then K0 b1
    have L1 := L0.next b1
    have E1 := E0.next b1
    have R1 := R0.next b1
    have l1 := L1.cell
    have e1 := E1.cell
    have r1 := R1.cell
    have r1f := R1.frozen
    clear r1f
    go_wp2_with fail
    refine (l27Good_any e _ he).mono ?_
    rintro x w2 ⟨rfl, b2⟩
    rw [HG.out]
    have K2 := bel_then K1 b2
    have L2 := L1.next b2
    have E2 := E1.next b2
    have R2 := R1.next b2
    have l2 := L2.cell
    have r2 := R2.cell
    have r2f := R2.frozen
    clear l1 e1 r1
    go_wp2_with fail
    refine bodyPost_ret (v := .tuple #[.agg #[.string l.durable, .string l.pending, .int .i64 l.count], .int .i64 2]) (by simp [results, Tryd.results28, go_sem, r2]) rfl ?_
    rw [HR.out]
    exact ⟨rfl, bel_set3 K2 (by omega) _ _ _⟩
  have HR := Lib.hid (show appL l e = (⟨l.durable, l.pending ++ lineT l.count.toNat e, l.count + 1⟩, 0) by simp [appL, hv, hr, hc])
  have d1 : (l.count == (60 : Int)) = false := beq_eq_false_iff_ne.2 hc
  have h60 : l.count < 60 := by omega
  clear hv hr hc
  go_enter Tryd.func28, Tryd.ntmps28
  go_wp2_with fail
  refine (l27Log_any l _ hs).mono ?_
  rintro x w1 ⟨rfl, b1⟩
  rw [HV.out]
  have K1 := bel_then K0 b1
  have L1 := L0.next b1
  have E1 := E0.next b1
  have R1 := R0.next b1
  have l1 := L1.cell
  have e1 := E1.cell
  have r1 := R1.cell
  have r1f := R1.frozen
  clear r1f
  go_wp2_with fail
  refine (l27Good_any e _ he).mono ?_
  rintro x w2 ⟨rfl, b2⟩
  rw [HG.out]
  have K2 := bel_then K1 b2
  have L2 := L1.next b2
  have E2 := E1.next b2
  have R2 := R1.next b2
  have l2 := L2.cell
  have r2 := R2.cell
  have r2f := R2.frozen
  clear l1 e1 r1
  go_wp2_with fail
  replace K2 := bel_quiet K2 (Quiet.one w2)
  replace L2 := L2.quiet (Quiet.one w2)
  replace E2 := E2.quiet (Quiet.one w2)
  replace R2 := R2.quiet (Quiet.one w2)
  clear l2 r2 r2f
  have l2 := L2.cell
  have e2 := E2.cell
  have l2f := L2.frozen
  refine wp_region_held_drew (S := fun w' => w'.cell? ⟨w.heap.size, 2, none⟩ = some (.int .i64 l.count) ∧ w'.cell? ⟨w.heap.size + 1, 0, none⟩ = some (.string e.command) ∧ w'.cell? ⟨w.heap.size + 1, 1, none⟩ = some (.string e.reply)) (by kernel_rfl) (by (try dsimp only); go_keep) (fun hHeld => ?_)
  refine wpAnyH_take (i := 0) (v := ?_) rfl (by kernel_rfl) (by kernel_rfl) (by kernel_rfl) (fun _ _ _ h => h) (Or.inl ⟨by rfl, ?_⟩) (by assumption) ?_
  rotate_left 1
  · (intro w hSw; (try dsimp only at hSw); go_simp; try with_reducible rfl)
  simp only [Act.put, List.setIfInBounds_toArray, List.set_cons_zero, List.set_cons_succ, List.getElem_toArray, List.getElem_cons_zero]
  refine wpAnyH_take (i := 2) (v := ?_) rfl (by kernel_rfl) (by kernel_rfl) (by kernel_rfl) (fun _ _ _ h => h) (Or.inl ⟨by rfl, ?_⟩) (by assumption) ?_
  rotate_left 1
  · (intro w hSw; (try dsimp only at hSw); go_simp; try with_reducible rfl)
  simp only [Act.put, List.setIfInBounds_toArray, List.set_cons_zero, List.set_cons_succ, List.getElem_toArray, List.getElem_cons_zero, List.getElem_cons_succ]
  refine wpAnyH_take (i := 3) (v := ?_) rfl (by kernel_rfl) (by kernel_rfl) (by kernel_rfl) (fun _ _ _ h => h) (Or.inl ⟨by rfl, ?_⟩) (by assumption) ?_
  rotate_left 1
  · (intro w hSw; (try dsimp only at hSw); go_simp; try with_reducible rfl)
  simp only [Act.put, List.setIfInBounds_toArray, List.set_cons_zero, List.set_cons_succ, List.getElem_toArray, List.getElem_cons_zero, List.getElem_cons_succ]
  refine wpAnyH_take (i := 4) (v := ?_) rfl (by kernel_rfl) (by kernel_rfl) (by kernel_rfl) (fun _ _ _ h => h) (Or.inl ⟨by rfl, ?_⟩) (by assumption) ?_
  rotate_left 1
  · (intro w hSw; (try dsimp only at hSw); go_simp; try with_reducible rfl)
  simp only [Act.put, List.setIfInBounds_toArray, List.set_cons_zero, List.set_cons_succ, List.getElem_toArray, List.getElem_cons_zero, List.getElem_cons_succ]
  refine wpAnyH_ready (rs := [1, 5]) (by kernel_rfl) (by simp) ?_
  refine AllReadyH.cons rfl (fun K hK => ?_) ?_
  · go_simp
    refine hK.out _ _ (by (try dsimp only); go_keep) (fun hHeld => ?_)
    clear hK K
    try simp only [Act.put, List.setIfInBounds_toArray, List.set_cons_zero, List.set_cons_succ, List.getElem_toArray, List.getElem_cons_zero, List.getElem_cons_succ]
    refine wpAnyH_ready (rs := [5]) (by kernel_rfl) (by simp) ?_
    refine AllReadyH.cons rfl (fun K hK => ?_) AllReadyH.nil
    go_simp
    refine (l27Line_int l.count e _ h0 h60 HG.out).mono ?_
    rintro x w3 ⟨rfl, b3⟩
    have zl := line_size (k := l.count.toNat) HG.out (by omega)
    have fl : ¬ 9223372036854775807 < l.pending.size + (lineT l.count.toNat e).size := by omega
    have K3 := bel_then K2 b3
    have L3 := L2.next b3
    have E3 := E2.next b3
    have R3 := R2.next b3
    have l3 := L3.cell
    have e3 := E3.cell
    have l3f := L3.frozen
    clear l2 e2 l2f
    generalize lineT l.count.toNat e = t at *
  
    go_wp2_with fail
    refine hK.out _ _ (by (try dsimp only); go_keep) (fun hHeld => ?_)
    clear hK K
    refine wpAnyH_take (i := 6) (v := ?_) rfl (by kernel_rfl) (by kernel_rfl) (by kernel_rfl) (fun _ _ _ h => h) (Or.inl ⟨by rfl, ?_⟩) (by assumption) ?_
    rotate_left 1
    · (intro w hSw; (try dsimp only at hSw); go_simp; try with_reducible rfl)
    simp only [Act.put, List.setIfInBounds_toArray, List.set_cons_zero, List.set_cons_succ, List.getElem_toArray, List.getElem_cons_zero, List.getElem_cons_succ]
    refine wpAnyH_take (i := 7) (v := ?_) rfl (by kernel_rfl) (by kernel_rfl) (by kernel_rfl) (fun _ _ _ h => h) (Or.inl ⟨by rfl, ?_⟩) (by assumption) ?_
    rotate_left 1
    · (intro w hSw; (try dsimp only at hSw); go_simp; try with_reducible rfl)
    simp only [Act.put, List.setIfInBounds_toArray, List.set_cons_zero, List.set_cons_succ, List.getElem_toArray, List.getElem_cons_zero, List.getElem_cons_succ]
    refine wpAnyH_ready (rs := [8]) (by kernel_rfl) (by simp) ?_
    refine AllReadyH.cons rfl (fun K hK => ?_) AllReadyH.nil
    go_simp
    refine hK.out _ _ (by (try dsimp only); exact ⟨(L3.set_ 1 _).cell 2, (E3.far (p := ⟨w.heap.size, 1, none⟩) (by simp) _).cell 0, (E3.far (p := ⟨w.heap.size, 1, none⟩) (by simp) _).cell 1⟩) (fun hHeld => ?_)
    clear hK K
    try simp only [Act.put, List.setIfInBounds_toArray, List.set_cons_zero, List.set_cons_succ, List.getElem_toArray, List.getElem_cons_zero, List.getElem_cons_succ]
    refine wpAnyH_done (by kernel_rfl) ?_ _
    have L4 := L3.set_ 1 (.string (l.pending ++ t))
    have R4 := R3.far (p := ⟨w.heap.size, 1, none⟩) (by simp) (.string (l.pending ++ t))
    have K4 := K3.setCell (p := ⟨w.heap.size, 1, none⟩) (Nat.le_refl _) (.string (l.pending ++ t))
    clear l3 e3 l3f
    generalize w3.setCell ⟨w.heap.size, 1, none⟩ (.string (l.pending ++ t)) = w4 at *
    have l4 := L4.cell
    have l4f := L4.frozen
    have r4 := R4.cell
    have r4f := R4.frozen
    have hw : IntKind.i64.wrap (l.count + 1) = l.count + 1 := IntWalk.i64_in _ (by omega)
    go_wp2_with fail
    refine bodyPost_ret (v := .tuple #[.agg #[.string l.durable, .string (l.pending ++ t), .int .i64 (l.count + 1)], .int .i64 0]) (by simp [results, Tryd.results28, go_sem, r4]) rfl ?_
    rw [HR.out]
    exact ⟨rfl, bel_set3 (K4.setCell (p := ⟨w.heap.size, 2, none⟩) (Nat.le_refl _) _) (Nat.le_trans (Nat.le_succ _) (Nat.le_succ _)) _ _ _⟩
  refine AllReadyH.cons rfl (fun K hK => ?_) AllReadyH.nil
  · go_simp
    refine (l27Line_int l.count e _ h0 h60 HG.out).mono ?_
    rintro x w3 ⟨rfl, b3⟩
    have zl := line_size (k := l.count.toNat) HG.out (by omega)
    have fl : ¬ 9223372036854775807 < l.pending.size + (lineT l.count.toNat e).size := by omega
    have K3 := bel_then K2 b3
    have L3 := L2.next b3
    have E3 := E2.next b3
    have R3 := R2.next b3
    have l3 := L3.cell
    have e3 := E3.cell
    have l3f := L3.frozen
    clear l2 e2 l2f
    generalize lineT l.count.toNat e = t at *
  
    go_wp2_with fail
    refine hK.out _ _ (by (try dsimp only); go_keep) (fun hHeld => ?_)
    clear hK K
    refine wpAnyH_ready (rs := [1]) (by kernel_rfl) (by simp) ?_
    refine AllReadyH.cons rfl (fun K hK => ?_) AllReadyH.nil
    go_simp
    refine hK.out _ _ (by (try dsimp only); go_keep) (fun hHeld => ?_)
    clear hK K
    try simp only [Act.put, List.setIfInBounds_toArray, List.set_cons_zero, List.set_cons_succ, List.getElem_toArray, List.getElem_cons_zero, List.getElem_cons_succ]
    refine wpAnyH_take (i := 6) (v := ?_) rfl (by kernel_rfl) (by kernel_rfl) (by kernel_rfl) (fun _ _ _ h => h) (Or.inl ⟨by rfl, ?_⟩) (by assumption) ?_
    rotate_left 1
    · (intro w hSw; (try dsimp only at hSw); go_simp; try with_reducible rfl)
    simp only [Act.put, List.setIfInBounds_toArray, List.set_cons_zero, List.set_cons_succ, List.getElem_toArray, List.getElem_cons_zero, List.getElem_cons_succ]
    refine wpAnyH_take (i := 7) (v := ?_) rfl (by kernel_rfl) (by kernel_rfl) (by kernel_rfl) (fun _ _ _ h => h) (Or.inl ⟨by rfl, ?_⟩) (by assumption) ?_
    rotate_left 1
    · (intro w hSw; (try dsimp only at hSw); go_simp; try with_reducible rfl)
    simp only [Act.put, List.setIfInBounds_toArray, List.set_cons_zero, List.set_cons_succ, List.getElem_toArray, List.getElem_cons_zero, List.getElem_cons_succ]
    refine wpAnyH_ready (rs := [8]) (by kernel_rfl) (by simp) ?_
    refine AllReadyH.cons rfl (fun K hK => ?_) AllReadyH.nil
    go_simp
    refine hK.out _ _ (by (try dsimp only); exact ⟨(L3.set_ 1 _).cell 2, (E3.far (p := ⟨w.heap.size, 1, none⟩) (by simp) _).cell 0, (E3.far (p := ⟨w.heap.size, 1, none⟩) (by simp) _).cell 1⟩) (fun hHeld => ?_)
    clear hK K
    try simp only [Act.put, List.setIfInBounds_toArray, List.set_cons_zero, List.set_cons_succ, List.getElem_toArray, List.getElem_cons_zero, List.getElem_cons_succ]
    refine wpAnyH_done (by kernel_rfl) ?_ _
    have L4 := L3.set_ 1 (.string (l.pending ++ t))
    have R4 := R3.far (p := ⟨w.heap.size, 1, none⟩) (by simp) (.string (l.pending ++ t))
    have K4 := K3.setCell (p := ⟨w.heap.size, 1, none⟩) (Nat.le_refl _) (.string (l.pending ++ t))
    clear l3 e3 l3f
    generalize w3.setCell ⟨w.heap.size, 1, none⟩ (.string (l.pending ++ t)) = w4 at *
    have l4 := L4.cell
    have l4f := L4.frozen
    have r4 := R4.cell
    have r4f := R4.frozen
    have hw : IntKind.i64.wrap (l.count + 1) = l.count + 1 := IntWalk.i64_in _ (by omega)
    go_wp2_with fail
    refine bodyPost_ret (v := .tuple #[.agg #[.string l.durable, .string (l.pending ++ t), .int .i64 (l.count + 1)], .int .i64 0]) (by simp [results, Tryd.results28, go_sem, r4]) rfl ?_
    rw [HR.out]
    exact ⟨rfl, bel_set3 (K4.setCell (p := ⟨w.heap.size, 2, none⟩) (Nat.le_refl _) _) (Nat.le_trans (Nat.le_succ _) (Nat.le_succ _)) _ _ _⟩

end Go.Proofs.YtjangfhelagjnaaDoor
