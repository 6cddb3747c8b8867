/- Joined texts of this proof: AppL, CmdP. -/
import Derived.Test.YtflpcdffmpfdpaaGreatDoorP24
import Derived.Test.YtflpcdffmpfdpaaGreatDoorP21
import Derived.Test.YtflpcdffmpfdpaaGreatDoorP22
import Derived.Test.YtflpcdffmpfdpaaGreatDoorP17
import Derived.Test.YtflpcdffmpfdpaaGreatDoorP16
namespace Go.Proofs.YtflpcdffmpfdpaaGreatDoor
open Go.RowKit

def appL (l : Log) (e : LogRecord) : Log × Int := if validL l && recB e then if l.count = 60 then (l, 2) else (⟨l.durable, l.pending ++ lineT l.count.toNat e, l.count + 1⟩, 0) else (l, 1)
/-- A log and a number. -/
def GivesLI (w : World) (R : Log × Int) (e : Ending) (w' : World) : Prop := e = .returned (.tuple #[.agg #[.string R.1.durable, .string R.1.pending, .int .i64 R.1.count], .int .i64 R.2]) ∧ Below w.heap.size w w'
theorem validL_facts {l : Log} (h : validL l = true) : 0 ≤ l.count ∧ l.count ≤ 60 ∧ l.durable.size + l.pending.size ≤ 30000 := by
  unfold validL at h
  simp only [Bool.and_eq_true, decide_eq_true_eq] at h
  have h1 := (allR_ok (l.durable ++ l.pending)).len
  have h2 := allR_size (l.durable ++ l.pending)
  omega
theorem encodeRecord_int (k : Int) (e : LogRecord) (w : World) (h0 : 0 ≤ k) (h1 : k < 60) (he : recB e = true) (hg : Gl w) :
    Calls Tryz.prog 99 #[.int .i64 k, .agg #[.string e.command, .string e.reply]] w fun x w' => x = .returned (.string (lineT k.toNat e)) ∧ Below w.heap.size w w' := by
  obtain ⟨n, rfl⟩ := Int.eq_ofNat_of_zero_le h0
  exact encodeRecord_any n e w (by omega) he hg
theorem l27Line_int (k : Int) (e : LogRecord) (w : World) (h0 : 0 ≤ k) (h1 : k < 60) (he : recB e = true) :
    Calls Tryz.prog 88 #[.int .i64 k, .agg #[.string e.command, .string e.reply]] w fun x w' => x = .returned (.string (lineT k.toNat e)) ∧ Below w.heap.size w w' := by
  obtain ⟨n, rfl⟩ := Int.eq_ofNat_of_zero_le h0
  exact l27Line_any n e w (by omega) he

set_option maxRecDepth 100000 in
set_option maxHeartbeats 2000000 in
theorem AppendRecord_any (l : Log) (e : LogRecord) (w : World) (hs : l.upto 1048576) (he : e.upto 9223372036854775807) (hg : Gl w) :
    Calls Tryz.prog 50 #[.agg #[.string l.durable, .string l.pending, .int .i64 l.count], .agg #[.string e.command, .string e.reply]] w (GivesLI w (appL l e)) := by
  have ⟨h1, h2⟩ := hs
  have K0 : Below w.heap.size w (((w.alloc (.cells #[.string l.durable, .string l.pending, .int .i64 l.count] 33)).alloc (.cells #[.string e.command, .string e.reply] 69)).alloc (.cells #[.string ⟨#[]⟩, .string ⟨#[]⟩, .int .i64 0] 33)) := (((Below.refl _ _).alloc (Nat.le_refl _) _).alloc (by simp) _).alloc (by simp; omega) _
  have L0 : Blk (((w.alloc (.cells #[.string l.durable, .string l.pending, .int .i64 l.count] 33)).alloc (.cells #[.string e.command, .string e.reply] 69)).alloc (.cells #[.string ⟨#[]⟩, .string ⟨#[]⟩, .int .i64 0] 33)) w.heap.size 33 [.string l.durable, .string l.pending, .int .i64 l.count] := ((Blk.at_ rfl).alloc _).alloc _
  have E0 : Blk (((w.alloc (.cells #[.string l.durable, .string l.pending, .int .i64 l.count] 33)).alloc (.cells #[.string e.command, .string e.reply] 69)).alloc (.cells #[.string ⟨#[]⟩, .string ⟨#[]⟩, .int .i64 0] 33)) (w.heap.size + 1) 69 [.string e.command, .string e.reply] := (Blk.at_ (by simp)).alloc _
  have R0 : Blk (((w.alloc (.cells #[.string l.durable, .string l.pending, .int .i64 l.count] 33)).alloc (.cells #[.string e.command, .string e.reply] 69)).alloc (.cells #[.string ⟨#[]⟩, .string ⟨#[]⟩, .int .i64 0] 33)) (w.heap.size + 2) 33 [.string ⟨#[]⟩, .string ⟨#[]⟩, .int .i64 0] := Blk.at_ (by simp)
  cases hv : validL l
  · have HR := Lib.hid (show appL l e = (l, 1) by simp [appL, hv])
    have HV := Lib.hid hv
    clear hv
    go_enter Tryz.func50, Tryz.ntmps50
    go_wp2_with fail
    refine (IsValidLog_any l _ hs (hg.next K0)).mono ?_
    rintro x w1 ⟨rfl, b1⟩
    rw [HV.out]
    have K1 := bel_then K0 b1
    have L1 := L0.next b1
    have E1 := E0.next b1
    have R1 := R0.next b1
    have l1 := L1.cell
    have e1 := E1.cell
    have r1 := R1.cell
    have r1f := R1.frozen
    go_wp2_with fail
    refine bodyPost_ret (v := .tuple #[.agg #[.string l.durable, .string l.pending, .int .i64 l.count], .int .i64 1]) (by simp [results, Tryz.results50, go_sem, r1]) rfl ?_
    rw [HR.out]
    exact ⟨rfl, bel_set3 K1 (by omega) _ _ _⟩
  have HV := Lib.hid hv
  have ⟨h0, h60', h3⟩ := validL_facts hv
  cases hr : recB e
  · have HR := Lib.hid (show appL l e = (l, 1) by simp [appL, hr])
    have HG := Lib.hid hr
    clear hv hr
    go_enter Tryz.func50, Tryz.ntmps50
    go_wp2_with fail
    refine (IsValidLog_any l _ hs (hg.next K0)).mono ?_
    rintro x w1 ⟨rfl, b1⟩
    rw [HV.out]
    have K1 := bel_then K0 b1
    have L1 := L0.next b1
    have E1 := E0.next b1
    have R1 := R0.next b1
    have l1 := L1.cell
    have e1 := E1.cell
    have r1 := R1.cell
    have r1f := R1.frozen
    clear r1f
    go_wp2_with fail
    refine (IsValidRecord_any e _ he).mono ?_
    rintro x w2 ⟨rfl, b2⟩
    rw [HG.out]
    have K2 := bel_then K1 b2
    have L2 := L1.next b2
    have E2 := E1.next b2
    have R2 := R1.next b2
    have l2 := L2.cell
    have r2 := R2.cell
    have r2f := R2.frozen
    clear l1 e1 r1
    go_wp2_with fail
    refine bodyPost_ret (v := .tuple #[.agg #[.string l.durable, .string l.pending, .int .i64 l.count], .int .i64 1]) (by simp [results, Tryz.results50, go_sem, r2]) rfl ?_
    rw [HR.out]
    exact ⟨rfl, bel_set3 K2 (by omega) _ _ _⟩
  have HG := Lib.hid hr
  by_cases hc : l.count = 60
  · have HR := Lib.hid (show appL l e = (l, 2) by simp [appL, hv, hr, hc])
    have d1 : (l.count == (60 : Int)) = true := beq_iff_eq.2 hc
    clear hv hr hc
    go_enter Tryz.func50, Tryz.ntmps50
    go_wp2_with fail
    refine (IsValidLog_any l _ hs (hg.next K0)).mono ?_
    rintro x w1 ⟨rfl, b1⟩
    rw [HV.out]
    have K1 := bel_then K0 b1
    have L1 := L0.next b1
    have E1 := E0.next b1
    have R1 := R0.next b1
    have l1 := L1.cell
    have e1 := E1.cell
    have r1 := R1.cell
    have r1f := R1.frozen
    clear r1f
    go_wp2_with fail
    refine (IsValidRecord_any e _ he).mono ?_
    rintro x w2 ⟨rfl, b2⟩
    rw [HG.out]
    have K2 := bel_then K1 b2
    have L2 := L1.next b2
    have E2 := E1.next b2
    have R2 := R1.next b2
    have l2 := L2.cell
    have r2 := R2.cell
    have r2f := R2.frozen
    clear l1 e1 r1
    go_wp2_with fail
    refine bodyPost_ret (v := .tuple #[.agg #[.string l.durable, .string l.pending, .int .i64 l.count], .int .i64 2]) (by simp [results, Tryz.results50, go_sem, r2]) rfl ?_
    rw [HR.out]
    exact ⟨rfl, bel_set3 K2 (by omega) _ _ _⟩
  have HR := Lib.hid (show appL l e = (⟨l.durable, l.pending ++ lineT l.count.toNat e, l.count + 1⟩, 0) by simp [appL, hv, hr, hc])
  have d1 : (l.count == (60 : Int)) = false := beq_eq_false_iff_ne.2 hc
  have h60 : l.count < 60 := by omega
  clear hv hr hc
  go_enter Tryz.func50, Tryz.ntmps50
  go_wp2_with fail
  refine (IsValidLog_any l _ hs (hg.next K0)).mono ?_
  rintro x w1 ⟨rfl, b1⟩
  rw [HV.out]
  have K1 := bel_then K0 b1
  have L1 := L0.next b1
  have E1 := E0.next b1
  have R1 := R0.next b1
  have l1 := L1.cell
  have e1 := E1.cell
  have r1 := R1.cell
  have r1f := R1.frozen
  clear r1f
  go_wp2_with fail
  refine (IsValidRecord_any e _ he).mono ?_
  rintro x w2 ⟨rfl, b2⟩
  rw [HG.out]
  have K2 := bel_then K1 b2
  have L2 := L1.next b2
  have E2 := E1.next b2
  have R2 := R1.next b2
  have l2 := L2.cell
  have r2 := R2.cell
  have r2f := R2.frozen
  clear l1 e1 r1
  go_wp2_with fail
  replace K2 := bel_quiet K2 (Quiet.one w2)
  replace L2 := L2.quiet (Quiet.one w2)
  replace E2 := E2.quiet (Quiet.one w2)
  replace R2 := R2.quiet (Quiet.one w2)
  clear l2 r2 r2f
  have l2 := L2.cell
  have e2 := E2.cell
  have l2f := L2.frozen
  refine wp_region_held_drew (S := fun w' => w'.cell? ⟨w.heap.size, 0, none⟩ = some (.string l.durable) ∧ w'.cell? ⟨w.heap.size, 1, none⟩ = some (.string l.pending) ∧ w'.cell? ⟨w.heap.size, 2, none⟩ = some (.int .i64 l.count) ∧ w'.cell? ⟨w.heap.size + 1, 0, none⟩ = some (.string e.command) ∧ w'.cell? ⟨w.heap.size + 1, 1, none⟩ = some (.string e.reply)) (by kernel_rfl) (by (try dsimp only); go_keep) (fun hH => ?_)
  refine wQ 0 ?_
  refine wQ 1 ?_
  refine wQ 2 ?_
  refine wQ 3 ?_
  refine wQ 4 ?_
  refine wQ 5 ?_
  refine wQ 6 ?_
  refine wQ 9 ?_
  refine wQ 10 ?_
  refine wQ 11 ?_
  refine wR (rs := [7]) (by kernel_rfl) (by simp) ?_
  refine aC rfl (fun K hK => ?_) aN
  go_simp
  refine (encodeRecord_int l.count e _ h0 h60 HG.out (hg.next K2)).mono ?_
  rintro x w3 ⟨rfl, b3⟩
  have zl := line_size (k := l.count.toNat) HG.out (by omega)
  have fl : ¬ 9223372036854775807 < l.pending.size + (lineT l.count.toNat e).size := by omega
  have K3 := bel_then K2 b3
  have L3 := L2.next b3
  have E3 := E2.next b3
  have R3 := R2.next b3
  have l3 := L3.cell
  have e3 := E3.cell
  have l3f := L3.frozen
  clear l2 e2 l2f
  generalize lineT l.count.toNat e = t at *
  have r3f := R3.frozen
  have r3 := R3.cell

  go_wp2_with fail
  refine hK.out _ _ (by (try dsimp only); go_keep) (fun hH => ?_)
  clear hK K
  refine wQ 8 ?_
  refine wQ 12 ?_
  refine wR (rs := [13]) (by kernel_rfl) (by simp) ?_
  refine aC rfl (fun K hK => ?_) aN
  go_simp
  refine hK.out _ _ (by (try dsimp only); exact ⟨(((L3.far (p := ⟨w.heap.size + 2, 0, none⟩) (by simp) _).far (p := ⟨w.heap.size + 2, 1, none⟩) (by simp) _).far (p := ⟨w.heap.size + 2, 2, none⟩) (by simp) _).cell 0, (((L3.far (p := ⟨w.heap.size + 2, 0, none⟩) (by simp) _).far (p := ⟨w.heap.size + 2, 1, none⟩) (by simp) _).far (p := ⟨w.heap.size + 2, 2, none⟩) (by simp) _).cell 1, (((L3.far (p := ⟨w.heap.size + 2, 0, none⟩) (by simp) _).far (p := ⟨w.heap.size + 2, 1, none⟩) (by simp) _).far (p := ⟨w.heap.size + 2, 2, none⟩) (by simp) _).cell 2, (((E3.far (p := ⟨w.heap.size + 2, 0, none⟩) (by simp) _).far (p := ⟨w.heap.size + 2, 1, none⟩) (by simp) _).far (p := ⟨w.heap.size + 2, 2, none⟩) (by simp) _).cell 0, (((E3.far (p := ⟨w.heap.size + 2, 0, none⟩) (by simp) _).far (p := ⟨w.heap.size + 2, 1, none⟩) (by simp) _).far (p := ⟨w.heap.size + 2, 2, none⟩) (by simp) _).cell 1⟩) (fun hH => ?_)
  clear hK K
  try simp only [Act.put, pX]
  refine wQ 14 ?_
  refine wD (by kernel_rfl) ?_ _
  have hw : IntKind.i64.wrap (l.count + 1) = l.count + 1 := IntWalk.i64_in _ (by omega)
  go_wp2_with fail
  refine bodyPost_ret (v := .tuple #[.agg #[.string l.durable, .string (l.pending ++ t), .int .i64 (l.count + 1)], .int .i64 0]) (by simp [results, Tryz.results50, go_sem, r3, hw]) rfl ?_
  rw [HR.out]
  exact ⟨rfl, bel_set3 K3 (Nat.le_trans (Nat.le_succ _) (Nat.le_succ _)) _ _ _⟩

set_option maxRecDepth 100000 in
set_option maxHeartbeats 2000000 in
theorem specAppendRecord_any (l : Log) (e : LogRecord) (w : World) (hs : l.upto 1048576) (he : e.upto 9223372036854775807) :
    Calls Tryz.prog 45 #[.agg #[.string l.durable, .string l.pending, .int .i64 l.count], .agg #[.string e.command, .string e.reply]] w (GivesLI w (appL l e)) := by
  have ⟨h1, h2⟩ := hs
  have K0 : Below w.heap.size w (((w.alloc (.cells #[.string l.durable, .string l.pending, .int .i64 l.count] 33)).alloc (.cells #[.string e.command, .string e.reply] 69)).alloc (.cells #[.string ⟨#[]⟩, .string ⟨#[]⟩, .int .i64 0] 33)) := (((Below.refl _ _).alloc (Nat.le_refl _) _).alloc (by simp) _).alloc (by simp; omega) _
  have L0 : Blk (((w.alloc (.cells #[.string l.durable, .string l.pending, .int .i64 l.count] 33)).alloc (.cells #[.string e.command, .string e.reply] 69)).alloc (.cells #[.string ⟨#[]⟩, .string ⟨#[]⟩, .int .i64 0] 33)) w.heap.size 33 [.string l.durable, .string l.pending, .int .i64 l.count] := ((Blk.at_ rfl).alloc _).alloc _
  have E0 : Blk (((w.alloc (.cells #[.string l.durable, .string l.pending, .int .i64 l.count] 33)).alloc (.cells #[.string e.command, .string e.reply] 69)).alloc (.cells #[.string ⟨#[]⟩, .string ⟨#[]⟩, .int .i64 0] 33)) (w.heap.size + 1) 69 [.string e.command, .string e.reply] := (Blk.at_ (by simp)).alloc _
  have R0 : Blk (((w.alloc (.cells #[.string l.durable, .string l.pending, .int .i64 l.count] 33)).alloc (.cells #[.string e.command, .string e.reply] 69)).alloc (.cells #[.string ⟨#[]⟩, .string ⟨#[]⟩, .int .i64 0] 33)) (w.heap.size + 2) 33 [.string ⟨#[]⟩, .string ⟨#[]⟩, .int .i64 0] := Blk.at_ (by simp)
  cases hv : validL l
  · have HR := Lib.hid (show appL l e = (l, 1) by simp [appL, hv])
    have HV := Lib.hid hv
    clear hv
    go_enter Tryz.func45, Tryz.ntmps45
    go_wp2_with fail
    refine (l27Log_any l _ hs).mono ?_
    rintro x w1 ⟨rfl, b1⟩
    rw [HV.out]
    have K1 := bel_then K0 b1
    have L1 := L0.next b1
    have E1 := E0.next b1
    have R1 := R0.next b1
    have l1 := L1.cell
    have e1 := E1.cell
    have r1 := R1.cell
    have r1f := R1.frozen
    go_wp2_with fail
    refine bodyPost_ret (v := .tuple #[.agg #[.string l.durable, .string l.pending, .int .i64 l.count], .int .i64 1]) (by simp [results, Tryz.results45, go_sem, r1]) rfl ?_
    rw [HR.out]
    exact ⟨rfl, bel_set3 K1 (by omega) _ _ _⟩
  have HV := Lib.hid hv
  have ⟨h0, h60', h3⟩ := validL_facts hv
  cases hr : recB e
  · have HR := Lib.hid (show appL l e = (l, 1) by simp [appL, hr])
    have HG := Lib.hid hr
    clear hv hr
    go_enter Tryz.func45, Tryz.ntmps45
    go_wp2_with fail
    refine (l27Log_any l _ hs).mono ?_
    rintro x w1 ⟨rfl, b1⟩
    rw [HV.out]
    have K1 := bel_then K0 b1
    have L1 := L0.next b1
    have E1 := E0.next b1
    have R1 := R0.next b1
    have l1 := L1.cell
    have e1 := E1.cell
    have r1 := R1.cell
    have r1f := R1.frozen
    clear r1f
    go_wp2_with fail
    refine (l27Good_any e _ he).mono ?_
    rintro x w2 ⟨rfl, b2⟩
    rw [HG.out]
    have K2 := bel_then K1 b2
    have L2 := L1.next b2
    have E2 := E1.next b2
    have R2 := R1.next b2
    have l2 := L2.cell
    have r2 := R2.cell
    have r2f := R2.frozen
    clear l1 e1 r1
    go_wp2_with fail
    refine bodyPost_ret (v := .tuple #[.agg #[.string l.durable, .string l.pending, .int .i64 l.count], .int .i64 1]) (by simp [results, Tryz.results45, go_sem, r2]) rfl ?_
    rw [HR.out]
    exact ⟨rfl, bel_set3 K2 (by omega) _ _ _⟩
  have HG := Lib.hid hr
  by_cases hc : l.count = 60
  · have HR := Lib.hid (show appL l e = (l, 2) by simp [appL, hv, hr, hc])
    have d1 : (l.count == (60 : Int)) = true := beq_iff_eq.2 hc
    clear hv hr hc
    go_enter Tryz.func45, Tryz.ntmps45
    go_wp2_with fail
    refine (l27Log_any l _ hs).mono ?_
    rintro x w1 ⟨rfl, b1⟩
    rw [HV.out]
    have K1 := bel_then K0 b1
    have L1 := L0.next b1
    have E1 := E0.next b1
    have R1 := R0.next b1
    have l1 := L1.cell
    have e1 := E1.cell
    have r1 := R1.cell
    have r1f := R1.frozen
    clear r1f
    go_wp2_with fail
    refine (l27Good_any e _ he).mono ?_
    rintro x w2 ⟨rfl, b2⟩
    rw [HG.out]
    have K2 := bel_then K1 b2
    have L2 := L1.next b2
    have E2 := E1.next b2
    have R2 := R1.next b2
    have l2 := L2.cell
    have r2 := R2.cell
    have r2f := R2.frozen
    clear l1 e1 r1
    go_wp2_with fail
    refine bodyPost_ret (v := .tuple #[.agg #[.string l.durable, .string l.pending, .int .i64 l.count], .int .i64 2]) (by simp [results, Tryz.results45, go_sem, r2]) rfl ?_
    rw [HR.out]
    exact ⟨rfl, bel_set3 K2 (by omega) _ _ _⟩
  have HR := Lib.hid (show appL l e = (⟨l.durable, l.pending ++ lineT l.count.toNat e, l.count + 1⟩, 0) by simp [appL, hv, hr, hc])
  have d1 : (l.count == (60 : Int)) = false := beq_eq_false_iff_ne.2 hc
  have h60 : l.count < 60 := by omega
  clear hv hr hc
  go_enter Tryz.func45, Tryz.ntmps45
  go_wp2_with fail
  refine (l27Log_any l _ hs).mono ?_
  rintro x w1 ⟨rfl, b1⟩
  rw [HV.out]
  have K1 := bel_then K0 b1
  have L1 := L0.next b1
  have E1 := E0.next b1
  have R1 := R0.next b1
  have l1 := L1.cell
  have e1 := E1.cell
  have r1 := R1.cell
  have r1f := R1.frozen
  clear r1f
  go_wp2_with fail
  refine (l27Good_any e _ he).mono ?_
  rintro x w2 ⟨rfl, b2⟩
  rw [HG.out]
  have K2 := bel_then K1 b2
  have L2 := L1.next b2
  have E2 := E1.next b2
  have R2 := R1.next b2
  have l2 := L2.cell
  have r2 := R2.cell
  have r2f := R2.frozen
  clear l1 e1 r1
  go_wp2_with fail
  replace K2 := bel_quiet K2 (Quiet.one w2)
  replace L2 := L2.quiet (Quiet.one w2)
  replace E2 := E2.quiet (Quiet.one w2)
  replace R2 := R2.quiet (Quiet.one w2)
  clear l2 r2 r2f
  have l2 := L2.cell
  have e2 := E2.cell
  have l2f := L2.frozen
  refine wp_region_held_drew (S := fun w' => w'.cell? ⟨w.heap.size, 2, none⟩ = some (.int .i64 l.count) ∧ w'.cell? ⟨w.heap.size + 1, 0, none⟩ = some (.string e.command) ∧ w'.cell? ⟨w.heap.size + 1, 1, none⟩ = some (.string e.reply)) (by kernel_rfl) (by (try dsimp only); go_keep) (fun hH => ?_)
  refine wQ 0 ?_
  refine wQ 2 ?_
  refine wQ 3 ?_
  refine wQ 4 ?_
  refine wR (rs := [1, 5]) (by kernel_rfl) (by simp) ?_
  refine aC rfl (fun K hK => ?_) ?_
  · go_simp
    refine hK.out _ _ (by (try dsimp only); go_keep) (fun hH => ?_)
    clear hK K
    try simp only [Act.put, pX]
    refine wR (rs := [5]) (by kernel_rfl) (by simp) ?_
    refine aC rfl (fun K hK => ?_) aN
    go_simp
    refine (l27Line_int l.count e _ h0 h60 HG.out).mono ?_
    rintro x w3 ⟨rfl, b3⟩
    have zl := line_size (k := l.count.toNat) HG.out (by omega)
    have fl : ¬ 9223372036854775807 < l.pending.size + (lineT l.count.toNat e).size := by omega
    have K3 := bel_then K2 b3
    have L3 := L2.next b3
    have E3 := E2.next b3
    have R3 := R2.next b3
    have l3 := L3.cell
    have e3 := E3.cell
    have l3f := L3.frozen
    clear l2 e2 l2f
    generalize lineT l.count.toNat e = t at *
  
    go_wp2_with fail
    refine hK.out _ _ (by (try dsimp only); go_keep) (fun hH => ?_)
    clear hK K
    refine wQ 6 ?_
    refine wQ 7 ?_
    refine wR (rs := [8]) (by kernel_rfl) (by simp) ?_
    refine aC rfl (fun K hK => ?_) aN
    go_simp
    refine hK.out _ _ (by (try dsimp only); exact ⟨(L3.set_ 1 _).cell 2, (E3.far (p := ⟨w.heap.size, 1, none⟩) (by simp) _).cell 0, (E3.far (p := ⟨w.heap.size, 1, none⟩) (by simp) _).cell 1⟩) (fun hH => ?_)
    clear hK K
    try simp only [Act.put, pX]
    refine wD (by kernel_rfl) ?_ _
    have L4 := L3.set_ 1 (.string (l.pending ++ t))
    have R4 := R3.far (p := ⟨w.heap.size, 1, none⟩) (by simp) (.string (l.pending ++ t))
    have K4 := K3.setCell (p := ⟨w.heap.size, 1, none⟩) (Nat.le_refl _) (.string (l.pending ++ t))
    clear l3 e3 l3f
    generalize w3.setCell ⟨w.heap.size, 1, none⟩ (.string (l.pending ++ t)) = w4 at *
    have l4 := L4.cell
    have l4f := L4.frozen
    have r4 := R4.cell
    have r4f := R4.frozen
    have hw : IntKind.i64.wrap (l.count + 1) = l.count + 1 := IntWalk.i64_in _ (by omega)
    go_wp2_with fail
    refine bodyPost_ret (v := .tuple #[.agg #[.string l.durable, .string (l.pending ++ t), .int .i64 (l.count + 1)], .int .i64 0]) (by simp [results, Tryz.results45, go_sem, r4]) rfl ?_
    rw [HR.out]
    exact ⟨rfl, bel_set3 (K4.setCell (p := ⟨w.heap.size, 2, none⟩) (Nat.le_refl _) _) (Nat.le_trans (Nat.le_succ _) (Nat.le_succ _)) _ _ _⟩
  refine aC rfl (fun K hK => ?_) aN
  · go_simp
    refine (l27Line_int l.count e _ h0 h60 HG.out).mono ?_
    rintro x w3 ⟨rfl, b3⟩
    have zl := line_size (k := l.count.toNat) HG.out (by omega)
    have fl : ¬ 9223372036854775807 < l.pending.size + (lineT l.count.toNat e).size := by omega
    have K3 := bel_then K2 b3
    have L3 := L2.next b3
    have E3 := E2.next b3
    have R3 := R2.next b3
    have l3 := L3.cell
    have e3 := E3.cell
    have l3f := L3.frozen
    clear l2 e2 l2f
    generalize lineT l.count.toNat e = t at *
  
    go_wp2_with fail
    refine hK.out _ _ (by (try dsimp only); go_keep) (fun hH => ?_)
    clear hK K
    refine wR (rs := [1]) (by kernel_rfl) (by simp) ?_
    refine aC rfl (fun K hK => ?_) aN
    go_simp
    refine hK.out _ _ (by (try dsimp only); go_keep) (fun hH => ?_)
    clear hK K
    try simp only [Act.put, pX]
    refine wQ 6 ?_
    refine wQ 7 ?_
    refine wR (rs := [8]) (by kernel_rfl) (by simp) ?_
    refine aC rfl (fun K hK => ?_) aN
    go_simp
    refine hK.out _ _ (by (try dsimp only); exact ⟨(L3.set_ 1 _).cell 2, (E3.far (p := ⟨w.heap.size, 1, none⟩) (by simp) _).cell 0, (E3.far (p := ⟨w.heap.size, 1, none⟩) (by simp) _).cell 1⟩) (fun hH => ?_)
    clear hK K
    try simp only [Act.put, pX]
    refine wD (by kernel_rfl) ?_ _
    have L4 := L3.set_ 1 (.string (l.pending ++ t))
    have R4 := R3.far (p := ⟨w.heap.size, 1, none⟩) (by simp) (.string (l.pending ++ t))
    have K4 := K3.setCell (p := ⟨w.heap.size, 1, none⟩) (Nat.le_refl _) (.string (l.pending ++ t))
    clear l3 e3 l3f
    generalize w3.setCell ⟨w.heap.size, 1, none⟩ (.string (l.pending ++ t)) = w4 at *
    have l4 := L4.cell
    have l4f := L4.frozen
    have r4 := R4.cell
    have r4f := R4.frozen
    have hw : IntKind.i64.wrap (l.count + 1) = l.count + 1 := IntWalk.i64_in _ (by omega)
    go_wp2_with fail
    refine bodyPost_ret (v := .tuple #[.agg #[.string l.durable, .string (l.pending ++ t), .int .i64 (l.count + 1)], .int .i64 0]) (by simp [results, Tryz.results45, go_sem, r4]) rfl ?_
    rw [HR.out]
    exact ⟨rfl, bel_set3 (K4.setCell (p := ⟨w.heap.size, 2, none⟩) (Nat.le_refl _) _) (Nat.le_trans (Nat.le_succ _) (Nat.le_succ _)) _ _ _⟩

end Go.Proofs.YtflpcdffmpfdpaaGreatDoor

namespace Go.Proofs.YtflpcdffmpfdpaaGreatDoor
open Go.RowKit

theorem beq_no {a : ByteArray} {l : List UInt8} (h : ¬ a = ⟨l.toArray⟩) : (a.toList == l) = false := by
  have h1 := str_beq a ⟨l.toArray⟩
  rw [decide_eq_false h, ByteArray.toList_eq ⟨l.toArray⟩] at h1
  exact h1
/-- the number of a command's word -/
def cmK (s : ByteArray) : Nat :=
  if s = ⟨#[99, 108, 111, 115, 101]⟩ then 1
  else if s = ⟨#[99, 108, 111, 99, 107]⟩ then 2
  else if s = ⟨#[111, 117, 116]⟩ then 3
  else if s = ⟨#[115, 116, 97, 116, 101, 115]⟩ then 4
  else if s = ⟨#[119, 97, 105, 116]⟩ then 5
  else if s = ⟨#[115, 116, 97, 114, 116]⟩ then 6
  else if s = ⟨#[102, 105, 110, 105, 115, 104]⟩ then 7
  else if s = ⟨#[103, 105, 118, 101]⟩ then 8
  else if s = ⟨#[99, 97, 114, 100]⟩ then 9
  else if s = ⟨#[115, 101, 101, 110]⟩ then 10
  else if s = ⟨#[112, 117, 110, 99, 104]⟩ then 11
  else if s = ⟨#[99, 111, 117, 114, 115, 101]⟩ then 12
  else 0
theorem cmK_cases (s : ByteArray) : (cmK s = 1 ∧ s = ⟨#[99, 108, 111, 115, 101]⟩) ∨ (cmK s = 2 ∧ s = ⟨#[99, 108, 111, 99, 107]⟩) ∨ (cmK s = 3 ∧ s = ⟨#[111, 117, 116]⟩) ∨ (cmK s = 4 ∧ s = ⟨#[115, 116, 97, 116, 101, 115]⟩) ∨ (cmK s = 5 ∧ s = ⟨#[119, 97, 105, 116]⟩) ∨ (cmK s = 6 ∧ s = ⟨#[115, 116, 97, 114, 116]⟩) ∨ (cmK s = 7 ∧ s = ⟨#[102, 105, 110, 105, 115, 104]⟩) ∨ (cmK s = 8 ∧ s = ⟨#[103, 105, 118, 101]⟩) ∨ (cmK s = 9 ∧ s = ⟨#[99, 97, 114, 100]⟩) ∨ (cmK s = 10 ∧ s = ⟨#[115, 101, 101, 110]⟩) ∨ (cmK s = 11 ∧ s = ⟨#[112, 117, 110, 99, 104]⟩) ∨ (cmK s = 12 ∧ s = ⟨#[99, 111, 117, 114, 115, 101]⟩) ∨ (cmK s = 0 ∧ (s.toList == [99, 108, 111, 115, 101]) = false ∧ (s.toList == [99, 108, 111, 99, 107]) = false ∧ (s.toList == [111, 117, 116]) = false ∧ (s.toList == [115, 116, 97, 116, 101, 115]) = false ∧ (s.toList == [119, 97, 105, 116]) = false ∧ (s.toList == [115, 116, 97, 114, 116]) = false ∧ (s.toList == [102, 105, 110, 105, 115, 104]) = false ∧ (s.toList == [103, 105, 118, 101]) = false ∧ (s.toList == [99, 97, 114, 100]) = false ∧ (s.toList == [115, 101, 101, 110]) = false ∧ (s.toList == [112, 117, 110, 99, 104]) = false ∧ (s.toList == [99, 111, 117, 114, 115, 101]) = false) := by
  by_cases h1 : s = ⟨#[99, 108, 111, 115, 101]⟩
  · exact Or.inl ⟨by subst h1; decide, h1⟩
  by_cases h2 : s = ⟨#[99, 108, 111, 99, 107]⟩
  · exact Or.inr <| Or.inl ⟨by subst h2; decide, h2⟩
  by_cases h3 : s = ⟨#[111, 117, 116]⟩
  · exact Or.inr <| Or.inr <| Or.inl ⟨by subst h3; decide, h3⟩
  by_cases h4 : s = ⟨#[115, 116, 97, 116, 101, 115]⟩
  · exact Or.inr <| Or.inr <| Or.inr <| Or.inl ⟨by subst h4; decide, h4⟩
  by_cases h5 : s = ⟨#[119, 97, 105, 116]⟩
  · exact Or.inr <| Or.inr <| Or.inr <| Or.inr <| Or.inl ⟨by subst h5; decide, h5⟩
  by_cases h6 : s = ⟨#[115, 116, 97, 114, 116]⟩
  · exact Or.inr <| Or.inr <| Or.inr <| Or.inr <| Or.inr <| Or.inl ⟨by subst h6; decide, h6⟩
  by_cases h7 : s = ⟨#[102, 105, 110, 105, 115, 104]⟩
  · exact Or.inr <| Or.inr <| Or.inr <| Or.inr <| Or.inr <| Or.inr <| Or.inl ⟨by subst h7; decide, h7⟩
  by_cases h8 : s = ⟨#[103, 105, 118, 101]⟩
  · exact Or.inr <| Or.inr <| Or.inr <| Or.inr <| Or.inr <| Or.inr <| Or.inr <| Or.inl ⟨by subst h8; decide, h8⟩
  by_cases h9 : s = ⟨#[99, 97, 114, 100]⟩
  · exact Or.inr <| Or.inr <| Or.inr <| Or.inr <| Or.inr <| Or.inr <| Or.inr <| Or.inr <| Or.inl ⟨by subst h9; decide, h9⟩
  by_cases h10 : s = ⟨#[115, 101, 101, 110]⟩
  · exact Or.inr <| Or.inr <| Or.inr <| Or.inr <| Or.inr <| Or.inr <| Or.inr <| Or.inr <| Or.inr <| Or.inl ⟨by subst h10; decide, h10⟩
  by_cases h11 : s = ⟨#[112, 117, 110, 99, 104]⟩
  · exact Or.inr <| Or.inr <| Or.inr <| Or.inr <| Or.inr <| Or.inr <| Or.inr <| Or.inr <| Or.inr <| Or.inr <| Or.inl ⟨by subst h11; decide, h11⟩
  by_cases h12 : s = ⟨#[99, 111, 117, 114, 115, 101]⟩
  · exact Or.inr <| Or.inr <| Or.inr <| Or.inr <| Or.inr <| Or.inr <| Or.inr <| Or.inr <| Or.inr <| Or.inr <| Or.inr <| Or.inl ⟨by subst h12; decide, h12⟩
  · refine Or.inr <| Or.inr <| Or.inr <| Or.inr <| Or.inr <| Or.inr <| Or.inr <| Or.inr <| Or.inr <| Or.inr <| Or.inr <| Or.inr <| ⟨by unfold cmK; simp only [h1, h2, h3, h4, h5, h6, h7, h8, h9, h10, h11, h12, if_false], beq_no h1, beq_no h2, beq_no h3, beq_no h4, beq_no h5, beq_no h6, beq_no h7, beq_no h8, beq_no h9, beq_no h10, beq_no h11, beq_no h12⟩

/-- how many numbers a command wants: at least, at most; whether there is such a command -/
def cmArgs : Nat → Int × Int × Bool
  | 1 | 2 | 3 | 4 => (0, 0, true)
  | 5 | 6 | 7 | 8 | 9 | 10 => (1, 1, true)
  | 11 => (2, 2, true)
  | 12 => (1, 4000, true)
  | _ => (0, 0, false)
/-- the step of a command -/
def cmStep (k : Nat) (l : List Int) : Option (Int × Int × Int) := match k with
  | 5 => some (1, 0, l.getD 0 0)
  | 6 => some (2, l.getD 0 0, 0)
  | 11 => some (3, l.getD 0 0, l.getD 1 0)
  | 7 => some (4, l.getD 0 0, 0)
  | 8 => some (5, l.getD 0 0, 0)
  | 1 => some (6, 0, 0)
  | _ => none
def cardAt (r : RaceV) (e : Int) : Option ByteArray := if inB e 0 ((r.field.length : Int) - 1) then match r.field[e.toNat]? with | some x => cardM x.card | none => none else none
def courseM (r : RaceV) (l : List Int) : Option ByteArray := match runsM r with
  | none => none
  | some rs => (orderM rs l 36000).map listM
/-- the reply of a command that changes nothing -/
def cmAsk (r : RaceV) (k : Nat) (l : List Int) : Option ByteArray := match k with
  | 2 => some (intT r.clock)
  | 3 => (stillM r).map listM
  | 4 => (countsM r).map listM
  | 9 => cardAt r (l.getD 0 0)
  | 10 => (lastM r (l.getD 0 0)).map fun p => listM [p.1, p.2]
  | _ => courseM r l
/-- the reply of a step that has been made -/
def cmReply (r : RaceV) (k e : Int) : ByteArray :=
  if k = 3 then (match r.field[e.toNat]? with | some x => intT x.punches.length | none => ⟨#[]⟩)
  else if k = 4 then (match r.field[e.toNat]? with | some x => intT (x.finish - x.start) | none => ⟨#[]⟩)
  else if k = 5 then ⟨#[111, 107]⟩
  else if k = 6 then ⟨#[99, 108, 111, 115, 101, 100]⟩
  else intT r.clock
def parseAll : List ByteArray → Option (List Int)
  | [] => some []
  | s :: r => match parseI s, parseAll r with
    | some x, some l => some (x :: l)
    | _, _ => none
def cmDo (r : RaceV) (k : Nat) (l : List Int) : RaceV × Option ByteArray := match cmStep k l with
  | none => (r, cmAsk r k l)
  | some (a, e, v) => match stepR r a e v with
    | none => (r, none)
    | some r2 => (r2, some (cmReply r2 a e))
/-- what a command line does, and its reply -/
def cmLine (r : RaceV) (line : ByteArray) : RaceV × Option ByteArray :=
  if (cmArgs (cmK ((splitT 32 line).headD ⟨#[]⟩))).2.2 = true ∧ inB (((splitT 32 line).length : Int) - 1) (cmArgs (cmK ((splitT 32 line).headD ⟨#[]⟩))).1 (cmArgs (cmK ((splitT 32 line).headD ⟨#[]⟩))).2.1 = true then
    match parseAll (splitT 32 line).tail with
    | none => (r, none)
    | some l => cmDo r (cmK ((splitT 32 line).headD ⟨#[]⟩)) l
  else (r, none)
def capT (p : ByteArray) : ByteArray := if 200 < p.size then ⟨#[108, 111, 110, 103]⟩ else p
/-- what is executed -/
structure Done where
  race : RaceV
  log : Log
  reply : ByteArray
def cmReplyOf (r : RaceV) (line : ByteArray) : ByteArray := capT ((cmLine r line).2.getD ⟨#[63]⟩)
def exM (r : RaceV) (l : Log) (line : ByteArray) : Done :=
  if (goodR r && validL l) = false then ⟨r, l, ⟨#[110, 111]⟩⟩
  else if recB ⟨line, ⟨#[]⟩⟩ = false then ⟨r, l, ⟨#[98, 97, 100]⟩⟩
  else if l.count = 60 then ⟨r, l, ⟨#[102, 117, 108, 108]⟩⟩
  else ⟨(cmLine r line).1, (appL l ⟨line, cmReplyOf r line⟩).1, cmReplyOf r line⟩

theorem parseAll_snoc {a : List ByteArray} {s : ByteArray} {l : List Int} {x : Int} (h : parseAll a = some l) (hs : parseI s = some x) : parseAll (a ++ [s]) = some (l ++ [x]) := by
  induction a generalizing l with
  | nil =>
    cases h
    simp [parseAll, hs]
  | cons b a ih =>
    unfold parseAll at h
    cases hb : parseI b with
    | none => rw [hb] at h; cases h
    | some y =>
      cases ha : parseAll a with
      | none => rw [hb, ha] at h; cases h
      | some m =>
        rw [hb, ha] at h
        injection h with h
        subst h
        rw [List.cons_append]
        unfold parseAll
        rw [hb, ih ha]
        rfl
theorem parseAll_bad {s : ByteArray} (hs : parseI s = none) : ∀ {a : List ByteArray}, s ∈ a → parseAll a = none := by
  intro a h
  induction a with
  | nil => cases h
  | cons b a ih =>
    unfold parseAll
    rcases List.mem_cons.1 h with rfl | h
    · rw [hs]
    · rw [ih h]
      cases parseI b <;> rfl
theorem parseAll_len {a : List ByteArray} {l : List Int} (h : parseAll a = some l) : l.length = a.length := by
  induction a generalizing l with
  | nil => cases h; rfl
  | cons b a ih =>
    unfold parseAll at h
    cases hb : parseI b with
    | none => rw [hb] at h; cases h
    | some y =>
      cases ha : parseAll a with
      | none => rw [hb, ha] at h; cases h
      | some m =>
        rw [hb, ha] at h
        injection h with h
        subst h
        rw [List.length_cons, List.length_cons, ih ha]
end Go.Proofs.YtflpcdffmpfdpaaGreatDoor
