/- Joined texts of this proof: LawFnDesks, Open, Open2, OpenX. -/
import Derived.Deep.CutBlock
import Derived.ProofKit
import Derived.OpenShut
import Derived.ShutString
import Derived.ChangeOld
import Derived.Below
import Derived.Lib.SmallJoins
import Derived.Deep.Slices
import Derived.Deep.Fields
import Derived.JoinedTies
import Derived.Test.YtkimlajfhepfgaaGreatP12
import Derived.Test.YtkimlajfhepfgaaGreatP06
import Derived.Test.YtkimlajfhepfgaaGreatP01
namespace Go.Proofs.YtkimlajfhepfgaaGreat
open Go.RowKit

theorem step_facts {d : DeskV} {s : DeskStep} (h : (stepM d s).isSome = true) : deskB ((stepM d s).getD deskZ) = true ∧ (s.kind = 1 → sumD ((stepM d s).getD deskZ) = sumD d + 1) ∧ (s.kind = 4 → sumD ((stepM d s).getD deskZ) < sumD d) ∧ (s.kind ≠ 1 → s.kind ≠ 4 → sumD ((stepM d s).getD deskZ) = sumD d) := by
  cases hR : stepM d s with
  | none => rw [hR] at h; cases h
  | some e =>
    refine ⟨stepM_good hR, ?_⟩
    unfold stepM at hR
    split at hR
    · rename_i h2
      simp only [Bool.and_eq_true] at h2
      injection hR with hR
      show (s.kind = 1 → sumD e = _) ∧ _
      rw [← hR]
      exact step_sum h2.2
    · cases hR
theorem run_facts {d : DeskV} {ss : List DeskStep} (h : (runP d ss).1.isSome = true) : deskB d = true ∧ ss.length ≤ 30 ∧ (runP d ss).1.getD deskZ = (runK d ss ss.length).1 ∧ (runP d ss).2 = ((runK d ss ss.length).2 : Int) := by
  cases g : (deskB d && decide (ss.length ≤ 30))
  · rw [runP_none g] at h; cases h
  · rw [runP_some g]
    simp only [Bool.and_eq_true, decide_eq_true_eq] at g
    exact ⟨g.1, g.2, rfl, rfl⟩
theorem step_next {d t : DeskV} {ss : List DeskStep} {s : DeskStep} {i : Nat} {R : Option DeskV} (ht : (runK d ss i).1 = t) (hg : deskB t = true) (hi : i < ss.length) (hs : ss[i] = s) (hR : stepM t s = R) :
    (R = none → runK d ss (i + 1) = runK d ss i) ∧ ∀ e, R = some e → runK d ss (i + 1) = (e, (runK d ss i).2 + 1) := by
  rw [runK_next hi, hs]
  unfold stepAcc
  unfold stepM at hR
  rw [ht, hg, Bool.true_and] at *
  by_cases hb : stepB t s = true
  · rw [if_pos hb] at hR
    subst hR
    refine ⟨fun h => (by cases h), fun e h => ?_⟩
    injection h with h
    rw [if_pos hb, h]
  · rw [if_neg hb] at hR
    subst hR
    refine ⟨fun _ => by rw [if_neg hb], fun e h => (by cases h)⟩

set_option maxRecDepth 100000 in
set_option maxHeartbeats 20000000 in
theorem FnDesks_any (A0 : Option Addr) (n0 c0 : Nat) (w : World) (hC : CodeIn w A0 n0) (hn : n0 ≤ 9223372036854775807) :
    Calls Tryz.prog 3 #[.slice A0 n0 c0] w fun e w' => e = .returned (.bool true) ∧ Below w.heap.size w w' := by
  have K := Below.refl w.heap.size w
  go_enter Tryz.func3, Tryz.ntmps3
  go_wp2_with fail
  refine (vBig_any A0 n0 c0 w hn).mono ?_
  rintro e w' ⟨rfl, rfl⟩
  by_cases hbig : 65536 < n0
  · rw [decide_eq_true hbig]
    go_wp2_with fail
    go_ret
    exact ⟨rfl, K⟩
  rw [decide_eq_false hbig]
  go_wp2_with fail
  refine (DrawStepDesk_any A0 n0 c0 w hC (by omega)).mono ?_
  rintro e w1 ⟨H, d, A, k, c, s, rfl, sd, fd, pd, xs, hk, b⟩
  replace hC := hC.next b
  replace K := bel_then K b
  clear b
  have U : Below w1.heap.size w1 ((w1.alloc (.cells #[.slice H.A0 H.n0 H.c0, .slice H.A1 H.n1 H.c1, .slice H.A2 H.n2 H.c2, .slice H.A3 H.n3 H.c3, .slice H.A4 H.n4 H.c4] 28)).alloc (.cells #[.int .i64 s.kind, .int .i64 s.number, .int .i64 s.cnumber, .int .i64 s.cstart, .int .i64 s.cfinish, .slice A k c] 33)) := ((Below.refl _ _).alloc (Nat.le_refl _) _).alloc (by simp) _
  have Gd : Blk ((w1.alloc (.cells #[.slice H.A0 H.n0 H.c0, .slice H.A1 H.n1 H.c1, .slice H.A2 H.n2 H.c2, .slice H.A3 H.n3 H.c3, .slice H.A4 H.n4 H.c4] 28)).alloc (.cells #[.int .i64 s.kind, .int .i64 s.number, .int .i64 s.cnumber, .int .i64 s.cstart, .int .i64 s.cfinish, .slice A k c] 33)) w1.heap.size 28 [.slice H.A0 H.n0 H.c0, .slice H.A1 H.n1 H.c1, .slice H.A2 H.n2 H.c2, .slice H.A3 H.n3 H.c3, .slice H.A4 H.n4 H.c4] := (Blk.at_ rfl : Blk (w1.alloc (.cells #[.slice H.A0 H.n0 H.c0, .slice H.A1 H.n1 H.c1, .slice H.A2 H.n2 H.c2, .slice H.A3 H.n3 H.c3, .slice H.A4 H.n4 H.c4] 28)) w1.heap.size 28 [.slice H.A0 H.n0 H.c0, .slice H.A1 H.n1 H.c1, .slice H.A2 H.n2 H.c2, .slice H.A3 H.n3 H.c3, .slice H.A4 H.n4 H.c4]).alloc _
  have Gs : Blk ((w1.alloc (.cells #[.slice H.A0 H.n0 H.c0, .slice H.A1 H.n1 H.c1, .slice H.A2 H.n2 H.c2, .slice H.A3 H.n3 H.c3, .slice H.A4 H.n4 H.c4] 28)).alloc (.cells #[.int .i64 s.kind, .int .i64 s.number, .int .i64 s.cnumber, .int .i64 s.cstart, .int .i64 s.cfinish, .slice A k c] 33)) (w1.heap.size + 1) 33 [.int .i64 s.kind, .int .i64 s.number, .int .i64 s.cnumber, .int .i64 s.cstart, .int .i64 s.cfinish, .slice A k c] := Blk.at_ (by simp)
  replace hC := hC.next U
  replace sd := sd.next U
  replace xs := xs.next U
  replace K := bel_then K U
  clear U
  replace sd := sd.less (Nat.zero_le _)
  replace xs := xs.less (Nat.zero_le _)
  go_upto_region 4 with fail
  generalize ((w1.alloc (.cells #[.slice H.A0 H.n0 H.c0, .slice H.A1 H.n1 H.c1, .slice H.A2 H.n2 H.c2, .slice H.A3 H.n3 H.c3, .slice H.A4 H.n4 H.c4] 28)).alloc (.cells #[.int .i64 s.kind, .int .i64 s.number, .int .i64 s.cnumber, .int .i64 s.cstart, .int .i64 s.cfinish, .slice A k c] 33)) = w2 at *
  generalize w1.heap.size = gd at *
  have F0 := fd.mono (show 2000 ≤ 1048576 by decide)
  have cGd := Gd.cell
  have cGs := Gs.cell
  go_wp2_with fail
  refine (StepDesk_any H d A k c s w2 sd F0 pd xs (by omega)).mono ?_
  rintro e w3 ⟨H1, rfl, M1, F1, C1, b⟩
  clear cGd cGs
  replace hC := hC.next b
  replace sd := sd.next b
  replace xs := xs.next b
  replace Gd := Gd.next b
  replace Gs := Gs.next b
  replace K := bel_then K b
  clear b
  have s1 := M1.sees
  clear M1
  have U : Below w3.heap.size w3 (w3.alloc (.cells #[.slice H1.A0 H1.n0 H1.c0, .slice H1.A1 H1.n1 H1.c1, .slice H1.A2 H1.n2 H1.c2, .slice H1.A3 H1.n3 H1.c3, .slice H1.A4 H1.n4 H1.c4] 28)) := (Below.refl _ _).alloc (Nat.le_refl _) _
  have Go : Blk (w3.alloc (.cells #[.slice H1.A0 H1.n0 H1.c0, .slice H1.A1 H1.n1 H1.c1, .slice H1.A2 H1.n2 H1.c2, .slice H1.A3 H1.n3 H1.c3, .slice H1.A4 H1.n4 H1.c4] 28)) w3.heap.size 28 [.slice H1.A0 H1.n0 H1.c0, .slice H1.A1 H1.n1 H1.c1, .slice H1.A2 H1.n2 H1.c2, .slice H1.A3 H1.n3 H1.c3, .slice H1.A4 H1.n4 H1.c4] := Blk.at_ rfl
  replace hC := hC.next U
  replace sd := sd.next U
  replace xs := xs.next U
  replace Gd := Gd.next U
  replace Gs := Gs.next U
  replace s1 := s1.next U
  replace K := bel_then K U
  clear U
  have cGd := (Gd).cell
  clear cGd
  go_upto_region 5 with fail
  generalize (w3.alloc (.cells #[.slice H1.A0 H1.n0 H1.c0, .slice H1.A1 H1.n1 H1.c1, .slice H1.A2 H1.n2 H1.c2, .slice H1.A3 H1.n3 H1.c3, .slice H1.A4 H1.n4 H1.c4] 28)) = w4 at *
  generalize w3.heap.size = go at *
  have cGd := Gd.cell
  have cGs := Gs.cell
  go_wp2_with fail
  refine (specStepDesk_any H d A k c s w4 sd F0 pd xs (by omega)).mono ?_
  rintro e w5 ⟨H2, rfl, M2, -, -, b⟩
  clear cGd cGs
  replace hC := hC.next b
  replace sd := sd.next b
  replace Gd := Gd.next b
  replace Gs := Gs.next b
  replace Go := Go.next b
  replace s1 := s1.next b
  replace K := bel_then K b
  clear b
  have s2 := M2.sees
  clear M2 xs
  have U : Below w5.heap.size w5 (w5.alloc (.cells #[.slice H2.A0 H2.n0 H2.c0, .slice H2.A1 H2.n1 H2.c1, .slice H2.A2 H2.n2 H2.c2, .slice H2.A3 H2.n3 H2.c3, .slice H2.A4 H2.n4 H2.c4] 28)) := (Below.refl _ _).alloc (Nat.le_refl _) _
  have Gw : Blk (w5.alloc (.cells #[.slice H2.A0 H2.n0 H2.c0, .slice H2.A1 H2.n1 H2.c1, .slice H2.A2 H2.n2 H2.c2, .slice H2.A3 H2.n3 H2.c3, .slice H2.A4 H2.n4 H2.c4] 28)) w5.heap.size 28 [.slice H2.A0 H2.n0 H2.c0, .slice H2.A1 H2.n1 H2.c1, .slice H2.A2 H2.n2 H2.c2, .slice H2.A3 H2.n3 H2.c3, .slice H2.A4 H2.n4 H2.c4] := Blk.at_ rfl
  replace hC := hC.next U
  replace sd := sd.next U
  replace Gd := Gd.next U
  replace Gs := Gs.next U
  replace Go := Go.next U
  replace s1 := s1.next U
  replace s2 := s2.next U
  replace K := bel_then K U
  clear U
  go_upto_region 6 with fail
  generalize (w5.alloc (.cells #[.slice H2.A0 H2.n0 H2.c0, .slice H2.A1 H2.n1 H2.c1, .slice H2.A2 H2.n2 H2.c2, .slice H2.A3 H2.n3 H2.c3, .slice H2.A4 H2.n4 H2.c4] 28)) = w6 at *
  generalize w5.heap.size = gw at *
  have HST := Lib.hid (fun (h : (stepM d s).isSome = true) => show deskB ((stepM d s).getD deskZ) = true ∧ (s.kind = 1 → sumD ((stepM d s).getD deskZ) = sumD d + 1) ∧ (s.kind = 4 → sumD ((stepM d s).getD deskZ) < sumD d) ∧ (s.kind ≠ 1 → s.kind ≠ 4 → sumD ((stepM d s).getD deskZ) = sumD d) from step_facts h)
  obtain ⟨q, hq⟩ : ∃ q, (stepM d s).getD deskZ = q := ⟨_, rfl⟩
  obtain ⟨o0, ho0⟩ : ∃ o0, (stepM d s).isSome = o0 := ⟨_, rfl⟩
  rw [hq] at s1 s2 F1 HST
  rw [ho0] at HST
  try rw [ho0]
  clear hq ho0
  have hoo : (o0 != o0) = false := bne_self_eq_false o0
  obtain ⟨v0, hv0⟩ : ∃ v0, deskB d = v0 := ⟨_, rfl⟩
  have HVD := Lib.hid hv0
  have hvv : (v0 != v0) = false := bne_self_eq_false v0
  clear hv0
  have hSS : ∀ w' : World, Below w6.heap.size w6 w' → w'.cell? ⟨gd, 0, none⟩ = some (.slice H.A0 H.n0 H.c0) ∧ w'.cell? ⟨gd, 1, none⟩ = some (.slice H.A1 H.n1 H.c1) ∧ w'.cell? ⟨gd, 2, none⟩ = some (.slice H.A2 H.n2 H.c2) ∧ w'.cell? ⟨gd, 3, none⟩ = some (.slice H.A3 H.n3 H.c3) ∧ w'.cell? ⟨gd, 4, none⟩ = some (.slice H.A4 H.n4 H.c4) ∧ w'.cell? ⟨go, 0, none⟩ = some (.slice H1.A0 H1.n0 H1.c0) ∧ w'.cell? ⟨go, 1, none⟩ = some (.slice H1.A1 H1.n1 H1.c1) ∧ w'.cell? ⟨go, 2, none⟩ = some (.slice H1.A2 H1.n2 H1.c2) ∧ w'.cell? ⟨go, 3, none⟩ = some (.slice H1.A3 H1.n3 H1.c3) ∧ w'.cell? ⟨go, 4, none⟩ = some (.slice H1.A4 H1.n4 H1.c4) ∧ w'.cell? ⟨gw, 0, none⟩ = some (.slice H2.A0 H2.n0 H2.c0) ∧ w'.cell? ⟨gw, 1, none⟩ = some (.slice H2.A1 H2.n1 H2.c1) ∧ w'.cell? ⟨gw, 2, none⟩ = some (.slice H2.A2 H2.n2 H2.c2) ∧ w'.cell? ⟨gw, 3, none⟩ = some (.slice H2.A3 H2.n3 H2.c3) ∧ w'.cell? ⟨gw, 4, none⟩ = some (.slice H2.A4 H2.n4 H2.c4) := fun w' hb => ⟨(Gd.next hb).cell 0, (Gd.next hb).cell 1, (Gd.next hb).cell 2, (Gd.next hb).cell 3, (Gd.next hb).cell 4, (Go.next hb).cell 0, (Go.next hb).cell 1, (Go.next hb).cell 2, (Go.next hb).cell 3, (Go.next hb).cell 4, (Gw.next hb).cell 0, (Gw.next hb).cell 1, (Gw.next hb).cell 2, (Gw.next hb).cell 3, (Gw.next hb).cell 4⟩
  generalize gd + 1 = gs at *
  go_cut [74] from 51 to 73 (fun s74 wr => s74 = .bool false ∧ CodeIn wr A0 n0 ∧ SeesDesk wr 0 H d ∧ Blk wr gd 28 [.slice H.A0 H.n0 H.c0, .slice H.A1 H.n1 H.c1, .slice H.A2 H.n2 H.c2, .slice H.A3 H.n3 H.c3, .slice H.A4 H.n4 H.c4] ∧ Blk wr gs 33 [.int .i64 s.kind, .int .i64 s.number, .int .i64 s.cnumber, .int .i64 s.cstart, .int .i64 s.cfinish, .slice A k c] ∧ Blk wr go 28 [.slice H1.A0 H1.n0 H1.c0, .slice H1.A1 H1.n1 H1.c1, .slice H1.A2 H1.n2 H1.c2, .slice H1.A3 H1.n3 H1.c3, .slice H1.A4 H1.n4 H1.c4] ∧ SeesDesk wr 0 H1 q ∧ Below w.heap.size w wr)
  case first =>
    cases o0
    · have Q := (Quiet.one w6).below w6.heap.size
      refine wp_region_held_drew (S := fun w' => w'.cell? ⟨gd, 0, none⟩ = some (.slice H.A0 H.n0 H.c0) ∧ w'.cell? ⟨gd, 1, none⟩ = some (.slice H.A1 H.n1 H.c1) ∧ w'.cell? ⟨gd, 2, none⟩ = some (.slice H.A2 H.n2 H.c2) ∧ w'.cell? ⟨gd, 3, none⟩ = some (.slice H.A3 H.n3 H.c3) ∧ w'.cell? ⟨gd, 4, none⟩ = some (.slice H.A4 H.n4 H.c4) ∧ w'.cell? ⟨go, 0, none⟩ = some (.slice H1.A0 H1.n0 H1.c0) ∧ w'.cell? ⟨go, 1, none⟩ = some (.slice H1.A1 H1.n1 H1.c1) ∧ w'.cell? ⟨go, 2, none⟩ = some (.slice H1.A2 H1.n2 H1.c2) ∧ w'.cell? ⟨go, 3, none⟩ = some (.slice H1.A3 H1.n3 H1.c3) ∧ w'.cell? ⟨go, 4, none⟩ = some (.slice H1.A4 H1.n4 H1.c4) ∧ w'.cell? ⟨gw, 0, none⟩ = some (.slice H2.A0 H2.n0 H2.c0) ∧ w'.cell? ⟨gw, 1, none⟩ = some (.slice H2.A1 H2.n1 H2.c1) ∧ w'.cell? ⟨gw, 2, none⟩ = some (.slice H2.A2 H2.n2 H2.c2) ∧ w'.cell? ⟨gw, 3, none⟩ = some (.slice H2.A3 H2.n3 H2.c3) ∧ w'.cell? ⟨gw, 4, none⟩ = some (.slice H2.A4 H2.n4 H2.c4)) (by kernel_rfl) (by (try dsimp only); exact hSS _ Q) (fun hHeld => ?_)
      refine wpAnyH_take (i := 0) (v := ?_) rfl (by kernel_rfl) (by kernel_rfl) (by kernel_rfl) (fun _ _ _ h => h) (Or.inl ⟨by rfl, ?_⟩) (by assumption) ?_
      rotate_left 1
      · (intro w hSw; (try dsimp only at hSw); go_simp; try with_reducible rfl)
      simp only [Act.put, pA, pB, pC, pD, pE]
      refine wpAnyH_take (i := 1) (v := ?_) rfl (by kernel_rfl) (by kernel_rfl) (by kernel_rfl) (fun _ _ _ h => h) (Or.inl ⟨by rfl, ?_⟩) (by assumption) ?_
      rotate_left 1
      · (intro w hSw; (try dsimp only at hSw); go_simp; try with_reducible rfl)
      simp only [Act.put, pA, pB, pC, pD, pE, pF]
      refine wpAnyH_take (i := 2) (v := ?_) rfl (by kernel_rfl) (by kernel_rfl) (by kernel_rfl) (fun _ _ _ h => h) (Or.inl ⟨by rfl, ?_⟩) (by assumption) ?_
      rotate_left 1
      · (intro w hSw; (try dsimp only at hSw); go_simp; try with_reducible rfl)
      simp only [Act.put, pA, pB, pC, pD, pE, pF]
      refine wpAnyH_take (i := 3) (v := ?_) rfl (by kernel_rfl) (by kernel_rfl) (by kernel_rfl) (fun _ _ _ h => h) (Or.inl ⟨by rfl, ?_⟩) (by assumption) ?_
      rotate_left 1
      · (intro w hSw; (try dsimp only at hSw); go_simp; try with_reducible rfl)
      simp only [Act.put, pA, pB, pC, pD, pE, pF]
      refine wpAnyH_take (i := 4) (v := ?_) rfl (by kernel_rfl) (by kernel_rfl) (by kernel_rfl) (fun _ _ _ h => h) (Or.inl ⟨by rfl, ?_⟩) (by assumption) ?_
      rotate_left 1
      · (intro w hSw; (try dsimp only at hSw); go_simp; try with_reducible rfl)
      simp only [Act.put, pA, pB, pC, pD, pE, pF]
      refine wpAnyH_take (i := 5) (v := ?_) rfl (by kernel_rfl) (by kernel_rfl) (by kernel_rfl) (fun _ _ _ h => h) (Or.inl ⟨by rfl, ?_⟩) (by assumption) ?_
      rotate_left 1
      · (intro w hSw; (try dsimp only at hSw); go_simp; try with_reducible rfl)
      simp only [Act.put, pA, pB, pC, pD, pE, pF]
      refine wpAnyH_ready (rs := [6]) (by kernel_rfl) (by simp) ?_
      refine AllReadyH.cons rfl (fun K hK => ?_) AllReadyH.nil
      go_simp
      refine (vDesk_any H1 H2 q 0 0 _ (s1.next Q) (s2.next Q) F1).mono ?_
      rintro e x1 ⟨rfl, b⟩
      replace Q := bel_then Q b
      clear b
      go_wp2_with fail
      refine hK.out _ _ (by (try dsimp only); exact hSS _ Q) (fun hHeld => ?_)
      clear hK K
      refine wpAnyH_take (i := 7) (v := ?_) rfl (by kernel_rfl) (by kernel_rfl) (by kernel_rfl) (fun _ _ _ h => h) (Or.inl ⟨by rfl, ?_⟩) (by assumption) ?_
      rotate_left 1
      · (intro w hSw; (try dsimp only at hSw); go_simp; try with_reducible rfl)
      simp only [Act.put, pA, pB, pC, pD, pE, pF]
      refine wpAnyH_take (i := 8) (v := ?_) rfl (by kernel_rfl) (by kernel_rfl) (by kernel_rfl) (fun _ _ _ h => h) (Or.inl ⟨by rfl, ?_⟩) (by assumption) ?_
      rotate_left 1
      · (intro w hSw; (try dsimp only at hSw); go_simp; try with_reducible rfl)
      simp only [Act.put, pA, pB, pC, pD, pE, pF]
      refine wpAnyH_take (i := 9) (v := ?_) rfl (by kernel_rfl) (by kernel_rfl) (by kernel_rfl) (fun _ _ _ h => h) (Or.inl ⟨by rfl, ?_⟩) (by assumption) ?_
      rotate_left 1
      · (intro w hSw; (try dsimp only at hSw); go_simp; try with_reducible rfl)
      simp only [Act.put, pA, pB, pC, pD, pE, pF]
      refine wpAnyH_take (i := 10) (v := ?_) rfl (by kernel_rfl) (by kernel_rfl) (by kernel_rfl) (fun _ _ _ h => h) (Or.inl ⟨by rfl, ?_⟩) (by assumption) ?_
      rotate_left 1
      · (intro w hSw; (try dsimp only at hSw); go_simp; try with_reducible rfl)
      simp only [Act.put, pA, pB, pC, pD, pE, pF]
      refine wpAnyH_take (i := 12) (v := ?_) rfl (by kernel_rfl) (by kernel_rfl) (by kernel_rfl) (fun _ _ _ h => h) (Or.inl ⟨by rfl, ?_⟩) (by assumption) ?_
      rotate_left 1
      · (intro w hSw; (try dsimp only at hSw); go_simp; try with_reducible rfl)
      simp only [Act.put, pA, pB, pC, pD, pE, pF]
      refine wpAnyH_ready (rs := [11]) (by kernel_rfl) (by simp) ?_
      refine AllReadyH.cons rfl (fun K hK => ?_) AllReadyH.nil
      go_simp
      refine (IsDesk_any H d _ (sd.next Q) F0 pd).mono ?_
      rw [HVD.out]
      rintro e x2 ⟨rfl, b⟩
      replace Q := bel_then Q b
      clear b
      go_wp2_with fail
      refine hK.out _ _ (by (try dsimp only); exact hSS _ Q) (fun hHeld => ?_)
      clear hK K
      refine wpAnyH_ready (rs := [13]) (by kernel_rfl) (by simp) ?_
      refine AllReadyH.cons rfl (fun K hK => ?_) AllReadyH.nil
      go_simp
      refine (specIsDesk_any H d _ (sd.next Q) F0 pd).mono ?_
      rw [HVD.out]
      rintro e x3 ⟨rfl, b⟩
      replace Q := bel_then Q b
      clear b
      go_wp2_with fail
      refine hK.out _ _ (by (try dsimp only); exact hSS _ Q) (fun hHeld => ?_)
      clear hK K
      refine wpAnyH_take (i := 14) (v := ?_) rfl (by kernel_rfl) (by kernel_rfl) (by kernel_rfl) (fun _ _ _ h => h) (Or.inl ⟨by rfl, ?_⟩) (by assumption) ?_
      rotate_left 1
      · (intro w hSw; (try dsimp only at hSw); go_simp; try with_reducible rfl)
      simp only [Act.put, pA, pB, pC, pD, pE, pF]
      refine wpAnyH_take (i := 15) (v := ?_) rfl (by kernel_rfl) (by kernel_rfl) (by kernel_rfl) (fun _ _ _ h => h) (Or.inl ⟨by rfl, ?_⟩) (by assumption) ?_
      rotate_left 1
      · (intro w hSw; (try dsimp only at hSw); go_simp; try with_reducible rfl)
      simp only [Act.put, pA, pB, pC, pD, pE, pF]
      refine wpAnyH_take (i := 16) (v := ?_) rfl (by kernel_rfl) (by kernel_rfl) (by kernel_rfl) (fun _ _ _ h => h) (Or.inl ⟨by rfl, ?_⟩) (by assumption) ?_
      rotate_left 1
      · (intro w hSw; (try dsimp only at hSw); go_simp; try with_reducible rfl)
      simp only [Act.put, pA, pB, pC, pD, pE, pF]
      refine wpAnyH_take (i := 17) (v := ?_) rfl (by kernel_rfl) (by kernel_rfl) (by kernel_rfl) (fun _ _ _ h => h) (Or.inl ⟨by rfl, ?_⟩) (by assumption) ?_
      rotate_left 1
      · (intro w hSw; (try dsimp only at hSw); go_simp; try with_reducible rfl)
      simp only [Act.put, pA, pB, pC, pD, pE, pF]
      refine wpAnyH_take (i := 18) (v := ?_) rfl (by kernel_rfl) (by kernel_rfl) (by kernel_rfl) (fun _ _ _ h => h) (Or.inl ⟨by rfl, ?_⟩) (by assumption) ?_
      rotate_left 1
      · (intro w hSw; (try dsimp only at hSw); go_simp; try with_reducible rfl)
      simp only [Act.put, pA, pB, pC, pD, pE, pF]
      refine wpAnyH_take (i := 19) (v := undef) rfl (by kernel_rfl) (by kernel_rfl) (by kernel_rfl) (fun _ _ _ h => h) (Or.inr ⟨by rfl, rfl⟩) (by assumption) ?_
      simp only [Act.put, pA, pB, pC, pD, pE, pF]
      refine wpAnyH_take (i := 20) (v := undef) rfl (by kernel_rfl) (by kernel_rfl) (by kernel_rfl) (fun _ _ _ h => h) (Or.inr ⟨by rfl, rfl⟩) (by assumption) ?_
      simp only [Act.put, pA, pB, pC, pD, pE, pF]
      refine wpAnyH_take (i := 21) (v := undef) rfl (by kernel_rfl) (by kernel_rfl) (by kernel_rfl) (fun _ _ _ h => h) (Or.inr ⟨by rfl, rfl⟩) (by assumption) ?_
      simp only [Act.put, pA, pB, pC, pD, pE, pF]
      refine wpAnyH_take (i := 22) (v := ?_) rfl (by kernel_rfl) (by kernel_rfl) (by kernel_rfl) (fun _ _ _ h => h) (Or.inl ⟨by rfl, ?_⟩) (by assumption) ?_
      rotate_left 1
      · (intro w hSw; (try dsimp only at hSw); go_simp; try with_reducible rfl)
      simp only [Act.put, pA, pB, pC, pD, pE, pF]
      refine wpAnyH_take (i := 23) (v := ?_) rfl (by kernel_rfl) (by kernel_rfl) (by kernel_rfl) (fun _ _ _ h => h) (Or.inl ⟨by rfl, ?_⟩) (by assumption) ?_
      rotate_left 1
      · (intro w hSw; (try dsimp only at hSw); go_simp; try with_reducible rfl)
      simp only [Act.put, pA, pB, pC, pD, pE, pF]
      refine wpAnyH_done (by kernel_rfl) ?_ _
      go_wp2_with fail
      go_meet
      exact ⟨rfl, hC.next Q, sd.next Q, Gd.next Q, Gs.next Q, Go.next Q, s1.next Q, bel_then K Q⟩
    · have HG := Lib.hid (HST.out rfl).1
      have Q := (Quiet.one w6).below w6.heap.size
      refine wp_region_held_drew (S := fun w' => w'.cell? ⟨gd, 0, none⟩ = some (.slice H.A0 H.n0 H.c0) ∧ w'.cell? ⟨gd, 1, none⟩ = some (.slice H.A1 H.n1 H.c1) ∧ w'.cell? ⟨gd, 2, none⟩ = some (.slice H.A2 H.n2 H.c2) ∧ w'.cell? ⟨gd, 3, none⟩ = some (.slice H.A3 H.n3 H.c3) ∧ w'.cell? ⟨gd, 4, none⟩ = some (.slice H.A4 H.n4 H.c4) ∧ w'.cell? ⟨go, 0, none⟩ = some (.slice H1.A0 H1.n0 H1.c0) ∧ w'.cell? ⟨go, 1, none⟩ = some (.slice H1.A1 H1.n1 H1.c1) ∧ w'.cell? ⟨go, 2, none⟩ = some (.slice H1.A2 H1.n2 H1.c2) ∧ w'.cell? ⟨go, 3, none⟩ = some (.slice H1.A3 H1.n3 H1.c3) ∧ w'.cell? ⟨go, 4, none⟩ = some (.slice H1.A4 H1.n4 H1.c4) ∧ w'.cell? ⟨gw, 0, none⟩ = some (.slice H2.A0 H2.n0 H2.c0) ∧ w'.cell? ⟨gw, 1, none⟩ = some (.slice H2.A1 H2.n1 H2.c1) ∧ w'.cell? ⟨gw, 2, none⟩ = some (.slice H2.A2 H2.n2 H2.c2) ∧ w'.cell? ⟨gw, 3, none⟩ = some (.slice H2.A3 H2.n3 H2.c3) ∧ w'.cell? ⟨gw, 4, none⟩ = some (.slice H2.A4 H2.n4 H2.c4)) (by kernel_rfl) (by (try dsimp only); exact hSS _ Q) (fun hHeld => ?_)
      refine wpAnyH_take (i := 0) (v := ?_) rfl (by kernel_rfl) (by kernel_rfl) (by kernel_rfl) (fun _ _ _ h => h) (Or.inl ⟨by rfl, ?_⟩) (by assumption) ?_
      rotate_left 1
      · (intro w hSw; (try dsimp only at hSw); go_simp; try with_reducible rfl)
      simp only [Act.put, pA, pB, pC, pD, pE]
      refine wpAnyH_take (i := 1) (v := ?_) rfl (by kernel_rfl) (by kernel_rfl) (by kernel_rfl) (fun _ _ _ h => h) (Or.inl ⟨by rfl, ?_⟩) (by assumption) ?_
      rotate_left 1
      · (intro w hSw; (try dsimp only at hSw); go_simp; try with_reducible rfl)
      simp only [Act.put, pA, pB, pC, pD, pE, pF]
      refine wpAnyH_take (i := 2) (v := ?_) rfl (by kernel_rfl) (by kernel_rfl) (by kernel_rfl) (fun _ _ _ h => h) (Or.inl ⟨by rfl, ?_⟩) (by assumption) ?_
      rotate_left 1
      · (intro w hSw; (try dsimp only at hSw); go_simp; try with_reducible rfl)
      simp only [Act.put, pA, pB, pC, pD, pE, pF]
      refine wpAnyH_take (i := 3) (v := ?_) rfl (by kernel_rfl) (by kernel_rfl) (by kernel_rfl) (fun _ _ _ h => h) (Or.inl ⟨by rfl, ?_⟩) (by assumption) ?_
      rotate_left 1
      · (intro w hSw; (try dsimp only at hSw); go_simp; try with_reducible rfl)
      simp only [Act.put, pA, pB, pC, pD, pE, pF]
      refine wpAnyH_take (i := 4) (v := ?_) rfl (by kernel_rfl) (by kernel_rfl) (by kernel_rfl) (fun _ _ _ h => h) (Or.inl ⟨by rfl, ?_⟩) (by assumption) ?_
      rotate_left 1
      · (intro w hSw; (try dsimp only at hSw); go_simp; try with_reducible rfl)
      simp only [Act.put, pA, pB, pC, pD, pE, pF]
      refine wpAnyH_take (i := 5) (v := ?_) rfl (by kernel_rfl) (by kernel_rfl) (by kernel_rfl) (fun _ _ _ h => h) (Or.inl ⟨by rfl, ?_⟩) (by assumption) ?_
      rotate_left 1
      · (intro w hSw; (try dsimp only at hSw); go_simp; try with_reducible rfl)
      simp only [Act.put, pA, pB, pC, pD, pE, pF]
      refine wpAnyH_ready (rs := [6]) (by kernel_rfl) (by simp) ?_
      refine AllReadyH.cons rfl (fun K hK => ?_) AllReadyH.nil
      go_simp
      refine (vDesk_any H1 H2 q 0 0 _ (s1.next Q) (s2.next Q) F1).mono ?_
      rintro e x1 ⟨rfl, b⟩
      replace Q := bel_then Q b
      clear b
      go_wp2_with fail
      refine hK.out _ _ (by (try dsimp only); exact hSS _ Q) (fun hHeld => ?_)
      clear hK K
      refine wpAnyH_take (i := 7) (v := ?_) rfl (by kernel_rfl) (by kernel_rfl) (by kernel_rfl) (fun _ _ _ h => h) (Or.inl ⟨by rfl, ?_⟩) (by assumption) ?_
      rotate_left 1
      · (intro w hSw; (try dsimp only at hSw); go_simp; try with_reducible rfl)
      simp only [Act.put, pA, pB, pC, pD, pE, pF]
      refine wpAnyH_take (i := 8) (v := ?_) rfl (by kernel_rfl) (by kernel_rfl) (by kernel_rfl) (fun _ _ _ h => h) (Or.inl ⟨by rfl, ?_⟩) (by assumption) ?_
      rotate_left 1
      · (intro w hSw; (try dsimp only at hSw); go_simp; try with_reducible rfl)
      simp only [Act.put, pA, pB, pC, pD, pE, pF]
      refine wpAnyH_take (i := 9) (v := ?_) rfl (by kernel_rfl) (by kernel_rfl) (by kernel_rfl) (fun _ _ _ h => h) (Or.inl ⟨by rfl, ?_⟩) (by assumption) ?_
      rotate_left 1
      · (intro w hSw; (try dsimp only at hSw); go_simp; try with_reducible rfl)
      simp only [Act.put, pA, pB, pC, pD, pE, pF]
      refine wpAnyH_take (i := 10) (v := ?_) rfl (by kernel_rfl) (by kernel_rfl) (by kernel_rfl) (fun _ _ _ h => h) (Or.inl ⟨by rfl, ?_⟩) (by assumption) ?_
      rotate_left 1
      · (intro w hSw; (try dsimp only at hSw); go_simp; try with_reducible rfl)
      simp only [Act.put, pA, pB, pC, pD, pE, pF]
      refine wpAnyH_take (i := 12) (v := ?_) rfl (by kernel_rfl) (by kernel_rfl) (by kernel_rfl) (fun _ _ _ h => h) (Or.inl ⟨by rfl, ?_⟩) (by assumption) ?_
      rotate_left 1
      · (intro w hSw; (try dsimp only at hSw); go_simp; try with_reducible rfl)
      simp only [Act.put, pA, pB, pC, pD, pE, pF]
      refine wpAnyH_ready (rs := [11]) (by kernel_rfl) (by simp) ?_
      refine AllReadyH.cons rfl (fun K hK => ?_) AllReadyH.nil
      go_simp
      refine (IsDesk_any H d _ (sd.next Q) F0 pd).mono ?_
      rw [HVD.out]
      rintro e x2 ⟨rfl, b⟩
      replace Q := bel_then Q b
      clear b
      go_wp2_with fail
      refine hK.out _ _ (by (try dsimp only); exact hSS _ Q) (fun hHeld => ?_)
      clear hK K
      refine wpAnyH_ready (rs := [13]) (by kernel_rfl) (by simp) ?_
      refine AllReadyH.cons rfl (fun K hK => ?_) AllReadyH.nil
      go_simp
      refine (specIsDesk_any H d _ (sd.next Q) F0 pd).mono ?_
      rw [HVD.out]
      rintro e x3 ⟨rfl, b⟩
      replace Q := bel_then Q b
      clear b
      go_wp2_with fail
      refine hK.out _ _ (by (try dsimp only); exact hSS _ Q) (fun hHeld => ?_)
      clear hK K
      refine wpAnyH_take (i := 14) (v := ?_) rfl (by kernel_rfl) (by kernel_rfl) (by kernel_rfl) (fun _ _ _ h => h) (Or.inl ⟨by rfl, ?_⟩) (by assumption) ?_
      rotate_left 1
      · (intro w hSw; (try dsimp only at hSw); go_simp; try with_reducible rfl)
      simp only [Act.put, pA, pB, pC, pD, pE, pF]
      refine wpAnyH_take (i := 15) (v := ?_) rfl (by kernel_rfl) (by kernel_rfl) (by kernel_rfl) (fun _ _ _ h => h) (Or.inl ⟨by rfl, ?_⟩) (by assumption) ?_
      rotate_left 1
      · (intro w hSw; (try dsimp only at hSw); go_simp; try with_reducible rfl)
      simp only [Act.put, pA, pB, pC, pD, pE, pF]
      refine wpAnyH_take (i := 16) (v := ?_) rfl (by kernel_rfl) (by kernel_rfl) (by kernel_rfl) (fun _ _ _ h => h) (Or.inl ⟨by rfl, ?_⟩) (by assumption) ?_
      rotate_left 1
      · (intro w hSw; (try dsimp only at hSw); go_simp; try with_reducible rfl)
      simp only [Act.put, pA, pB, pC, pD, pE, pF]
      refine wpAnyH_take (i := 17) (v := ?_) rfl (by kernel_rfl) (by kernel_rfl) (by kernel_rfl) (fun _ _ _ h => h) (Or.inl ⟨by rfl, ?_⟩) (by assumption) ?_
      rotate_left 1
      · (intro w hSw; (try dsimp only at hSw); go_simp; try with_reducible rfl)
      simp only [Act.put, pA, pB, pC, pD, pE, pF]
      refine wpAnyH_take (i := 18) (v := ?_) rfl (by kernel_rfl) (by kernel_rfl) (by kernel_rfl) (fun _ _ _ h => h) (Or.inl ⟨by rfl, ?_⟩) (by assumption) ?_
      rotate_left 1
      · (intro w hSw; (try dsimp only at hSw); go_simp; try with_reducible rfl)
      simp only [Act.put, pA, pB, pC, pD, pE, pF]
      refine wpAnyH_take (i := 19) (v := ?_) rfl (by kernel_rfl) (by kernel_rfl) (by kernel_rfl) (fun _ _ _ h => h) (Or.inl ⟨by rfl, ?_⟩) (by assumption) ?_
      rotate_left 1
      · (intro w hSw; (try dsimp only at hSw); go_simp; try with_reducible rfl)
      simp only [Act.put, pA, pB, pC, pD, pE, pF]
      refine wpAnyH_ready (rs := [20]) (by kernel_rfl) (by simp) ?_
      refine AllReadyH.cons rfl (fun K hK => ?_) AllReadyH.nil
      go_simp
      refine (IsDesk_any H1 q _ (s1.next Q) F1 C1).mono ?_
      rw [HG.out]
      rintro e x4 ⟨rfl, b⟩
      replace Q := bel_then Q b
      clear b
      go_wp2_with fail
      refine hK.out _ _ (by (try dsimp only); exact hSS _ Q) (fun hHeld => ?_)
      clear hK K
      refine wpAnyH_take (i := 21) (v := ?_) rfl (by kernel_rfl) (by kernel_rfl) (by kernel_rfl) (fun _ _ _ h => h) (Or.inl ⟨by rfl, ?_⟩) (by assumption) ?_
      rotate_left 1
      · (intro w hSw; (try dsimp only at hSw); go_simp; try with_reducible rfl)
      simp only [Act.put, pA, pB, pC, pD, pE, pF]
      refine wpAnyH_take (i := 22) (v := ?_) rfl (by kernel_rfl) (by kernel_rfl) (by kernel_rfl) (fun _ _ _ h => h) (Or.inl ⟨by rfl, ?_⟩) (by assumption) ?_
      rotate_left 1
      · (intro w hSw; (try dsimp only at hSw); go_simp; try with_reducible rfl)
      simp only [Act.put, pA, pB, pC, pD, pE, pF]
      refine wpAnyH_take (i := 23) (v := ?_) rfl (by kernel_rfl) (by kernel_rfl) (by kernel_rfl) (fun _ _ _ h => h) (Or.inl ⟨by rfl, ?_⟩) (by assumption) ?_
      rotate_left 1
      · (intro w hSw; (try dsimp only at hSw); go_simp; try with_reducible rfl)
      simp only [Act.put, pA, pB, pC, pD, pE, pF]
      refine wpAnyH_done (by kernel_rfl) ?_ _
      go_wp2_with fail
      go_meet
      exact ⟨rfl, hC.next Q, sd.next Q, Gd.next Q, Gs.next Q, Go.next Q, s1.next Q, bel_then K Q⟩
  case rest =>
    clear hSS Gw s2 F0 hoo hvv
    obtain ⟨rfl, hC, sd, Gd, Gs, Go, s1, K⟩ := hcut
    obtain ⟨w7, rfl⟩ : ∃ w' : World, w' = wc := ⟨_, rfl⟩
    go_upto_if 75 with fail
    go_cut [] from 76 to 138 (fun wr => CodeIn wr A0 n0 ∧ Below w.heap.size w wr)
    case first =>
      cases o0
      · go_wp2_with fail
        go_meet
        exact ⟨hC, K⟩
      · have cGd := Gd.cell
        have cGo := Go.cell
        have cGs := Gs.cell
        have hn0 := fd.n2
        have hn1 := fd.n3
        have hn2 := fd.n4
        have hm0 := F1.n2
        have hm1 := F1.n3
        have hm2 := F1.n4
        have hsd : sumD d = H.n2 + H.n3 + H.n4 := by
          unfold sumD
          rw [sd.f2.count, sd.f3.count (by decide) (fun _ => rfl), sd.f4.count]
        have hsq : sumD q = H1.n2 + H1.n3 + H1.n4 := by
          unfold sumD
          rw [s1.f2.count, s1.f3.count (by decide) (fun _ => rfl), s1.f4.count]
        have HGQ := Lib.hid (HST.out rfl).1
        have hst := (HST.out rfl).2
        clear HST
        rw [hsd, hsq] at hst
        go_wp2_with fail
        go_quiet (fail)
        obtain ⟨sb, hsb⟩ : ∃ sb : Int, (H.n2 : Int) + (H.n3 : Int) + (H.n4 : Int) = sb := ⟨_, rfl⟩
        obtain ⟨sa, hsa⟩ : ∃ sa : Int, (H1.n2 : Int) + (H1.n3 : Int) + (H1.n4 : Int) = sa := ⟨_, rfl⟩
        rw [hsb, hsa]
        obtain ⟨kd, hkd⟩ : ∃ kd, s.kind = kd := ⟨_, rfl⟩
        rw [hkd] at hst cGs
        have hs1 : kd = 1 → sa = sb + 1 := fun h => by have := hst.1 h; omega
        have hs2 : kd = 4 → sa < sb := fun h => by have := hst.2.1 h; omega
        have hs3 : kd ≠ 1 → kd ≠ 4 → sa = sb := fun h h' => by have := hst.2.2 h h'; omega
        have hsb0 : 0 ≤ sb ∧ sb ≤ 100000 := by omega
        clear hst hsd hsq hsa hsb hkd cGd hm0 hm1 hm2 hn0 hn1 hn2
        try clear hsb
        clear sd fd pd Gd
        have Q : Quiet w7 (w7.drewN 1) := Quiet.mk _ _
        go_upto_block 0 with fail
        go_cut [] from 103 to 113 (fun wr => Blk wr go 28 [.slice H1.A0 H1.n0 H1.c0, .slice H1.A1 H1.n1 H1.c1, .slice H1.A2 H1.n2 H1.c2, .slice H1.A3 H1.n3 H1.c3, .slice H1.A4 H1.n4 H1.c4] ∧ SeesDesk wr 0 H1 q ∧ CodeIn wr A0 n0 ∧ Below w.heap.size w wr)
        case first =>
          by_cases k1 : kd = 1
          · subst k1
            have hc1 := hs1 rfl
            subst hc1
            have hw1 : IntKind.i64.wrap (sb + 1) = sb + 1 := IntWalk.i64_in _ (by omega)
            go_wp2_with fail
            go_meet
            exact ⟨Go.quiet (Quiet.mk _ _), s1.next ((Quiet.mk _ _).below _), hC.next ((Quiet.mk _ _).below _), bel_drewN K _⟩
          have e1 : (kd == 1) = false := beq_eq_false_iff_ne.2 k1
          by_cases k4 : kd = 4
          · subst k4
            have hc1 : ¬ sb ≤ sa := by have := hs2 rfl; omega
            go_wp2_with fail
            go_meet
            exact ⟨Go.quiet (Quiet.mk _ _), s1.next ((Quiet.mk _ _).below _), hC.next ((Quiet.mk _ _).below _), bel_drewN K _⟩
          have e4 : (kd == 4) = false := beq_eq_false_iff_ne.2 k4
          have hc1 := hs3 k1 k4
          subst hc1
          go_wp2_with fail
          go_meet
          exact ⟨Go.quiet (Quiet.mk _ _), s1.next ((Quiet.mk _ _).below _), hC.next ((Quiet.mk _ _).below _), bel_drewN K _⟩
        case rest =>
          clear Go s1 hC K Gs cGs
          obtain ⟨Go, s1, hC, K⟩ := hcut
          obtain ⟨w8, rfl⟩ : ∃ w' : World, w' = wc := ⟨_, rfl⟩
          clear Q
          have cGo := Go.cell
          go_wp2_with fail
          have hg := HGQ.out
          have HAP := Lib.hid (fun (k i : Nat) (hki : k < i) (hi : i < q.done.length) => done_apart hg hki hi)
          have hl3 := s1.f3.count (by decide) (fun _ => rfl)
          have HL3 := Lib.hid hl3
          clear hg hl3 cGo hs1 hs2 hs3
          have hb1 := F1.n3
          go_loopw [11] (fun iv wr => ∃ i : Nat, i ≤ H1.n3 ∧ iv = .int .i64 (i : Int) ∧ Blk wr go 28 [.slice H1.A0 H1.n0 H1.c0, .slice H1.A1 H1.n1 H1.c1, .slice H1.A2 H1.n2 H1.c2, .slice H1.A3 H1.n3 H1.c3, .slice H1.A4 H1.n4 H1.c4] ∧ SeesDesk wr 0 H1 q ∧ CodeIn wr A0 n0 ∧ Below w.heap.size w wr) (fun iv _ => H1.n3 - (intOf iv).toNat)
          case atStart => exact ⟨0, Nat.zero_le _, rfl, Go, s1, hC, K⟩
          case round =>
            clear Go s1 hC K
            obtain ⟨i, hi, rfl, Go, s1, hC, K⟩ := hrel
            have cGo := Go.cell
            by_cases hlt : i < H1.n3
            · have hlti : (i : Int) < (H1.n3 : Int) := by omega
              go_wp2_with fail
              go_loopw [12] (fun kv wr => ∃ k : Nat, k ≤ i ∧ kv = .int .i64 (k : Int) ∧ Blk wr go 28 [.slice H1.A0 H1.n0 H1.c0, .slice H1.A1 H1.n1 H1.c1, .slice H1.A2 H1.n2 H1.c2, .slice H1.A3 H1.n3 H1.c3, .slice H1.A4 H1.n4 H1.c4] ∧ SeesDesk wr 0 H1 q ∧ CodeIn wr A0 n0 ∧ Below w.heap.size w wr) (fun kv _ => i - (intOf kv).toNat)
              case atStart => exact ⟨0, Nat.zero_le _, rfl, Go, s1, hC, K⟩
              case round =>
                clear Go s1 hC K cGo
                obtain ⟨k, hki, rfl, Go, s1, hC, K⟩ := hrel
                have cGo := Go.cell
                by_cases hlk : k < i
                · have hlki : (k : Int) < (i : Int) := by omega
                  have hkn : (k : Int) < (H1.n3 : Int) := by omega
                  have hk0 : k < H1.n3 := by omega
                  obtain ⟨b1, o1, e1, hx1, y1, -, -⟩ := s1.f3.elem3 (fun _ => rfl) hk0
                  obtain ⟨b2, o2, e2, hx2, y2, -, -⟩ := s1.f3.elem3 (fun _ => rfl) hlt
                  have e3 : b2 = b1 ∧ o2 = o1 := by
                    rw [e1] at e2
                    injection e2 with e2
                    injection e2 with e2 e3
                    exact ⟨e2.symm, e3.symm⟩
                  obtain ⟨rfl, rfl⟩ := e3
                  clear e2
                  have hne := HAP.out k i hlk (by rw [HL3.out]; exact hlt)
                  obtain ⟨v1, hv1⟩ : ∃ v, q.done[k].number = v := ⟨_, rfl⟩
                  obtain ⟨v2, hv2⟩ : ∃ v, q.done[i].number = v := ⟨_, rfl⟩
                  rw [hv1] at y1 hne
                  rw [hv2] at y2 hne
                  have hnb : (v1 == v2) = false := beq_eq_false_iff_ne.2 hne
                  clear hv1 hv2 hne
                  go_wp2_with fail
                  go_quiet (fail)
                  go_wp2_with fail
                  go_roundw
                  case rel => exact ⟨k + 1, by omega, by go_num, Go.quiet (Quiet.mk _ _), s1.next ((Quiet.mk _ _).below _), hC.next ((Quiet.mk _ _).below _), bel_drewN K _⟩
                  case measure => simp [intOf]; omega
                · have hlki : ¬ (k : Int) < (i : Int) := by omega
                  go_wp2_with fail
                  go_roundw
                  case rel => exact ⟨i + 1, by omega, by go_num, Go, s1, hC, K⟩
                  case measure => simp [intOf]; omega
            · have hlti : ¬ (i : Int) < (H1.n3 : Int) := by omega
              go_wp2_with fail
              go_meet
              exact ⟨hC, K⟩
    case rest =>
      clear sd Gd Gs Go s1 hC K
      obtain ⟨hC, K⟩ := hcut
      obtain ⟨w9, rfl⟩ : ∃ w' : World, w' = wc := ⟨_, rfl⟩
      clear HST F1 C1 hk fd pd
      go_wp2_with fail
      refine (DrawRunDesk_any A0 n0 c0 w9 hC (by omega)).mono ?_
      rintro e x1 ⟨H, d, A, k, c, ss, rfl, sd, fd, pd, xs, hk, hcn, b⟩
      replace hC := hC.next b
      replace K := bel_then K b
      clear b
      replace sd := sd.less (Nat.zero_le _)
      replace xs := xs.less (Nat.zero_le _)
      have U : Below x1.heap.size x1 (x1.alloc (.cells #[.slice H.A0 H.n0 H.c0, .slice H.A1 H.n1 H.c1, .slice H.A2 H.n2 H.c2, .slice H.A3 H.n3 H.c3, .slice H.A4 H.n4 H.c4] 28)) := (Below.refl _ _).alloc (Nat.le_refl _) _
      have Gd : Blk (x1.alloc (.cells #[.slice H.A0 H.n0 H.c0, .slice H.A1 H.n1 H.c1, .slice H.A2 H.n2 H.c2, .slice H.A3 H.n3 H.c3, .slice H.A4 H.n4 H.c4] 28)) x1.heap.size 28 [.slice H.A0 H.n0 H.c0, .slice H.A1 H.n1 H.c1, .slice H.A2 H.n2 H.c2, .slice H.A3 H.n3 H.c3, .slice H.A4 H.n4 H.c4] := Blk.at_ rfl
      replace hC := hC.next U
      replace sd := sd.next U
      replace xs := xs.next U
      replace K := bel_then K U
      clear U
      go_upto_region 28 with fail
      generalize (x1.alloc (.cells #[.slice H.A0 H.n0 H.c0, .slice H.A1 H.n1 H.c1, .slice H.A2 H.n2 H.c2, .slice H.A3 H.n3 H.c3, .slice H.A4 H.n4 H.c4] 28)) = x2 at *
      generalize x1.heap.size = gd at *
      have F0 := fd.mono (show 2000 ≤ 1048576 by decide)
      have hi : ∀ x ∈ ss, x.cnt ≤ 1048576 := fun x hx => Nat.le_trans (hcn x hx) (by decide)
      have cGd := Gd.cell
      go_wp2_with fail
      refine (RunDesk_any H d A k c ss x2 sd F0 pd xs (by omega) hi).mono ?_
      rintro e x3 ⟨H1, rfl, M1, F1, C1, b⟩
      clear cGd
      replace hC := hC.next b
      replace sd := sd.next b
      replace xs := xs.next b
      replace Gd := Gd.next b
      replace K := bel_then K b
      clear b
      have s1 := M1.sees
      clear M1
      have U : Below x3.heap.size x3 (x3.alloc (.cells #[.slice H1.A0 H1.n0 H1.c0, .slice H1.A1 H1.n1 H1.c1, .slice H1.A2 H1.n2 H1.c2, .slice H1.A3 H1.n3 H1.c3, .slice H1.A4 H1.n4 H1.c4] 28)) := (Below.refl _ _).alloc (Nat.le_refl _) _
      have Go : Blk (x3.alloc (.cells #[.slice H1.A0 H1.n0 H1.c0, .slice H1.A1 H1.n1 H1.c1, .slice H1.A2 H1.n2 H1.c2, .slice H1.A3 H1.n3 H1.c3, .slice H1.A4 H1.n4 H1.c4] 28)) x3.heap.size 28 [.slice H1.A0 H1.n0 H1.c0, .slice H1.A1 H1.n1 H1.c1, .slice H1.A2 H1.n2 H1.c2, .slice H1.A3 H1.n3 H1.c3, .slice H1.A4 H1.n4 H1.c4] := Blk.at_ rfl
      replace hC := hC.next U
      replace sd := sd.next U
      replace xs := xs.next U
      replace Gd := Gd.next U
      replace s1 := s1.next U
      replace K := bel_then K U
      clear U
      go_upto_region 29 with fail
      generalize (x3.alloc (.cells #[.slice H1.A0 H1.n0 H1.c0, .slice H1.A1 H1.n1 H1.c1, .slice H1.A2 H1.n2 H1.c2, .slice H1.A3 H1.n3 H1.c3, .slice H1.A4 H1.n4 H1.c4] 28)) = x4 at *
      generalize x3.heap.size = go at *
      have cGd := Gd.cell
      go_wp2_with fail
      refine (specRunDesk_any H d A k c ss x4 sd F0 pd xs (by omega) hi).mono ?_
      rintro e x5 ⟨H2, rfl, M2, -, -, b⟩
      clear cGd
      replace hC := hC.next b
      replace sd := sd.next b
      replace xs := xs.next b
      replace Gd := Gd.next b
      replace Go := Go.next b
      replace s1 := s1.next b
      replace K := bel_then K b
      clear b
      have s2 := M2.sees
      clear M2
      have U : Below x5.heap.size x5 (x5.alloc (.cells #[.slice H2.A0 H2.n0 H2.c0, .slice H2.A1 H2.n1 H2.c1, .slice H2.A2 H2.n2 H2.c2, .slice H2.A3 H2.n3 H2.c3, .slice H2.A4 H2.n4 H2.c4] 28)) := (Below.refl _ _).alloc (Nat.le_refl _) _
      have Gw : Blk (x5.alloc (.cells #[.slice H2.A0 H2.n0 H2.c0, .slice H2.A1 H2.n1 H2.c1, .slice H2.A2 H2.n2 H2.c2, .slice H2.A3 H2.n3 H2.c3, .slice H2.A4 H2.n4 H2.c4] 28)) x5.heap.size 28 [.slice H2.A0 H2.n0 H2.c0, .slice H2.A1 H2.n1 H2.c1, .slice H2.A2 H2.n2 H2.c2, .slice H2.A3 H2.n3 H2.c3, .slice H2.A4 H2.n4 H2.c4] := Blk.at_ rfl
      replace hC := hC.next U
      replace sd := sd.next U
      replace xs := xs.next U
      replace Gd := Gd.next U
      replace Go := Go.next U
      replace s1 := s1.next U
      replace s2 := s2.next U
      replace K := bel_then K U
      clear U
      go_upto_region 30 with fail
      generalize (x5.alloc (.cells #[.slice H2.A0 H2.n0 H2.c0, .slice H2.A1 H2.n1 H2.c1, .slice H2.A2 H2.n2 H2.c2, .slice H2.A3 H2.n3 H2.c3, .slice H2.A4 H2.n4 H2.c4] 28)) = x6 at *
      generalize x5.heap.size = gw at *
      have HR := Lib.hid (fun (h : (runP d ss).1.isSome = true) => show deskB d = true ∧ ss.length ≤ 30 ∧ (runP d ss).1.getD deskZ = (runK d ss ss.length).1 ∧ (runP d ss).2 = ((runK d ss ss.length).2 : Int) from run_facts h)
      obtain ⟨q, hq⟩ : ∃ q, (runP d ss).1.getD deskZ = q := ⟨_, rfl⟩
      obtain ⟨o0, ho0⟩ : ∃ o0, (runP d ss).1.isSome = o0 := ⟨_, rfl⟩
      obtain ⟨m0, hm0⟩ : ∃ m0, (runP d ss).2 = m0 := ⟨_, rfl⟩
      rw [hq] at s1 s2 F1 HR
      rw [ho0, hm0] at HR
      try rw [ho0]
      try rw [hm0]
      clear hq ho0 hm0
      have hoo : (o0 != o0) = false := bne_self_eq_false o0
      have hmm : (m0 != m0) = false := bne_self_eq_false m0
      have cGo := Go.cell
      have cGw := Gw.cell
      go_wp2_with fail
      refine (vDesk_any H1 H2 q 0 0 _ s1 s2 F1).mono ?_
      rintro e x7 ⟨rfl, b⟩
      clear cGo cGw s2 Gw hoo hmm
      replace hC := hC.next b
      replace sd := sd.next b
      replace xs := xs.next b
      replace Gd := Gd.next b
      replace Go := Go.next b
      replace s1 := s1.next b
      replace K := bel_then K b
      clear b
      go_upto_if 172 with fail
      go_cut [] from 173 to 201 (fun wr => CodeIn wr A0 n0 ∧ Below w.heap.size w wr)
      case first =>
        cases o0
        · go_wp2_with fail
          go_meet
          exact ⟨hC, K⟩
        · obtain ⟨g1, g2, g3, g4⟩ := HR.out rfl
          have hkn := xs.count
          have HG := Lib.hid g1
          have HKN := Lib.hid hkn
          have HG3 := Lib.hid g3
          have HG4 := Lib.hid g4
          have hk30 : k ≤ 30 := by omega
          clear g1 g2 g3 g4 hkn HR
          have cGd := Gd.cell
          have U : Below x7.heap.size x7 (x7.alloc (.cells #[.slice H.A0 H.n0 H.c0, .slice H.A1 H.n1 H.c1, .slice H.A2 H.n2 H.c2, .slice H.A3 H.n3 H.c3, .slice H.A4 H.n4 H.c4] 28)) := (Below.refl _ _).alloc (Nat.le_refl _) _
          have Bn : Blk (x7.alloc (.cells #[.slice H.A0 H.n0 H.c0, .slice H.A1 H.n1 H.c1, .slice H.A2 H.n2 H.c2, .slice H.A3 H.n3 H.c3, .slice H.A4 H.n4 H.c4] 28)) x7.heap.size 28 [.slice H.A0 H.n0 H.c0, .slice H.A1 H.n1 H.c1, .slice H.A2 H.n2 H.c2, .slice H.A3 H.n3 H.c3, .slice H.A4 H.n4 H.c4] := Blk.at_ rfl
          have sdn := sd.next U
          go_upto_block 5 with fail
          generalize (x7.alloc (.cells #[.slice H.A0 H.n0 H.c0, .slice H.A1 H.n1 H.c1, .slice H.A2 H.n2 H.c2, .slice H.A3 H.n3 H.c3, .slice H.A4 H.n4 H.c4] 28)) = x8 at *
          generalize hgn : x7.heap.size = gn at *
          have HGN := Lib.hid hgn
          clear hgn cGd
          go_wp2_with fail
          go_loopw [22, 23] (fun cv iv wr => ∃ (i : Nat) (T : DeskH), i ≤ k ∧ cv = .int .i64 ((runK d ss i).2 : Int) ∧ iv = .int .i64 (i : Int) ∧ (Blk wr gn 28 [.slice T.A0 T.n0 T.c0, .slice T.A1 T.n1 T.c1, .slice T.A2 T.n2 T.c2, .slice T.A3 T.n3 T.c3, .slice T.A4 T.n4 T.c4] ∧ SeesDesk wr 0 T (runK d ss i).1 ∧ DeskFit 1048576 T (runK d ss i).1 ∧ T.n3 ≤ T.c3) ∧ Below x7.heap.size x7 wr) (fun _ iv _ => k - (intOf iv).toNat)
          case atStart => exact ⟨0, H, Nat.zero_le _, rfl, rfl, ⟨Bn, sdn, F0, pd⟩, by rw [HGN.out]; exact U⟩
          case round =>
            clear Bn sdn U
            obtain ⟨i, T, hik, rfl, rfl, ⟨Bn, st, Ft, Ct⟩, KK⟩ := hrel
            have xsr := xs.next KK
            have hgz := HGN.out
            by_cases hlt : i < k
            · have hlti : (i : Int) < (k : Int) := by omega
              obtain ⟨b2, off2, PB, pm, pc, rfl, hx2, y0, y1, y2, y3, y4, y5, xi⟩ := SeesDeskStep.elem xsr hlt
              obtain ⟨t, hti⟩ : ∃ t, (runK d ss i).1 = t := ⟨_, rfl⟩
              have hcb := runK_count d ss i
              have htg : deskB t = true := by rw [← hti]; exact runK_good HG.out i
              obtain ⟨cn, hcnt⟩ : ∃ cn, (runK d ss i).2 = cn := ⟨_, rfl⟩
              obtain ⟨sti, hsti⟩ : ∃ s, ss[i] = s := ⟨_, rfl⟩
              have hmem : sti ∈ ss := by rw [← hsti]; exact List.getElem_mem hx2
              have hpm : pm ≤ 12 := by
                have h1 := hcn sti hmem
                rw [hsti] at xi
                have h2 := xi.count (by decide) (fun _ => rfl)
                unfold DeskStep.cnt at h1
                omega
              rw [hsti] at y0 y1 y2 y3 y4 xi
              rw [hti] at st Ft
              rw [hcnt] at hcb
              rw [hcnt]
              have zb := World.block_lt_of_cell? wr _ y0
              have zn := Bn.lt
              have hSS : ∀ w' : World, Below wr.heap.size wr w' → w'.cell? ⟨gn, 0, none⟩ = some (.slice T.A0 T.n0 T.c0) ∧ w'.cell? ⟨gn, 1, none⟩ = some (.slice T.A1 T.n1 T.c1) ∧ w'.cell? ⟨gn, 2, none⟩ = some (.slice T.A2 T.n2 T.c2) ∧ w'.cell? ⟨gn, 3, none⟩ = some (.slice T.A3 T.n3 T.c3) ∧ w'.cell? ⟨gn, 4, none⟩ = some (.slice T.A4 T.n4 T.c4) ∧ w'.cell? ⟨b2, off2 + i * 6, none⟩ = some (.int .i64 sti.kind) ∧ w'.cell? ⟨b2, off2 + i * 6 + 1, none⟩ = some (.int .i64 sti.number) ∧ w'.cell? ⟨b2, off2 + i * 6 + 2, none⟩ = some (.int .i64 sti.cnumber) ∧ w'.cell? ⟨b2, off2 + i * 6 + 3, none⟩ = some (.int .i64 sti.cstart) ∧ w'.cell? ⟨b2, off2 + i * 6 + 4, none⟩ = some (.int .i64 sti.cfinish) ∧ w'.cell? ⟨b2, off2 + i * 6 + 5, none⟩ = some (.slice PB pm pc) := fun w' hb => ⟨(Bn.next hb).cell 0, (Bn.next hb).cell 1, (Bn.next hb).cell 2, (Bn.next hb).cell 3, (Bn.next hb).cell 4, (hb.cell (p := ⟨b2, off2 + i * 6, none⟩) zb).trans y0, (hb.cell (p := ⟨b2, off2 + i * 6 + 1, none⟩) zb).trans y1, (hb.cell (p := ⟨b2, off2 + i * 6 + 2, none⟩) zb).trans y2, (hb.cell (p := ⟨b2, off2 + i * 6 + 3, none⟩) zb).trans y3, (hb.cell (p := ⟨b2, off2 + i * 6 + 4, none⟩) zb).trans y4, (hb.cell (p := ⟨b2, off2 + i * 6 + 5, none⟩) zb).trans y5⟩
              clear hmem xsr
              go_upto_region 37 with fail
              obtain ⟨wi0, rfl⟩ : ∃ w' : World, w' = wr := ⟨_, rfl⟩
              have D := (Quiet.one wi0).below wi0.heap.size
              refine wp_region_held_drew (S := fun w' => w'.cell? ⟨gn, 0, none⟩ = some (.slice T.A0 T.n0 T.c0) ∧ w'.cell? ⟨gn, 1, none⟩ = some (.slice T.A1 T.n1 T.c1) ∧ w'.cell? ⟨gn, 2, none⟩ = some (.slice T.A2 T.n2 T.c2) ∧ w'.cell? ⟨gn, 3, none⟩ = some (.slice T.A3 T.n3 T.c3) ∧ w'.cell? ⟨gn, 4, none⟩ = some (.slice T.A4 T.n4 T.c4) ∧ w'.cell? ⟨b2, off2 + i * 6, none⟩ = some (.int .i64 sti.kind) ∧ w'.cell? ⟨b2, off2 + i * 6 + 1, none⟩ = some (.int .i64 sti.number) ∧ w'.cell? ⟨b2, off2 + i * 6 + 2, none⟩ = some (.int .i64 sti.cnumber) ∧ w'.cell? ⟨b2, off2 + i * 6 + 3, none⟩ = some (.int .i64 sti.cstart) ∧ w'.cell? ⟨b2, off2 + i * 6 + 4, none⟩ = some (.int .i64 sti.cfinish) ∧ w'.cell? ⟨b2, off2 + i * 6 + 5, none⟩ = some (.slice PB pm pc)) (by kernel_rfl) (hSS _ D) (fun hHeld => ?_)
              try replace hc := hc.next ((Quiet.one wi0).below _)
              generalize wi0.drew = wi1 at *
              refine wpAnyH_take (i := 0) (v := ?_) rfl (by kernel_rfl) (by kernel_rfl) (by kernel_rfl) (fun _ _ _ h => h) (Or.inl ⟨by rfl, ?_⟩) (by assumption) ?_
              rotate_left 1
              · (intro w hSw; (try dsimp only at hSw); go_simp; try with_reducible rfl)
              (try simp only [Act.put, pA, pB, pC, pD, pE])
              refine wpAnyH_take (i := 1) (v := ?_) rfl (by kernel_rfl) (by kernel_rfl) (by kernel_rfl) (fun _ _ _ h => h) (Or.inl ⟨by rfl, ?_⟩) (by assumption) ?_
              rotate_left 1
              · (intro w hSw; (try dsimp only at hSw); go_simp; try with_reducible rfl)
              (try simp only [Act.put, pA, pB, pC, pD, pE, pF])
              refine wpAnyH_take (i := 2) (v := ?_) rfl (by kernel_rfl) (by kernel_rfl) (by kernel_rfl) (fun _ _ _ h => h) (Or.inl ⟨by rfl, ?_⟩) (by assumption) ?_
              rotate_left 1
              · (intro w hSw; (try dsimp only at hSw); go_simp; try with_reducible rfl)
              (try simp only [Act.put, pA, pB, pC, pD, pE, pF])
              refine wpAnyH_take (i := 3) (v := ?_) rfl (by kernel_rfl) (by kernel_rfl) (by kernel_rfl) (fun _ _ _ h => h) (Or.inl ⟨by rfl, ?_⟩) (by assumption) ?_
              rotate_left 1
              · (intro w hSw; (try dsimp only at hSw); go_simp; try with_reducible rfl)
              (try simp only [Act.put, pA, pB, pC, pD, pE, pF])
              refine wpAnyH_take (i := 4) (v := ?_) rfl (by kernel_rfl) (by kernel_rfl) (by kernel_rfl) (fun _ _ _ h => h) (Or.inl ⟨by rfl, ?_⟩) (by assumption) ?_
              rotate_left 1
              · (intro w hSw; (try dsimp only at hSw); go_simp; try with_reducible rfl)
              (try simp only [Act.put, pA, pB, pC, pD, pE, pF])
              refine wpAnyH_ready (rs := [5, 9]) (by kernel_rfl) (by simp) ?_
              refine AllReadyH.cons rfl (fun K hK => ?_) ?_
              · go_simp
                refine (StepDesk_any T t PB pm pc sti wi1 (st.next D) Ft Ct (xi.next D) (by omega)).mono ?_
                rintro e wi2 ⟨H3, rfl, M3, F3, C3, b3⟩
                have zD := D.size
                try have M4 : MineDesk wi2 (fun b => b ≠ gx ∧ b ≠ gn) H3 ((stepM t sti).getD deskZ) := M3.wide (fun b hb => ⟨by have := hb.1; have := RB.lt; omega, by have := hb.1; omega⟩)
                have M5 : MineDesk wi2 (fun b => b < wi2.heap.size ∧ b ≠ gn) H3 ((stepM t sti).getD deskZ) := M3.wide (fun b hb => ⟨hb.2, by have := hb.1; omega⟩)
                replace D := bel_then D b3
                try replace RB := RB.next b3
                clear b3 M3 zD
                go_wp2_with fail
                refine hK.out _ _ (hSS _ D) (fun hHeld => ?_)
                clear hK K
                (try simp only [Act.put, pA, pB, pC, pD, pE, pF])
                refine wpAnyH_take (i := 6) (v := ?_) rfl (by kernel_rfl) (by kernel_rfl) (by kernel_rfl) (fun _ _ _ h => h) (Or.inl ⟨by rfl, ?_⟩) (by assumption) ?_
                rotate_left 1
                · (intro w hSw; (try dsimp only at hSw); go_simp; try with_reducible rfl)
                (try simp only [Act.put, pA, pB, pC, pD, pE, pF])
                refine wpAnyH_take (i := 7) (v := ?_) rfl (by kernel_rfl) (by kernel_rfl) (by kernel_rfl) (fun _ _ _ h => h) (Or.inl ⟨by rfl, ?_⟩) (by assumption) ?_
                rotate_left 1
                · (intro w hSw; (try dsimp only at hSw); go_simp; try with_reducible rfl)
                (try simp only [Act.put, pA, pB, pC, pD, pE, pF])
                refine wpAnyH_take (i := 8) (v := ?_) rfl (by kernel_rfl) (by kernel_rfl) (by kernel_rfl) (fun _ _ _ h => h) (Or.inl ⟨by rfl, ?_⟩) (by assumption) ?_
                rotate_left 1
                · (intro w hSw; (try dsimp only at hSw); go_simp; try with_reducible rfl)
                (try simp only [Act.put, pA, pB, pC, pD, pE, pF])
                refine wpAnyH_ready (rs := [9]) (by kernel_rfl) (by simp) ?_
                refine AllReadyH.cons rfl (fun K hK => ?_) AllReadyH.nil
                go_simp
                have U := (Below.refl wi2.heap.size wi2).alloc (Nat.le_refl _) (.cells #[.slice none 0 0, .slice none 0 0, .slice none 0 0, .slice none 0 0, .slice none 0 0] 28)
                have RB : Blk (wi2.alloc (.cells #[.slice none 0 0, .slice none 0 0, .slice none 0 0, .slice none 0 0, .slice none 0 0] 28)) wi2.heap.size 28 [.slice none 0 0, .slice none 0 0, .slice none 0 0, .slice none 0 0, .slice none 0 0] := Blk.at_ rfl
                have hgx : wi0.heap.size ≤ wi2.heap.size := D.size
                try have M4 : MineDesk (wi2.alloc (.cells #[.slice none 0 0, .slice none 0 0, .slice none 0 0, .slice none 0 0, .slice none 0 0] 28)) (fun b => b ≠ wi2.heap.size ∧ b ≠ gn) H3 ((stepM t sti).getD deskZ) := (M5.next U).wide (fun b hb => ⟨Nat.ne_of_lt hb.1, hb.2⟩)
                replace D := bel_then D U
                clear U
                refine hK.out _ _ (hSS _ D) (fun hHeld => ?_)
                clear hK K
                (try simp only [Act.put, pA, pB, pC, pD, pE, pF])
                generalize wi2.alloc (.cells #[.slice none 0 0, .slice none 0 0, .slice none 0 0, .slice none 0 0, .slice none 0 0] 28) = wi3 at *
                generalize wi2.heap.size = gx at *
                refine wpAnyH_ready (rs := [10]) (by kernel_rfl) (by simp) ?_
                refine AllReadyH.cons rfl (fun K hK => ?_) AllReadyH.nil
                go_simp
                have cr := RB.cell
                have fr := RB.frozen
                go_simp
                have ho : Only (fun b => b = gx) wi3 (((((wi3.setCell ⟨gx, 0, none⟩ (.slice H3.A0 H3.n0 H3.c0)).setCell ⟨gx, 1, none⟩ (.slice H3.A1 H3.n1 H3.c1)).setCell ⟨gx, 2, none⟩ (.slice H3.A2 H3.n2 H3.c2)).setCell ⟨gx, 3, none⟩ (.slice H3.A3 H3.n3 H3.c3)).setCell ⟨gx, 4, none⟩ (.slice H3.A4 H3.n4 H3.c4)) := only_set (only_set (only_set (only_set (only_set (Only.refl _ _) 0 _) 1 _) 2 _) 3 _) 4 _
                have RN : Blk (((((wi3.setCell ⟨gx, 0, none⟩ (.slice H3.A0 H3.n0 H3.c0)).setCell ⟨gx, 1, none⟩ (.slice H3.A1 H3.n1 H3.c1)).setCell ⟨gx, 2, none⟩ (.slice H3.A2 H3.n2 H3.c2)).setCell ⟨gx, 3, none⟩ (.slice H3.A3 H3.n3 H3.c3)).setCell ⟨gx, 4, none⟩ (.slice H3.A4 H3.n4 H3.c4)) gx 28 [.slice H3.A0 H3.n0 H3.c0, .slice H3.A1 H3.n1 H3.c1, .slice H3.A2 H3.n2 H3.c2, .slice H3.A3 H3.n3 H3.c3, .slice H3.A4 H3.n4 H3.c4] := ((((RB.set_ 0 _).set_ 1 _).set_ 2 _).set_ 3 _).set_ 4 _
                replace M4 : MineDesk (((((wi3.setCell ⟨gx, 0, none⟩ (.slice H3.A0 H3.n0 H3.c0)).setCell ⟨gx, 1, none⟩ (.slice H3.A1 H3.n1 H3.c1)).setCell ⟨gx, 2, none⟩ (.slice H3.A2 H3.n2 H3.c2)).setCell ⟨gx, 3, none⟩ (.slice H3.A3 H3.n3 H3.c3)).setCell ⟨gx, 4, none⟩ (.slice H3.A4 H3.n4 H3.c4)) (fun b => b ≠ gx ∧ b ≠ gn) H3 ((stepM t sti).getD deskZ) := M4.only ho (fun b h1 (h2 : b = gx) => h1.1 h2)
                replace D := D.trans (ho.below (fun b (hb : b = gx) => by omega) D.size)
                clear cr fr RB ho M5
                refine hK.out _ (((((wi3.setCell ⟨gx, 0, none⟩ (.slice H3.A0 H3.n0 H3.c0)).setCell ⟨gx, 1, none⟩ (.slice H3.A1 H3.n1 H3.c1)).setCell ⟨gx, 2, none⟩ (.slice H3.A2 H3.n2 H3.c2)).setCell ⟨gx, 3, none⟩ (.slice H3.A3 H3.n3 H3.c3)).setCell ⟨gx, 4, none⟩ (.slice H3.A4 H3.n4 H3.c4)) (hSS _ D) (fun hHeld => ?_)
                clear hK K
                (try simp only [Act.put, pA, pB, pC, pD, pE, pF])
                generalize (((((wi3.setCell ⟨gx, 0, none⟩ (.slice H3.A0 H3.n0 H3.c0)).setCell ⟨gx, 1, none⟩ (.slice H3.A1 H3.n1 H3.c1)).setCell ⟨gx, 2, none⟩ (.slice H3.A2 H3.n2 H3.c2)).setCell ⟨gx, 3, none⟩ (.slice H3.A3 H3.n3 H3.c3)).setCell ⟨gx, 4, none⟩ (.slice H3.A4 H3.n4 H3.c4)) = wi4 at *
                refine wpAnyH_take (i := 11) (v := ?_) rfl (by kernel_rfl) (by kernel_rfl) (by kernel_rfl) (fun _ _ _ h => h) (Or.inl ⟨by rfl, ?_⟩) (by assumption) ?_
                rotate_left 1
                · (intro w hSw; (try dsimp only at hSw); go_simp; try with_reducible rfl)
                (try simp only [Act.put, pA, pB, pC, pD, pE, pF])
                refine wpAnyH_done (by kernel_rfl) ?_ _
                clear hHeld
                have Bn2 := Bn.next D
                obtain ⟨R, hR⟩ : ∃ R, stepM t sti = R := ⟨_, rfl⟩
                have hRK := step_next (ss := ss) hti htg (show i < ss.length by have := HKN.out; omega) hsti hR
                rw [hR] at M4 F3
                try rw [hR]
                clear hR
                cases R with
                | none =>
                  have HRK := Lib.hid (hRK.1 rfl)
                  clear hRK M4 F3
                  simp only [Option.isSome_none]
                  go_wp2_with fail
                  go_roundw
                  case rel => exact ⟨i + 1, T, by omega, by rw [HRK.out, hcnt], by go_num, by rw [HRK.out, hti]; exact ⟨Bn2, st.next D, Ft, Ct⟩, bel_then KK D⟩
                  case measure => simp [intOf]; omega
                | some e2 =>
                  have HRK := Lib.hid (hRK.2 e2 rfl)
                  clear hRK
                  simp only [Option.getD_some] at M4 F3
                  simp only [Option.isSome_some]
                  have cn2 := Bn2.cell
                  have fn2 := Bn2.frozen
                  have cx := RN.cell
                  have hgxn : gn < gx := by omega
                  have hgxn' : gn ≠ gx := by omega
                  have hoN : Only (fun b => b = gn) wi4 (((((wi4.setCell ⟨gn, 0, none⟩ (.slice H3.A0 H3.n0 H3.c0)).setCell ⟨gn, 1, none⟩ (.slice H3.A1 H3.n1 H3.c1)).setCell ⟨gn, 2, none⟩ (.slice H3.A2 H3.n2 H3.c2)).setCell ⟨gn, 3, none⟩ (.slice H3.A3 H3.n3 H3.c3)).setCell ⟨gn, 4, none⟩ (.slice H3.A4 H3.n4 H3.c4)) := only_set (only_set (only_set (only_set (only_set (Only.refl _ _) 0 _) 1 _) 2 _) 3 _) 4 _
                  have BN : Blk (((((wi4.setCell ⟨gn, 0, none⟩ (.slice H3.A0 H3.n0 H3.c0)).setCell ⟨gn, 1, none⟩ (.slice H3.A1 H3.n1 H3.c1)).setCell ⟨gn, 2, none⟩ (.slice H3.A2 H3.n2 H3.c2)).setCell ⟨gn, 3, none⟩ (.slice H3.A3 H3.n3 H3.c3)).setCell ⟨gn, 4, none⟩ (.slice H3.A4 H3.n4 H3.c4)) gn 28 [.slice H3.A0 H3.n0 H3.c0, .slice H3.A1 H3.n1 H3.c1, .slice H3.A2 H3.n2 H3.c2, .slice H3.A3 H3.n3 H3.c3, .slice H3.A4 H3.n4 H3.c4] := ((((Bn2.set_ 0 _).set_ 1 _).set_ 2 _).set_ 3 _).set_ 4 _
                  have sN := (M4.only hoN (fun b h1 (h2 : b = gn) => h1.2 h2)).sees
                  have KN := (bel_then KK D).trans (hoN.below (fun b (hb : b = gn) => by omega) (bel_then KK D).size)
                  clear M4
                  go_wp2_with fail
                  go_roundw
                  case rel => exact ⟨i + 1, H3, by omega, by rw [HRK.out]; go_num, by go_num, by rw [HRK.out]; exact ⟨BN, sN, F3, C3⟩, KN⟩
                  case measure => simp [intOf]; omega
              refine AllReadyH.cons rfl (fun K hK => ?_) AllReadyH.nil
              · go_simp
                have U := (Below.refl wi1.heap.size wi1).alloc (Nat.le_refl _) (.cells #[.slice none 0 0, .slice none 0 0, .slice none 0 0, .slice none 0 0, .slice none 0 0] 28)
                have RB : Blk (wi1.alloc (.cells #[.slice none 0 0, .slice none 0 0, .slice none 0 0, .slice none 0 0, .slice none 0 0] 28)) wi1.heap.size 28 [.slice none 0 0, .slice none 0 0, .slice none 0 0, .slice none 0 0, .slice none 0 0] := Blk.at_ rfl
                have hgx : wi0.heap.size ≤ wi1.heap.size := D.size
                try have M4 : MineDesk (wi1.alloc (.cells #[.slice none 0 0, .slice none 0 0, .slice none 0 0, .slice none 0 0, .slice none 0 0] 28)) (fun b => b ≠ wi1.heap.size ∧ b ≠ gn) H3 ((stepM t sti).getD deskZ) := (M5.next U).wide (fun b hb => ⟨Nat.ne_of_lt hb.1, hb.2⟩)
                replace D := bel_then D U
                clear U
                refine hK.out _ _ (hSS _ D) (fun hHeld => ?_)
                clear hK K
                (try simp only [Act.put, pA, pB, pC, pD, pE, pF])
                generalize wi1.alloc (.cells #[.slice none 0 0, .slice none 0 0, .slice none 0 0, .slice none 0 0, .slice none 0 0] 28) = wi2 at *
                generalize wi1.heap.size = gx at *
                refine wpAnyH_ready (rs := [5]) (by kernel_rfl) (by simp) ?_
                refine AllReadyH.cons rfl (fun K hK => ?_) AllReadyH.nil
                go_simp
                refine (StepDesk_any T t PB pm pc sti wi2 (st.next D) Ft Ct (xi.next D) (by omega)).mono ?_
                rintro e wi3 ⟨H3, rfl, M3, F3, C3, b3⟩
                have zD := D.size
                try have M4 : MineDesk wi3 (fun b => b ≠ gx ∧ b ≠ gn) H3 ((stepM t sti).getD deskZ) := M3.wide (fun b hb => ⟨by have := hb.1; have := RB.lt; omega, by have := hb.1; omega⟩)
                have M5 : MineDesk wi3 (fun b => b < wi3.heap.size ∧ b ≠ gn) H3 ((stepM t sti).getD deskZ) := M3.wide (fun b hb => ⟨hb.2, by have := hb.1; omega⟩)
                replace D := bel_then D b3
                try replace RB := RB.next b3
                clear b3 M3 zD
                go_wp2_with fail
                refine hK.out _ _ (hSS _ D) (fun hHeld => ?_)
                clear hK K
                (try simp only [Act.put, pA, pB, pC, pD, pE, pF])
                refine wpAnyH_take (i := 6) (v := ?_) rfl (by kernel_rfl) (by kernel_rfl) (by kernel_rfl) (fun _ _ _ h => h) (Or.inl ⟨by rfl, ?_⟩) (by assumption) ?_
                rotate_left 1
                · (intro w hSw; (try dsimp only at hSw); go_simp; try with_reducible rfl)
                (try simp only [Act.put, pA, pB, pC, pD, pE, pF])
                refine wpAnyH_take (i := 7) (v := ?_) rfl (by kernel_rfl) (by kernel_rfl) (by kernel_rfl) (fun _ _ _ h => h) (Or.inl ⟨by rfl, ?_⟩) (by assumption) ?_
                rotate_left 1
                · (intro w hSw; (try dsimp only at hSw); go_simp; try with_reducible rfl)
                (try simp only [Act.put, pA, pB, pC, pD, pE, pF])
                refine wpAnyH_take (i := 8) (v := ?_) rfl (by kernel_rfl) (by kernel_rfl) (by kernel_rfl) (fun _ _ _ h => h) (Or.inl ⟨by rfl, ?_⟩) (by assumption) ?_
                rotate_left 1
                · (intro w hSw; (try dsimp only at hSw); go_simp; try with_reducible rfl)
                (try simp only [Act.put, pA, pB, pC, pD, pE, pF])
                refine wpAnyH_ready (rs := [10]) (by kernel_rfl) (by simp) ?_
                refine AllReadyH.cons rfl (fun K hK => ?_) AllReadyH.nil
                go_simp
                have cr := RB.cell
                have fr := RB.frozen
                go_simp
                have ho : Only (fun b => b = gx) wi3 (((((wi3.setCell ⟨gx, 0, none⟩ (.slice H3.A0 H3.n0 H3.c0)).setCell ⟨gx, 1, none⟩ (.slice H3.A1 H3.n1 H3.c1)).setCell ⟨gx, 2, none⟩ (.slice H3.A2 H3.n2 H3.c2)).setCell ⟨gx, 3, none⟩ (.slice H3.A3 H3.n3 H3.c3)).setCell ⟨gx, 4, none⟩ (.slice H3.A4 H3.n4 H3.c4)) := only_set (only_set (only_set (only_set (only_set (Only.refl _ _) 0 _) 1 _) 2 _) 3 _) 4 _
                have RN : Blk (((((wi3.setCell ⟨gx, 0, none⟩ (.slice H3.A0 H3.n0 H3.c0)).setCell ⟨gx, 1, none⟩ (.slice H3.A1 H3.n1 H3.c1)).setCell ⟨gx, 2, none⟩ (.slice H3.A2 H3.n2 H3.c2)).setCell ⟨gx, 3, none⟩ (.slice H3.A3 H3.n3 H3.c3)).setCell ⟨gx, 4, none⟩ (.slice H3.A4 H3.n4 H3.c4)) gx 28 [.slice H3.A0 H3.n0 H3.c0, .slice H3.A1 H3.n1 H3.c1, .slice H3.A2 H3.n2 H3.c2, .slice H3.A3 H3.n3 H3.c3, .slice H3.A4 H3.n4 H3.c4] := ((((RB.set_ 0 _).set_ 1 _).set_ 2 _).set_ 3 _).set_ 4 _
                replace M4 : MineDesk (((((wi3.setCell ⟨gx, 0, none⟩ (.slice H3.A0 H3.n0 H3.c0)).setCell ⟨gx, 1, none⟩ (.slice H3.A1 H3.n1 H3.c1)).setCell ⟨gx, 2, none⟩ (.slice H3.A2 H3.n2 H3.c2)).setCell ⟨gx, 3, none⟩ (.slice H3.A3 H3.n3 H3.c3)).setCell ⟨gx, 4, none⟩ (.slice H3.A4 H3.n4 H3.c4)) (fun b => b ≠ gx ∧ b ≠ gn) H3 ((stepM t sti).getD deskZ) := M4.only ho (fun b h1 (h2 : b = gx) => h1.1 h2)
                replace D := D.trans (ho.below (fun b (hb : b = gx) => by omega) D.size)
                clear cr fr RB ho M5
                refine hK.out _ (((((wi3.setCell ⟨gx, 0, none⟩ (.slice H3.A0 H3.n0 H3.c0)).setCell ⟨gx, 1, none⟩ (.slice H3.A1 H3.n1 H3.c1)).setCell ⟨gx, 2, none⟩ (.slice H3.A2 H3.n2 H3.c2)).setCell ⟨gx, 3, none⟩ (.slice H3.A3 H3.n3 H3.c3)).setCell ⟨gx, 4, none⟩ (.slice H3.A4 H3.n4 H3.c4)) (hSS _ D) (fun hHeld => ?_)
                clear hK K
                (try simp only [Act.put, pA, pB, pC, pD, pE, pF])
                generalize (((((wi3.setCell ⟨gx, 0, none⟩ (.slice H3.A0 H3.n0 H3.c0)).setCell ⟨gx, 1, none⟩ (.slice H3.A1 H3.n1 H3.c1)).setCell ⟨gx, 2, none⟩ (.slice H3.A2 H3.n2 H3.c2)).setCell ⟨gx, 3, none⟩ (.slice H3.A3 H3.n3 H3.c3)).setCell ⟨gx, 4, none⟩ (.slice H3.A4 H3.n4 H3.c4)) = wi4 at *
                refine wpAnyH_take (i := 11) (v := ?_) rfl (by kernel_rfl) (by kernel_rfl) (by kernel_rfl) (fun _ _ _ h => h) (Or.inl ⟨by rfl, ?_⟩) (by assumption) ?_
                rotate_left 1
                · (intro w hSw; (try dsimp only at hSw); go_simp; try with_reducible rfl)
                (try simp only [Act.put, pA, pB, pC, pD, pE, pF])
                refine wpAnyH_done (by kernel_rfl) ?_ _
                clear hHeld
                have Bn2 := Bn.next D
                obtain ⟨R, hR⟩ : ∃ R, stepM t sti = R := ⟨_, rfl⟩
                have hRK := step_next (ss := ss) hti htg (show i < ss.length by have := HKN.out; omega) hsti hR
                rw [hR] at M4 F3
                try rw [hR]
                clear hR
                cases R with
                | none =>
                  have HRK := Lib.hid (hRK.1 rfl)
                  clear hRK M4 F3
                  simp only [Option.isSome_none]
                  go_wp2_with fail
                  go_roundw
                  case rel => exact ⟨i + 1, T, by omega, by rw [HRK.out, hcnt], by go_num, by rw [HRK.out, hti]; exact ⟨Bn2, st.next D, Ft, Ct⟩, bel_then KK D⟩
                  case measure => simp [intOf]; omega
                | some e2 =>
                  have HRK := Lib.hid (hRK.2 e2 rfl)
                  clear hRK
                  simp only [Option.getD_some] at M4 F3
                  simp only [Option.isSome_some]
                  have cn2 := Bn2.cell
                  have fn2 := Bn2.frozen
                  have cx := RN.cell
                  have hgxn : gn < gx := by omega
                  have hgxn' : gn ≠ gx := by omega
                  have hoN : Only (fun b => b = gn) wi4 (((((wi4.setCell ⟨gn, 0, none⟩ (.slice H3.A0 H3.n0 H3.c0)).setCell ⟨gn, 1, none⟩ (.slice H3.A1 H3.n1 H3.c1)).setCell ⟨gn, 2, none⟩ (.slice H3.A2 H3.n2 H3.c2)).setCell ⟨gn, 3, none⟩ (.slice H3.A3 H3.n3 H3.c3)).setCell ⟨gn, 4, none⟩ (.slice H3.A4 H3.n4 H3.c4)) := only_set (only_set (only_set (only_set (only_set (Only.refl _ _) 0 _) 1 _) 2 _) 3 _) 4 _
                  have BN : Blk (((((wi4.setCell ⟨gn, 0, none⟩ (.slice H3.A0 H3.n0 H3.c0)).setCell ⟨gn, 1, none⟩ (.slice H3.A1 H3.n1 H3.c1)).setCell ⟨gn, 2, none⟩ (.slice H3.A2 H3.n2 H3.c2)).setCell ⟨gn, 3, none⟩ (.slice H3.A3 H3.n3 H3.c3)).setCell ⟨gn, 4, none⟩ (.slice H3.A4 H3.n4 H3.c4)) gn 28 [.slice H3.A0 H3.n0 H3.c0, .slice H3.A1 H3.n1 H3.c1, .slice H3.A2 H3.n2 H3.c2, .slice H3.A3 H3.n3 H3.c3, .slice H3.A4 H3.n4 H3.c4] := ((((Bn2.set_ 0 _).set_ 1 _).set_ 2 _).set_ 3 _).set_ 4 _
                  have sN := (M4.only hoN (fun b h1 (h2 : b = gn) => h1.2 h2)).sees
                  have KN := (bel_then KK D).trans (hoN.below (fun b (hb : b = gn) => by omega) (bel_then KK D).size)
                  clear M4
                  go_wp2_with fail
                  go_roundw
                  case rel => exact ⟨i + 1, H3, by omega, by rw [HRK.out]; go_num, by go_num, by rw [HRK.out]; exact ⟨BN, sN, F3, C3⟩, KN⟩
                  case measure => simp [intOf]; omega
            · obtain rfl : i = k := by omega
              have hlti : ¬ (i : Int) < (i : Int) := by omega
              have hcm : ((runK d ss i).2 : Int) = m0 := by rw [HG4.out, HKN.out]
              have hq : (runK d ss i).1 = q := by rw [HG3.out, HKN.out]
              rw [hq] at st Ft
              rw [hcm]
              have hmm : (m0 != m0) = false := bne_self_eq_false m0
              have cBn := Bn.cell
              have cGo := (Go.next KK).cell
              clear hcm hq
              go_wp2_with fail
              refine (vDesk_any T H1 q 0 0 _ st (s1.next KK) Ft).mono ?_
              rintro e x9 ⟨rfl, b⟩
              clear cBn cGo
              replace KK := bel_then KK b
              go_wp2_with fail
              go_meet
              exact ⟨hC.next KK, bel_then K KK⟩
      case rest =>
        clear sd xs Gd Go s1 hC K
        obtain ⟨hC, K⟩ := hcut
        obtain ⟨y0, rfl⟩ : ∃ w' : World, w' = wc := ⟨_, rfl⟩
        clear HR F1 C1 hk fd pd hcn F0 hi
        go_wp2_with fail
        refine (DrawNewDesk_any A0 n0 c0 y0 hC (by omega)).mono ?_
        rintro e y1 ⟨A1, A2, k1, c1, k2, c2, us, vs, rfl, o1, o2, ⟨hk1, hk2⟩, b⟩
        clear hC
        replace K := bel_then K b
        have su := (Sees.of_own o1).less (Nat.zero_le _)
        have sv := (Sees.of_own o2).less (Nat.zero_le _)
        clear o1 o2 b
        go_wp2_with fail
        refine (NewDesk_any A1 k1 c1 us A2 k2 c2 vs y1 su (by omega) sv (by omega)).mono ?_
        rintro e y2 ⟨H1, rfl, M1, F1, C1, b⟩
        replace su := su.next b
        replace sv := sv.next b
        replace K := bel_then K b
        clear b
        have s1 := M1.sees
        clear M1
        have U : Below y2.heap.size y2 (y2.alloc (.cells #[.slice H1.A0 H1.n0 H1.c0, .slice H1.A1 H1.n1 H1.c1, .slice H1.A2 H1.n2 H1.c2, .slice H1.A3 H1.n3 H1.c3, .slice H1.A4 H1.n4 H1.c4] 28)) := (Below.refl _ _).alloc (Nat.le_refl _) _
        have Go : Blk (y2.alloc (.cells #[.slice H1.A0 H1.n0 H1.c0, .slice H1.A1 H1.n1 H1.c1, .slice H1.A2 H1.n2 H1.c2, .slice H1.A3 H1.n3 H1.c3, .slice H1.A4 H1.n4 H1.c4] 28)) y2.heap.size 28 [.slice H1.A0 H1.n0 H1.c0, .slice H1.A1 H1.n1 H1.c1, .slice H1.A2 H1.n2 H1.c2, .slice H1.A3 H1.n3 H1.c3, .slice H1.A4 H1.n4 H1.c4] := Blk.at_ rfl
        replace su := su.next U
        replace sv := sv.next U
        replace s1 := s1.next U
        replace K := bel_then K U
        clear U
        go_upto_region 45 with fail
        generalize (y2.alloc (.cells #[.slice H1.A0 H1.n0 H1.c0, .slice H1.A1 H1.n1 H1.c1, .slice H1.A2 H1.n2 H1.c2, .slice H1.A3 H1.n3 H1.c3, .slice H1.A4 H1.n4 H1.c4] 28)) = y3 at *
        generalize y2.heap.size = go at *
        go_wp2_with fail
        refine (specNewDesk_any A1 k1 c1 us A2 k2 c2 vs y3 su (by omega) sv (by omega)).mono ?_
        rintro e y4 ⟨H2, rfl, M2, -, -, b⟩
        replace Go := Go.next b
        replace s1 := s1.next b
        replace K := bel_then K b
        clear b
        have s2 := M2.sees
        clear M2 su sv
        have U : Below y4.heap.size y4 (y4.alloc (.cells #[.slice H2.A0 H2.n0 H2.c0, .slice H2.A1 H2.n1 H2.c1, .slice H2.A2 H2.n2 H2.c2, .slice H2.A3 H2.n3 H2.c3, .slice H2.A4 H2.n4 H2.c4] 28)) := (Below.refl _ _).alloc (Nat.le_refl _) _
        have Gw : Blk (y4.alloc (.cells #[.slice H2.A0 H2.n0 H2.c0, .slice H2.A1 H2.n1 H2.c1, .slice H2.A2 H2.n2 H2.c2, .slice H2.A3 H2.n3 H2.c3, .slice H2.A4 H2.n4 H2.c4] 28)) y4.heap.size 28 [.slice H2.A0 H2.n0 H2.c0, .slice H2.A1 H2.n1 H2.c1, .slice H2.A2 H2.n2 H2.c2, .slice H2.A3 H2.n3 H2.c3, .slice H2.A4 H2.n4 H2.c4] := Blk.at_ rfl
        replace Go := Go.next U
        replace s1 := s1.next U
        replace s2 := s2.next U
        replace K := bel_then K U
        clear U
        go_upto_region 46 with fail
        generalize (y4.alloc (.cells #[.slice H2.A0 H2.n0 H2.c0, .slice H2.A1 H2.n1 H2.c1, .slice H2.A2 H2.n2 H2.c2, .slice H2.A3 H2.n3 H2.c3, .slice H2.A4 H2.n4 H2.c4] 28)) = y5 at *
        generalize y4.heap.size = gw at *
        obtain ⟨q, hq⟩ : ∃ q, (newM us vs).getD deskZ = q := ⟨_, rfl⟩
        obtain ⟨o0, ho0⟩ : ∃ o0, (newM us vs).isSome = o0 := ⟨_, rfl⟩
        rw [hq] at s1 s2 F1
        try rw [ho0]
        clear hq ho0
        have hoo : (o0 == o0) = true := beq_self_eq_true o0
        have cGo := Go.cell
        have cGw := Gw.cell
        go_wp2_with fail
        refine (vDesk_any H1 H2 q 0 0 _ s1 s2 F1).mono ?_
        rintro e y6 ⟨rfl, b⟩
        clear cGo cGw
        replace K := bel_then K b
        go_wp2_with fail
        go_ret
        exact ⟨rfl, K⟩

end Go.Proofs.YtkimlajfhepfgaaGreat

namespace Go.Proofs.YtkimlajfhepfgaaGreat
open Go.ChangeShapes Go.WideShapes Go.ChangeAt Go.RowKit Go.Deep

section
variable {H : Type} {enc : TypeId × Value → H} {P : Program} {w : World} {base : Nat} {spare : Nat → Bool} {held : Bool}

/-- A slice whose elements each read as something of α. -/
theorem open_slice_enc {α : Type} [Inhabited α] {E : α → List Value} {s : Nat} {t e : TypeId} {fuel : Nat} {cs : List Value} {x : DataW H × List MemPlace}
    (ht : P.underlying t = some (.slice e)) (hC : P.cellsOf e = s) (hs : 0 < s) (hlen : ∀ d, (E d).length = s)
    (helem : ∀ n cs x, DataW.trod enc P w base spare held n e cs = some x → ∃ d : α, cs = E d)
    (h : DataW.trod enc P w base spare held fuel t cs = some x) :
    ∃ (A : Option Addr) (n c : Nat) (ds : List α), cs = [.slice A n c] ∧ n ≤ 9223372036854775807 ∧ Sees w base s A n (ds.flatMap E) := by
  rcases open_slice ht h with ⟨hcs, _⟩ | ⟨a, len, cap, m, n, D, Pl, hcs, hb, hl, hm, hmm, hx, hi⟩
  · exact ⟨none, 0, 0, [], hcs, by omega, Sees.nil _ _ _ _⟩
  · have hlm : len ≤ m := by rw [hmm]; split <;> omega
    have hex : ∀ i, i < len → ∃ d : α, ∀ j u, (E d)[j]? = some u → w.cell? (a.add (i * s + j)) = some u := by
      intro i hil
      obtain ⟨cs', hc, ht'⟩ := hi i (by omega)
      obtain ⟨d, rfl⟩ := helem _ _ _ ht'
      obtain ⟨_, hcl, hat⟩ := World.cells?_some hc
      refine ⟨d, fun j u hu => ?_⟩
      have hj : j < (E d).length := (List.getElem?_eq_some_iff.1 hu).1
      rw [← hu, ← hat j (by rw [← hcl]; exact hj), hC, Go.Deep.add_add]
    obtain ⟨f, hf⟩ := choose_lt hex
    have hl2 : ((List.range len).map f).length = len := by simp
    refine ⟨some a, len, cap, (List.range len).map f, hcs, by unfold maxLen at hm; omega, ?_, fun hn => ?_⟩
    · rw [flatMap_len _ (fun d _ => hlen d), hl2]
    · obtain ⟨b, off, spot⟩ := a
      have hlie : ∀ j u, (((List.range len).map f).flatMap E)[j]? = some u → w.cell? ((⟨b, off, spot⟩ : Addr).add j) = some u := by
        intro j u hu
        have hj := (List.getElem?_eq_some_iff.1 hu).1
        rw [flatMap_len _ (fun d _ => hlen d), hl2] at hj
        have hq : j / s < len := Nat.div_lt_of_lt_mul (by rw [Nat.mul_comm]; exact hj)
        have hr : j % s < s := Nat.mod_lt _ hs
        have hjj : j / s * s + j % s = j := by rw [Nat.mul_comm]; exact Nat.div_add_mod j s
        have h1 := flatMap_get (f := E) ((List.range len).map f) (fun d _ => hlen d) (j / s) (j % s) (by rw [hl2]; exact hq) hr
        rw [hjj, hu] at h1
        have h2 := hf (j / s) hq (j % s) u (by simpa using h1.symm)
        rwa [hjj] at h2
      have h0 : 0 < (((List.range len).map f).flatMap E).length := by
        rw [flatMap_len _ (fun d _ => hlen d), hl2]
        exact Nat.mul_pos hn hs
      have hc0 := hlie 0 _ (List.getElem?_eq_getElem h0)
      have hsp : spot = none := by simpa [Addr.add] using World.cell?_spot hc0
      subst hsp
      refine ⟨b, off, rfl, hb, by simpa [Addr.add] using World.block_lt_of_cell? w _ hc0, fun j u hu => ?_⟩
      have hadd : (⟨b, off, none⟩ : Addr).add j = ⟨b, off + j, none⟩ := by unfold Addr.add; split <;> simp_all
      have := hlie j u hu
      rwa [hadd] at this

/-- The fields of a struct, each of one cell. -/
theorem struct_fields {t : TypeId} {fs : Array Field} {fuel : Nat} {cs : List Value} {x : DataW H × List MemPlace} (hs : P.underlying t = some (.struct fs)) (hone : oneCellFields P fs = true) (hC : P.cellsOf t = fs.size)
    (h : DataW.trod enc P w base spare held fuel t cs = some x) :
    cs.length = fs.size ∧ ∃ n, ∀ (i : Nat) (f : Field), fs[i]? = some f → ∃ (v : Value) (y : DataW H × List MemPlace), cs[i]? = some v ∧ DataW.trod enc P w base spare held n f.type [v] = some y := by
  obtain ⟨xs, m, _, _, hcl, hl, hf⟩ := DataW.trod_struct hs h
  rw [hC] at hcl
  refine ⟨hcl, m, fun i f hi => ?_⟩
  obtain ⟨ho, hk⟩ := hone_of hone i f hi
  have hil : i < fs.size := (Array.getElem?_eq_some_iff.1 hi).1
  have h1 := hf i f hi
  rw [ho, hk, List.getElem?_eq_getElem (by rw [hl]; exact hil)] at h1
  have hone' : (cs.drop i).take 1 = [cs[i]'(by omega)] := by
    rw [List.drop_eq_getElem_cons (by omega)]
    rfl
  rw [hone'] at h1
  exact ⟨_, _, List.getElem?_eq_getElem (by omega), h1⟩
end
end Go.Proofs.YtkimlajfhepfgaaGreat

namespace Go.Proofs.YtkimlajfhepfgaaGreat
open Go.ChangeShapes Go.WideShapes Go.ChangeAt Go.RowKit Go.Deep

section
variable {H : Type} {enc : TypeId × Value → H} {P : Program} {w : World} {base : Nat} {spare : Nat → Bool} {held : Bool}
theorem open_slice_encP {α : Type} {Q : α → Prop} (d0 : α) (h0 : Q d0) {E : α → List Value} {s : Nat} {t e : TypeId} {fuel : Nat} {cs : List Value} {x : DataW H × List MemPlace}
    (ht : P.underlying t = some (.slice e)) (hC : P.cellsOf e = s) (hs : 0 < s) (hlen : ∀ d, (E d).length = s)
    (helem : ∀ n cs x, DataW.trod enc P w base spare held n e cs = some x → ∃ d : α, cs = E d ∧ Q d)
    (h : DataW.trod enc P w base spare held fuel t cs = some x) :
    ∃ (A : Option Addr) (n c : Nat) (ds : List α), cs = [.slice A n c] ∧ n ≤ 9223372036854775807 ∧ Sees w base s A n (ds.flatMap E) ∧ ∀ d ∈ ds, Q d := by
  haveI : Inhabited {d : α // Q d} := ⟨⟨d0, h0⟩⟩
  obtain ⟨A, n, c, ds, h1, h2, h3⟩ := open_slice_enc (α := {d : α // Q d}) (E := fun d => E d.1) ht hC hs (fun d => hlen d.1) (fun n cs x h => by
    obtain ⟨d, hd, hq⟩ := helem n cs x h
    exact ⟨⟨d, hq⟩, hd⟩) h
  refine ⟨A, n, c, ds.map Subtype.val, h1, h2, by rw [List.flatMap_map]; exact h3, fun d hd => ?_⟩
  obtain ⟨x, _, rfl⟩ := List.mem_map.1 hd
  exact x.2
end

end Go.Proofs.YtkimlajfhepfgaaGreat

namespace Go.Proofs.YtkimlajfhepfgaaGreat
open Go.ChangeShapes Go.WideShapes Go.ChangeAt Go.RowKit Go.Deep
section
variable {H : Type} {enc : TypeId × Value → H} {w : World} {spare : Nat → Bool} {held : Bool}
theorem cellsOf_u8 : Tryz.prog.cellsOf 5 = 1 := by kernel_rfl
theorem open_code {fuel : Nat} {cs : List Value} {x : DataW H × List MemPlace} (h : DataW.trod enc Tryz.prog w 0 spare held fuel 22 cs = some x) : ∃ (A : Option Addr) (n c : Nat), cs = [.slice A n c] ∧ n ≤ 9223372036854775807 ∧ CodeIn w A n := by
  obtain ⟨A, n, c, ds, h1, h2, h3, h4⟩ := open_slice_encP (α := Int) (Q := fun u => 0 ≤ u ∧ u ≤ 255) 0 ⟨by decide, by decide⟩ (E := fun u => [Value.int .u8 u]) Tryz.underlying22 cellsOf_u8 (by decide) (fun _ => rfl) (fun n cs x h => by
    obtain ⟨d, hd, _, hw⟩ := DataW.trod_int Tryz.underlying5 h
    refine ⟨d, hd, ?_⟩
    simp [Lit.wf, IntKind.bits, IntKind.signed, IntKind.min, IntKind.max] at hw
    omega) h
  refine ⟨A, n, c, h1, h2, fun hn => ?_⟩
  have hl := h3.count (by decide) (fun _ => rfl)
  obtain ⟨b, off, e, _, hb, hlie⟩ := h3.at' hn
  refine ⟨b, off, e, hb, fun j hj => ?_⟩
  have hj' : j < ds.length := by omega
  refine ⟨ds[j], hlie j _ ?_, h4 _ (List.getElem_mem hj')⟩
  have := flatMap_get (f := fun u => [Value.int .u8 u]) ds (s := 1) (fun _ _ => rfl) j 0 hj' (by decide)
  simpa using this
end
end Go.Proofs.YtkimlajfhepfgaaGreat
