/- The walk of the law FnExactRunDesk. -/
import Derived.Test.YtkchdhmnomelkaaGreatDeskM
import Derived.Test.YtkchdhmnomelkaaGreatRunDD
import Derived.Test.YtkchdhmnomelkaaGreatStepKK
import Derived.Deep.CutRange
import Derived.Deep.CutBlock
namespace Go.Proofs.YtkchdhmnomelkaaGreat
open Go.RowKit

set_option maxRecDepth 100000 in
set_option maxHeartbeats 2000000 in
theorem FnExactRunDesk_any (Hd : DeskH) (d : DeskV) (Asteps : Option Addr) (nsteps csteps : Nat) (steps : List DeskStep) (w : World) (hd : SeesDesk w 0 Hd d) (hnd : DeskFit 9223372036854775807 Hd d) (hsteps : SeesN deskStepSh w 0 Asteps nsteps steps) (hnsteps : nsteps ≤ 9223372036854775807) (hksteps : ∀ x ∈ steps, x.cnt ≤ 9223372036854775807) :
    Calls Tryz.prog 4 #[.agg #[.slice Hd.A0 Hd.n0 Hd.c0, .slice Hd.A1 Hd.n1 Hd.c1, .slice Hd.A2 Hd.n2 Hd.c2, .slice Hd.A3 Hd.n3 Hd.c3, .slice Hd.A4 Hd.n4 Hd.c4], .slice Asteps nsteps csteps] w fun e w' => e = .returned (.bool true) ∧ Below w.heap.size w w' := by
  have hR := runP_wt d steps
  have hlsteps := hsteps.count
  have K0 := Below.refl w.heap.size w
  go_enter Tryz.func4, Tryz.ntmps4
  go_wp2_with fail
  replace K0 : Below w.heap.size w (w.alloc (.cells #[.slice Hd.A0 Hd.n0 Hd.c0, .slice Hd.A1 Hd.n1 Hd.c1, .slice Hd.A2 Hd.n2 Hd.c2, .slice Hd.A3 Hd.n3 Hd.c3, .slice Hd.A4 Hd.n4 Hd.c4] 26)) := ((Below.refl w.heap.size w).alloc (by simp) (.cells #[.slice Hd.A0 Hd.n0 Hd.c0, .slice Hd.A1 Hd.n1 Hd.c1, .slice Hd.A2 Hd.n2 Hd.c2, .slice Hd.A3 Hd.n3 Hd.c3, .slice Hd.A4 Hd.n4 Hd.c4] 26))
  have Bd : Blk (w.alloc (.cells #[.slice Hd.A0 Hd.n0 Hd.c0, .slice Hd.A1 Hd.n1 Hd.c1, .slice Hd.A2 Hd.n2 Hd.c2, .slice Hd.A3 Hd.n3 Hd.c3, .slice Hd.A4 Hd.n4 Hd.c4] 26)) (w.heap.size) 26 [.slice Hd.A0 Hd.n0 Hd.c0, .slice Hd.A1 Hd.n1 Hd.c1, .slice Hd.A2 Hd.n2 Hd.c2, .slice Hd.A3 Hd.n3 Hd.c3, .slice Hd.A4 Hd.n4 Hd.c4] := (Blk.at_ (by simp))
  have Y0 : w.heap.size + 1 ≤ (w.alloc (.cells #[.slice Hd.A0 Hd.n0 Hd.c0, .slice Hd.A1 Hd.n1 Hd.c1, .slice Hd.A2 Hd.n2 Hd.c2, .slice Hd.A3 Hd.n3 Hd.c3, .slice Hd.A4 Hd.n4 Hd.c4] 26)).heap.size := by simp
  generalize (w.alloc (.cells #[.slice Hd.A0 Hd.n0 Hd.c0, .slice Hd.A1 Hd.n1 Hd.c1, .slice Hd.A2 Hd.n2 Hd.c2, .slice Hd.A3 Hd.n3 Hd.c3, .slice Hd.A4 Hd.n4 Hd.c4] 26)) = w0 at *
  have Cd := Bd.cell
  go_wp2_with fail
  refine (szDesk_any _ d _ _ (hd.below K0 (Nat.le_refl _)) hnd (by omega) (by omega)).mono ?_
  rintro e w1 ⟨ld, rfl, b1, rfl | hld⟩
  · go_wp2_with fail
    go_ret
    exact ⟨rfl, bel_then K0 b1⟩
  have K1 := bel_then K0 b1
  have Z1 := b1.size
  have Y1 := K1.size
  clear Cd
  replace Bd := Bd.next b1
  clear b1
  have Cd := Bd.cell
  go_wp2_with fail
  refine (szDeskStepS_any _ _ _ steps _ _ (hsteps.below K1 (Nat.le_refl _)) hksteps hnsteps (by omega) (by omega)).mono ?_
  rintro e w2 ⟨lsteps, rfl, b2, rfl | ⟨psteps, qsteps⟩⟩
  · go_wp2_with fail
    go_ret
    exact ⟨rfl, bel_then K1 b2⟩
  have K2 := bel_then K1 b2
  have Z2 := b2.size
  have Y2 := K2.size
  clear Cd
  replace Bd := Bd.next b2
  clear b2
  have Cd := Bd.cell
  obtain ⟨hld0, hld1, hnd', htd2, htd4⟩ := hld
  have hmd : Hd.n0 ≤ 1048576 ∧ Hd.n1 ≤ 1048576 ∧ Hd.n2 ≤ 1048576 ∧ Hd.n3 ≤ 1048576 ∧ Hd.n4 ≤ 1048576 := ⟨hnd'.n0, hnd'.n1, hnd'.n2, hnd'.n3, hnd'.n4⟩
  have hwd2 : wtN Card.wt d.queue ≤ 100000000 := by
    have h1 := hd.f2.count
    rw [Card.wt_total]; omega
  have hwd4 : wtN Card.wt d.trouble ≤ 100000000 := by
    have h1 := hd.f4.count
    rw [Card.wt_total]; omega
  have hnsteps' : nsteps ≤ 1048576 := by omega
  have histeps : ∀ x ∈ steps, x.cnt ≤ 1048576 := fun x hx => by have := wtN_mem DeskStep.cnt hx; omega
  have htsteps : wtN DeskStep.wt steps ≤ 100000000 := by rw [DeskStep.wt_total]; omega
  go_wp2_with fail
  refine (toDesk_any _ d _ (hd.below K2 (Nat.le_refl _)) hnd').mono ?_
  rintro e w3 ⟨A3a, A3b, A3c, A3d, A3e, rfl, M3, b3⟩
  have K3 := bel_then K2 b3
  have Z3 := b3.size
  have Y3 := K3.size
  clear Cd
  replace Bd := Bd.next b3
  clear b3
  have Cd := Bd.cell
  go_wp2_with fail
  refine (toDeskStepS_any _ _ _ steps _ (hsteps.below K3 (Nat.le_refl _)) hnsteps' histeps).mono ?_
  rintro e w4 ⟨A4, rfl, M4, b4⟩
  have K4 := bel_then K3 b4
  have Z4 := b4.size
  have Y4 := K4.size
  clear Cd
  replace Bd := Bd.next b4
  replace M3 := M3.next b4
  clear b4
  have Cd := Bd.cell
  go_wp2_with fail
  refine (specRunDesk_any _ d _ _ _ steps _ M3.sees (DeskFit.at_ hnd') (Nat.le_refl _) M4.sees hnsteps' histeps).mono ?_
  generalize hRe : runP d steps = R at *
  have HR := Lib.hid hRe
  clear hRe
  rintro e w5 ⟨H5, rfl, M5, F5, G5, b5⟩
  have K5 := bel_then K4 b5
  have Z5 := b5.size
  have Y5 := K5.size
  clear Cd
  replace Bd := Bd.next b5
  replace M3 := M3.next b5
  replace M4 := M4.next b5
  clear b5
  have Cd := Bd.cell
  have V5 : H5.n0 ≤ 1048576 ∧ H5.n1 ≤ 1048576 ∧ H5.n2 ≤ 1048576 ∧ H5.n3 ≤ 1048576 ∧ H5.n4 ≤ 1048576 := ⟨F5.n0, F5.n1, F5.n2, F5.n3, F5.n4⟩
  have l6_0 : w.heap.size < w5.heap.size := by omega
  go_wp2_with fail
  have b6 : Below w5.heap.size w5 (w5.alloc (.cells #[.slice H5.A0 H5.n0 H5.c0, .slice H5.A1 H5.n1 H5.c1, .slice H5.A2 H5.n2 H5.c2, .slice H5.A3 H5.n3 H5.c3, .slice H5.A4 H5.n4 H5.c4] 37)) := (Below.refl _ _).alloc (Nat.le_refl _) _
  have BR0 : Blk (w5.alloc (.cells #[.slice H5.A0 H5.n0 H5.c0, .slice H5.A1 H5.n1 H5.c1, .slice H5.A2 H5.n2 H5.c2, .slice H5.A3 H5.n3 H5.c3, .slice H5.A4 H5.n4 H5.c4] 37)) w5.heap.size 37 [.slice H5.A0 H5.n0 H5.c0, .slice H5.A1 H5.n1 H5.c1, .slice H5.A2 H5.n2 H5.c2, .slice H5.A3 H5.n3 H5.c3, .slice H5.A4 H5.n4 H5.c4] := Blk.at_ rfl
  have K6 := bel_then K5 b6
  have Z6 := b6.size
  have Y6 := K6.size
  clear Cd
  replace Bd := Bd.next b6
  replace M3 := M3.next b6
  replace M4 := M4.next b6
  replace M5 := M5.next b6
  clear b6
  have Cd := Bd.cell
  have V6 : w5.heap.size + 1 ≤ (w5.alloc (.cells #[.slice H5.A0 H5.n0 H5.c0, .slice H5.A1 H5.n1 H5.c1, .slice H5.A2 H5.n2 H5.c2, .slice H5.A3 H5.n3 H5.c3, .slice H5.A4 H5.n4 H5.c4] 37)).heap.size := by simp
  generalize (w5.alloc (.cells #[.slice H5.A0 H5.n0 H5.c0, .slice H5.A1 H5.n1 H5.c1, .slice H5.A2 H5.n2 H5.c2, .slice H5.A3 H5.n3 H5.c3, .slice H5.A4 H5.n4 H5.c4] 37)) = w6 at *
  have CR0 := BR0.cell
  go_wp2_with fail
  refine (toDesk_any _ d _ (hd.below K6 (Nat.le_refl _)) hnd').mono ?_
  rintro e w7 ⟨A7a, A7b, A7c, A7d, A7e, rfl, M7, b7⟩
  have K7 := bel_then K6 b7
  have Z7 := b7.size
  have Y7 := K7.size
  clear Cd CR0
  replace Bd := Bd.next b7
  replace M3 := M3.next b7
  replace M4 := M4.next b7
  replace M5 := M5.next b7
  replace BR0 := BR0.next b7
  clear b7
  have Cd := Bd.cell
  have CR0 := BR0.cell
  have l8_0 : w.heap.size < w7.heap.size := by omega
  have l8_1 : w5.heap.size < w7.heap.size := by omega
  go_wp2_with fail
  have b8 : Below w7.heap.size w7 (w7.alloc (.cells #[.slice A7a Hd.n0 Hd.n0, .slice A7b Hd.n1 Hd.n1, .slice A7c Hd.n2 Hd.n2, .slice A7d Hd.n3 Hd.n3, .slice A7e Hd.n4 Hd.n4] 37)) := (Below.refl _ _).alloc (Nat.le_refl _) _
  have BXd : Blk (w7.alloc (.cells #[.slice A7a Hd.n0 Hd.n0, .slice A7b Hd.n1 Hd.n1, .slice A7c Hd.n2 Hd.n2, .slice A7d Hd.n3 Hd.n3, .slice A7e Hd.n4 Hd.n4] 37)) w7.heap.size 37 [.slice A7a Hd.n0 Hd.n0, .slice A7b Hd.n1 Hd.n1, .slice A7c Hd.n2 Hd.n2, .slice A7d Hd.n3 Hd.n3, .slice A7e Hd.n4 Hd.n4] := Blk.at_ rfl
  have K8 := bel_then K7 b8
  have Z8 := b8.size
  have Y8 := K8.size
  clear Cd CR0
  replace Bd := Bd.next b8
  replace M3 := M3.next b8
  replace M4 := M4.next b8
  replace M5 := M5.next b8
  replace BR0 := BR0.next b8
  replace M7 := M7.next b8
  clear b8
  have Cd := Bd.cell
  have CR0 := BR0.cell
  have V8 : w7.heap.size + 1 ≤ (w7.alloc (.cells #[.slice A7a Hd.n0 Hd.n0, .slice A7b Hd.n1 Hd.n1, .slice A7c Hd.n2 Hd.n2, .slice A7d Hd.n3 Hd.n3, .slice A7e Hd.n4 Hd.n4] 37)).heap.size := by simp
  generalize (w7.alloc (.cells #[.slice A7a Hd.n0 Hd.n0, .slice A7b Hd.n1 Hd.n1, .slice A7c Hd.n2 Hd.n2, .slice A7d Hd.n3 Hd.n3, .slice A7e Hd.n4 Hd.n4] 37)) = w8 at *
  have CXd := BXd.cell
  go_wp2_with fail
  refine (toDeskStepS_any _ _ _ steps _ (hsteps.below K8 (Nat.le_refl _)) hnsteps' histeps).mono ?_
  rintro e w9 ⟨A9, rfl, M9, b9⟩
  have K9 := bel_then K8 b9
  have Z9 := b9.size
  have Y9 := K9.size
  clear Cd CR0 CXd
  replace Bd := Bd.next b9
  replace M3 := M3.next b9
  replace M4 := M4.next b9
  replace M5 := M5.next b9
  replace BR0 := BR0.next b9
  replace M7 := M7.next b9
  replace BXd := BXd.next b9
  clear b9
  have Cd := Bd.cell
  have CR0 := BR0.cell
  have CXd := BXd.cell
  go_wp2_with fail
  refine (RunDesk_any _ d _ _ _ steps _ M7.sees (DeskFit.at_ hnd') (Nat.le_refl _) M9.sees hnsteps' histeps).mono ?_
  rw [HR.out]
  rintro e w10 ⟨H10, rfl, M10, F10, G10, b10⟩
  have K10 := bel_then K9 b10
  have Z10 := b10.size
  have Y10 := K10.size
  clear Cd CR0 CXd
  replace Bd := Bd.next b10
  replace M3 := M3.next b10
  replace M4 := M4.next b10
  replace M5 := M5.next b10
  replace BR0 := BR0.next b10
  replace M7 := M7.next b10
  replace BXd := BXd.next b10
  replace M9 := M9.next b10
  clear b10
  have Cd := Bd.cell
  have CR0 := BR0.cell
  have CXd := BXd.cell
  have V10 : H10.n0 ≤ 1048576 ∧ H10.n1 ≤ 1048576 ∧ H10.n2 ≤ 1048576 ∧ H10.n3 ≤ 1048576 ∧ H10.n4 ≤ 1048576 := ⟨F10.n0, F10.n1, F10.n2, F10.n3, F10.n4⟩
  have l11_0 : w.heap.size < w10.heap.size := by omega
  have l11_1 : w5.heap.size < w10.heap.size := by omega
  have l11_2 : w7.heap.size < w10.heap.size := by omega
  go_wp2_with fail
  have b11 : Below w10.heap.size w10 (w10.alloc (.cells #[.slice H10.A0 H10.n0 H10.c0, .slice H10.A1 H10.n1 H10.c1, .slice H10.A2 H10.n2 H10.c2, .slice H10.A3 H10.n3 H10.c3, .slice H10.A4 H10.n4 H10.c4] 37)) := (Below.refl _ _).alloc (Nat.le_refl _) _
  have BR1 : Blk (w10.alloc (.cells #[.slice H10.A0 H10.n0 H10.c0, .slice H10.A1 H10.n1 H10.c1, .slice H10.A2 H10.n2 H10.c2, .slice H10.A3 H10.n3 H10.c3, .slice H10.A4 H10.n4 H10.c4] 37)) w10.heap.size 37 [.slice H10.A0 H10.n0 H10.c0, .slice H10.A1 H10.n1 H10.c1, .slice H10.A2 H10.n2 H10.c2, .slice H10.A3 H10.n3 H10.c3, .slice H10.A4 H10.n4 H10.c4] := Blk.at_ rfl
  have K11 := bel_then K10 b11
  have Z11 := b11.size
  have Y11 := K11.size
  clear Cd CR0 CXd
  replace Bd := Bd.next b11
  replace M3 := M3.next b11
  replace M4 := M4.next b11
  replace M5 := M5.next b11
  replace BR0 := BR0.next b11
  replace M7 := M7.next b11
  replace BXd := BXd.next b11
  replace M9 := M9.next b11
  replace M10 := M10.next b11
  clear b11
  have Cd := Bd.cell
  have CR0 := BR0.cell
  have CXd := BXd.cell
  have V11 : w10.heap.size + 1 ≤ (w10.alloc (.cells #[.slice H10.A0 H10.n0 H10.c0, .slice H10.A1 H10.n1 H10.c1, .slice H10.A2 H10.n2 H10.c2, .slice H10.A3 H10.n3 H10.c3, .slice H10.A4 H10.n4 H10.c4] 37)).heap.size := by simp
  generalize (w10.alloc (.cells #[.slice H10.A0 H10.n0 H10.c0, .slice H10.A1 H10.n1 H10.c1, .slice H10.A2 H10.n2 H10.c2, .slice H10.A3 H10.n3 H10.c3, .slice H10.A4 H10.n4 H10.c4] 37)) = w11 at *
  have CR1 := BR1.cell
  go_wp2_with fail
  refine (eqDesk_any _ _ _ _ _ _ _ M10.sees M5.sees rfl F10).mono ?_
  rintro e w12 ⟨rfl, b12⟩
  have K12 := bel_then K11 b12
  have Z12 := b12.size
  have Y12 := K12.size
  clear Cd CR0 CXd CR1
  replace Bd := Bd.next b12
  replace M3 := M3.next b12
  replace M4 := M4.next b12
  replace M5 := M5.next b12
  replace BR0 := BR0.next b12
  replace M7 := M7.next b12
  replace BXd := BXd.next b12
  replace M9 := M9.next b12
  replace M10 := M10.next b12
  replace BR1 := BR1.next b12
  clear b12
  have Cd := Bd.cell
  have CR0 := BR0.cell
  have CXd := BXd.cell
  have CR1 := BR1.cell
  go_wp2_with fail
  have b13 := (Quiet.one w12).below w12.heap.size
  have K13 := bel_then K12 b13
  have Z13 := b13.size
  have Y13 := K13.size
  replace Bd := Bd.next b13
  replace M3 := M3.next b13
  replace M4 := M4.next b13
  replace M5 := M5.next b13
  replace BR0 := BR0.next b13
  replace M7 := M7.next b13
  replace BXd := BXd.next b13
  replace M9 := M9.next b13
  replace M10 := M10.next b13
  replace BR1 := BR1.next b13
  clear b13
  go_region_held3 (fun w' => w'.cell? ⟨w.heap.size, 0, none⟩ = some (.slice Hd.A0 Hd.n0 Hd.c0) ∧ w'.cell? ⟨w.heap.size, 1, none⟩ = some (.slice Hd.A1 Hd.n1 Hd.c1) ∧ w'.cell? ⟨w.heap.size, 2, none⟩ = some (.slice Hd.A2 Hd.n2 Hd.c2) ∧ w'.cell? ⟨w.heap.size, 3, none⟩ = some (.slice Hd.A3 Hd.n3 Hd.c3) ∧ w'.cell? ⟨w.heap.size, 4, none⟩ = some (.slice Hd.A4 Hd.n4 Hd.c4) ∧ w'.cell? ⟨w5.heap.size, 0, none⟩ = some (.slice H5.A0 H5.n0 H5.c0) ∧ w'.cell? ⟨w5.heap.size, 1, none⟩ = some (.slice H5.A1 H5.n1 H5.c1) ∧ w'.cell? ⟨w5.heap.size, 2, none⟩ = some (.slice H5.A2 H5.n2 H5.c2) ∧ w'.cell? ⟨w5.heap.size, 3, none⟩ = some (.slice H5.A3 H5.n3 H5.c3) ∧ w'.cell? ⟨w5.heap.size, 4, none⟩ = some (.slice H5.A4 H5.n4 H5.c4) ∧ w'.cell? ⟨w7.heap.size, 0, none⟩ = some (.slice A7a Hd.n0 Hd.n0) ∧ w'.cell? ⟨w7.heap.size, 1, none⟩ = some (.slice A7b Hd.n1 Hd.n1) ∧ w'.cell? ⟨w7.heap.size, 2, none⟩ = some (.slice A7c Hd.n2 Hd.n2) ∧ w'.cell? ⟨w7.heap.size, 3, none⟩ = some (.slice A7d Hd.n3 Hd.n3) ∧ w'.cell? ⟨w7.heap.size, 4, none⟩ = some (.slice A7e Hd.n4 Hd.n4) ∧ w'.cell? ⟨w10.heap.size, 0, none⟩ = some (.slice H10.A0 H10.n0 H10.c0) ∧ w'.cell? ⟨w10.heap.size, 1, none⟩ = some (.slice H10.A1 H10.n1 H10.c1) ∧ w'.cell? ⟨w10.heap.size, 2, none⟩ = some (.slice H10.A2 H10.n2 H10.c2) ∧ w'.cell? ⟨w10.heap.size, 3, none⟩ = some (.slice H10.A3 H10.n3 H10.c3) ∧ w'.cell? ⟨w10.heap.size, 4, none⟩ = some (.slice H10.A4 H10.n4 H10.c4)) (go_keep)
    (first
      | (go_at_call 8
         refine (toDesk_any _ d _ (hd.below K13 (Nat.le_refl _)) hnd').mono ?_
         rintro e w14 ⟨A14a, A14b, A14c, A14d, A14e, rfl, M14, b14⟩
         have K14 := bel_then K13 b14
         have Z14 := b14.size
         have Y14 := K14.size
         clear Cd CR0 CXd CR1
         replace Bd := Bd.next b14
         replace M3 := M3.next b14
         replace M4 := M4.next b14
         replace M5 := M5.next b14
         replace BR0 := BR0.next b14
         replace M7 := M7.next b14
         replace BXd := BXd.next b14
         replace M9 := M9.next b14
         replace M10 := M10.next b14
         replace BR1 := BR1.next b14
         clear b14
         have Cd := Bd.cell
         have CR0 := BR0.cell
         have CXd := BXd.cell
         have CR1 := BR1.cell)
      | (go_at_call 11
         refine (eqDesk_any _ _ _ _ _ _ _ M7.sees M14.sees rfl (DeskFit.at_ hnd')).mono ?_
         rintro e w15 ⟨rfl, b15⟩
         have K15 := bel_then K14 b15
         have Z15 := b15.size
         have Y15 := K15.size
         clear Cd CR0 CXd CR1
         replace Bd := Bd.next b15
         replace M3 := M3.next b15
         replace M4 := M4.next b15
         replace M5 := M5.next b15
         replace BR0 := BR0.next b15
         replace M7 := M7.next b15
         replace BXd := BXd.next b15
         replace M9 := M9.next b15
         replace M10 := M10.next b15
         replace BR1 := BR1.next b15
         replace M14 := M14.next b15
         clear b15
         have Cd := Bd.cell
         have CR0 := BR0.cell
         have CXd := BXd.cell
         have CR1 := BR1.cell))
  go_wp2_with fail
  refine (toDeskStepS_any _ _ _ steps _ (hsteps.below K15 (Nat.le_refl _)) hnsteps' histeps).mono ?_
  rintro e w16 ⟨A16, rfl, M16, b16⟩
  have K16 := bel_then K15 b16
  have Z16 := b16.size
  have Y16 := K16.size
  clear Cd CR0 CXd CR1
  replace Bd := Bd.next b16
  replace M3 := M3.next b16
  replace M4 := M4.next b16
  replace M5 := M5.next b16
  replace BR0 := BR0.next b16
  replace M7 := M7.next b16
  replace BXd := BXd.next b16
  replace M9 := M9.next b16
  replace M10 := M10.next b16
  replace BR1 := BR1.next b16
  replace M14 := M14.next b16
  clear b16
  have Cd := Bd.cell
  have CR0 := BR0.cell
  have CXd := BXd.cell
  have CR1 := BR1.cell
  go_wp2_with fail
  refine (eqDeskStepS_any _ _ _ _ _ _ _ _ _ _ _ M9.sees M16.sees rfl (by omega) histeps).mono ?_
  rintro e w17 ⟨rfl, b17⟩
  have K17 := bel_then K16 b17
  have Z17 := b17.size
  have Y17 := K17.size
  clear Cd CR0 CXd CR1
  replace Bd := Bd.next b17
  replace M3 := M3.next b17
  replace M4 := M4.next b17
  replace M5 := M5.next b17
  replace BR0 := BR0.next b17
  replace M7 := M7.next b17
  replace BXd := BXd.next b17
  replace M9 := M9.next b17
  replace M10 := M10.next b17
  replace BR1 := BR1.next b17
  replace M14 := M14.next b17
  replace M16 := M16.next b17
  clear b17
  have Cd := Bd.cell
  have CR0 := BR0.cell
  have CXd := BXd.cell
  have CR1 := BR1.cell
  go_wp2_with fail
  refine (markDesk_any _ _ _ _ _ M7 (fun b hb => by have := hb.2; omega) (by omega) (by (try dsimp only); omega) (DeskFit.at_ hnd')).mono ?_
  rintro e w18 ⟨rfl, m18, q18⟩
  replace M7 := m18
  clear m18
  have b18 : Below w.heap.size w17 w18 := q18.below (fun i hi => by have := hi.1; omega) (by omega)
  have K18 := K17.trans b18
  have Z18 := q18.size
  have Y18 := K18.size
  clear b18
  clear Cd CR0 CXd CR1
  replace Bd := Bd.only q18 (fun h => by have := h.1; have := h.2; omega)
  replace M3 := M3.only q18 (fun i h1 h2 => by have := h1.1; have := h1.2; have := h2.1; have := h2.2; omega)
  replace M4 := M4.only q18 (fun i h1 h2 => by have := h1.1; have := h1.2; have := h2.1; have := h2.2; omega)
  replace M5 := M5.only q18 (fun i h1 h2 => by have := h1.1; have := h1.2; have := h2.1; have := h2.2; omega)
  replace BR0 := BR0.only q18 (fun h => by have := h.1; have := h.2; omega)
  replace BXd := BXd.only q18 (fun h => by have := h.1; have := h.2; omega)
  replace M9 := M9.only q18 (fun i h1 h2 => by have := h1.1; have := h1.2; have := h2.1; have := h2.2; omega)
  replace M10 := M10.only q18 (fun i h1 h2 => by have := h1.1; have := h1.2; have := h2.1; have := h2.2; omega)
  replace BR1 := BR1.only q18 (fun h => by have := h.1; have := h.2; omega)
  replace M14 := M14.only q18 (fun i h1 h2 => by have := h1.1; have := h1.2; have := h2.1; have := h2.2; omega)
  replace M16 := M16.only q18 (fun i h1 h2 => by have := h1.1; have := h1.2; have := h2.1; have := h2.2; omega)
  clear q18
  have Cd := Bd.cell
  have CR0 := BR0.cell
  have CXd := BXd.cell
  have CR1 := BR1.cell
  go_wp2_with fail
  refine (markDeskStepS_any _ _ _ _ _ _ _ M9 (by omega) (by omega) (by omega)).mono ?_
  rintro e w19 ⟨rfl, m19, q19⟩
  replace M9 := m19
  clear m19
  have b19 : Below w.heap.size w18 w19 := q19.below (fun i hi => by have := hi.1; omega) (by omega)
  have K19 := K18.trans b19
  have Z19 := q19.size
  have Y19 := K19.size
  clear b19
  clear Cd CR0 CXd CR1
  replace Bd := Bd.only q19 (fun h => by have := h.1; have := h.2; omega)
  replace M3 := M3.only q19 (fun i h1 h2 => by have := h1.1; have := h1.2; have := h2.1; have := h2.2; omega)
  replace M4 := M4.only q19 (fun i h1 h2 => by have := h1.1; have := h1.2; have := h2.1; have := h2.2; omega)
  replace M5 := M5.only q19 (fun i h1 h2 => by have := h1.1; have := h1.2; have := h2.1; have := h2.2; omega)
  replace BR0 := BR0.only q19 (fun h => by have := h.1; have := h.2; omega)
  replace M7 := M7.only q19 (fun i h1 h2 => by have := h1.1; have := h1.2; have := h2.1; have := h2.2; omega)
  replace BXd := BXd.only q19 (fun h => by have := h.1; have := h.2; omega)
  replace M10 := M10.only q19 (fun i h1 h2 => by have := h1.1; have := h1.2; have := h2.1; have := h2.2; omega)
  replace BR1 := BR1.only q19 (fun h => by have := h.1; have := h.2; omega)
  replace M14 := M14.only q19 (fun i h1 h2 => by have := h1.1; have := h1.2; have := h2.1; have := h2.2; omega)
  replace M16 := M16.only q19 (fun i h1 h2 => by have := h1.1; have := h1.2; have := h2.1; have := h2.2; omega)
  clear q19
  have Cd := Bd.cell
  have CR0 := BR0.cell
  have CXd := BXd.cell
  have CR1 := BR1.cell
  go_wp2_with fail
  refine (eqDesk_any _ _ _ _ _ _ _ M10.sees M5.sees rfl F10).mono ?_
  rintro e w20 ⟨rfl, b20⟩
  have K20 := bel_then K19 b20
  have Z20 := b20.size
  have Y20 := K20.size
  clear Cd CR0 CXd CR1
  replace Bd := Bd.next b20
  replace M3 := M3.next b20
  replace M4 := M4.next b20
  replace M5 := M5.next b20
  replace BR0 := BR0.next b20
  replace M7 := M7.next b20
  replace BXd := BXd.next b20
  replace M9 := M9.next b20
  replace M10 := M10.next b20
  replace BR1 := BR1.next b20
  replace M14 := M14.next b20
  replace M16 := M16.next b20
  clear b20
  have Cd := Bd.cell
  have CR0 := BR0.cell
  have CXd := BXd.cell
  have CR1 := BR1.cell
  go_wp2_with fail
  refine (markDesk_any _ _ _ _ _ M10 (fun b hb => by have := hb.2; omega) (by omega) (by (try dsimp only); omega) F10).mono ?_
  rintro e w21 ⟨rfl, m21, q21⟩
  replace M10 := m21
  clear m21
  have b21 : Below w.heap.size w20 w21 := q21.below (fun i hi => by have := hi.1; omega) (by omega)
  have K21 := K20.trans b21
  have Z21 := q21.size
  have Y21 := K21.size
  clear b21
  clear Cd CR0 CXd CR1
  replace Bd := Bd.only q21 (fun h => by have := h.1; have := h.2; omega)
  replace M3 := M3.only q21 (fun i h1 h2 => by have := h1.1; have := h1.2; have := h2.1; have := h2.2; omega)
  replace M4 := M4.only q21 (fun i h1 h2 => by have := h1.1; have := h1.2; have := h2.1; have := h2.2; omega)
  replace M5 := M5.only q21 (fun i h1 h2 => by have := h1.1; have := h1.2; have := h2.1; have := h2.2; omega)
  replace BR0 := BR0.only q21 (fun h => by have := h.1; have := h.2; omega)
  replace M7 := M7.only q21 (fun i h1 h2 => by have := h1.1; have := h1.2; have := h2.1; have := h2.2; omega)
  replace BXd := BXd.only q21 (fun h => by have := h.1; have := h.2; omega)
  replace M9 := M9.only q21 (fun i h1 h2 => by have := h1.1; have := h1.2; have := h2.1; have := h2.2; omega)
  replace BR1 := BR1.only q21 (fun h => by have := h.1; have := h.2; omega)
  replace M14 := M14.only q21 (fun i h1 h2 => by have := h1.1; have := h1.2; have := h2.1; have := h2.2; omega)
  replace M16 := M16.only q21 (fun i h1 h2 => by have := h1.1; have := h1.2; have := h2.1; have := h2.2; omega)
  clear q21
  have Cd := Bd.cell
  have CR0 := BR0.cell
  have CXd := BXd.cell
  have CR1 := BR1.cell
  go_wp2_with fail
  refine (heldDesk_any _ _ _ _ _ M10.sees (by omega) (by (try dsimp only); omega) F10).mono ?_
  rintro e w22 ⟨rfl, b22⟩
  have K22 := bel_then K21 b22
  have Z22 := b22.size
  have Y22 := K22.size
  clear Cd CR0 CXd CR1
  replace Bd := Bd.next b22
  replace M3 := M3.next b22
  replace M4 := M4.next b22
  replace M5 := M5.next b22
  replace BR0 := BR0.next b22
  replace M7 := M7.next b22
  replace BXd := BXd.next b22
  replace M9 := M9.next b22
  replace M10 := M10.next b22
  replace BR1 := BR1.next b22
  replace M14 := M14.next b22
  replace M16 := M16.next b22
  clear b22
  have Cd := Bd.cell
  have CR0 := BR0.cell
  have CXd := BXd.cell
  have CR1 := BR1.cell
  go_wp2_with fail
  refine (toDesk_any _ d _ (hd.below K22 (Nat.le_refl _)) hnd').mono ?_
  rintro e w23 ⟨A23a, A23b, A23c, A23d, A23e, rfl, M23, b23⟩
  have K23 := bel_then K22 b23
  have Z23 := b23.size
  have Y23 := K23.size
  clear Cd CR0 CXd CR1
  replace Bd := Bd.next b23
  replace M3 := M3.next b23
  replace M4 := M4.next b23
  replace M5 := M5.next b23
  replace BR0 := BR0.next b23
  replace M7 := M7.next b23
  replace BXd := BXd.next b23
  replace M9 := M9.next b23
  replace M10 := M10.next b23
  replace BR1 := BR1.next b23
  replace M14 := M14.next b23
  replace M16 := M16.next b23
  clear b23
  have Cd := Bd.cell
  have CR0 := BR0.cell
  have CXd := BXd.cell
  have CR1 := BR1.cell
  go_wp2_with fail
  refine (toDeskStepS_any _ _ _ steps _ (hsteps.below K23 (Nat.le_refl _)) hnsteps' histeps).mono ?_
  rintro e w24 ⟨A24, rfl, M24, b24⟩
  have K24 := bel_then K23 b24
  have Z24 := b24.size
  have Y24 := K24.size
  clear Cd CR0 CXd CR1
  replace Bd := Bd.next b24
  replace M3 := M3.next b24
  replace M4 := M4.next b24
  replace M5 := M5.next b24
  replace BR0 := BR0.next b24
  replace M7 := M7.next b24
  replace BXd := BXd.next b24
  replace M9 := M9.next b24
  replace M10 := M10.next b24
  replace BR1 := BR1.next b24
  replace M14 := M14.next b24
  replace M16 := M16.next b24
  replace M23 := M23.next b24
  clear b24
  have Cd := Bd.cell
  have CR0 := BR0.cell
  have CXd := BXd.cell
  have CR1 := BR1.cell
  go_wp2_with fail
  refine (RunDesk_any _ d _ _ _ steps _ M23.sees (DeskFit.at_ hnd') (Nat.le_refl _) M24.sees hnsteps' histeps).mono ?_
  rw [HR.out]
  rintro e w25 ⟨H25, rfl, M25, F25, G25, b25⟩
  have K25 := bel_then K24 b25
  have Z25 := b25.size
  have Y25 := K25.size
  clear Cd CR0 CXd CR1
  replace Bd := Bd.next b25
  replace M3 := M3.next b25
  replace M4 := M4.next b25
  replace M5 := M5.next b25
  replace BR0 := BR0.next b25
  replace M7 := M7.next b25
  replace BXd := BXd.next b25
  replace M9 := M9.next b25
  replace M10 := M10.next b25
  replace BR1 := BR1.next b25
  replace M14 := M14.next b25
  replace M16 := M16.next b25
  replace M23 := M23.next b25
  replace M24 := M24.next b25
  clear b25
  have Cd := Bd.cell
  have CR0 := BR0.cell
  have CXd := BXd.cell
  have CR1 := BR1.cell
  have V25 : H25.n0 ≤ 1048576 ∧ H25.n1 ≤ 1048576 ∧ H25.n2 ≤ 1048576 ∧ H25.n3 ≤ 1048576 ∧ H25.n4 ≤ 1048576 := ⟨F25.n0, F25.n1, F25.n2, F25.n3, F25.n4⟩
  have l26_0 : w.heap.size < w25.heap.size := by omega
  have l26_1 : w5.heap.size < w25.heap.size := by omega
  have l26_2 : w7.heap.size < w25.heap.size := by omega
  have l26_3 : w10.heap.size < w25.heap.size := by omega
  go_wp2_with fail
  have b26 : Below w25.heap.size w25 (w25.alloc (.cells #[.slice H25.A0 H25.n0 H25.c0, .slice H25.A1 H25.n1 H25.c1, .slice H25.A2 H25.n2 H25.c2, .slice H25.A3 H25.n3 H25.c3, .slice H25.A4 H25.n4 H25.c4] 37)) := (Below.refl _ _).alloc (Nat.le_refl _) _
  have BR2 : Blk (w25.alloc (.cells #[.slice H25.A0 H25.n0 H25.c0, .slice H25.A1 H25.n1 H25.c1, .slice H25.A2 H25.n2 H25.c2, .slice H25.A3 H25.n3 H25.c3, .slice H25.A4 H25.n4 H25.c4] 37)) w25.heap.size 37 [.slice H25.A0 H25.n0 H25.c0, .slice H25.A1 H25.n1 H25.c1, .slice H25.A2 H25.n2 H25.c2, .slice H25.A3 H25.n3 H25.c3, .slice H25.A4 H25.n4 H25.c4] := Blk.at_ rfl
  have K26 := bel_then K25 b26
  have Z26 := b26.size
  have Y26 := K26.size
  clear Cd CR0 CXd CR1
  replace Bd := Bd.next b26
  replace M3 := M3.next b26
  replace M4 := M4.next b26
  replace M5 := M5.next b26
  replace BR0 := BR0.next b26
  replace M7 := M7.next b26
  replace BXd := BXd.next b26
  replace M9 := M9.next b26
  replace M10 := M10.next b26
  replace BR1 := BR1.next b26
  replace M14 := M14.next b26
  replace M16 := M16.next b26
  replace M23 := M23.next b26
  replace M24 := M24.next b26
  replace M25 := M25.next b26
  clear b26
  have Cd := Bd.cell
  have CR0 := BR0.cell
  have CXd := BXd.cell
  have CR1 := BR1.cell
  have V26 : w25.heap.size + 1 ≤ (w25.alloc (.cells #[.slice H25.A0 H25.n0 H25.c0, .slice H25.A1 H25.n1 H25.c1, .slice H25.A2 H25.n2 H25.c2, .slice H25.A3 H25.n3 H25.c3, .slice H25.A4 H25.n4 H25.c4] 37)).heap.size := by simp
  generalize (w25.alloc (.cells #[.slice H25.A0 H25.n0 H25.c0, .slice H25.A1 H25.n1 H25.c1, .slice H25.A2 H25.n2 H25.c2, .slice H25.A3 H25.n3 H25.c3, .slice H25.A4 H25.n4 H25.c4] 37)) = w26 at *
  have CR2 := BR2.cell
  go_wp2_with fail
  refine (eqDesk_any _ _ _ _ _ _ _ M25.sees M5.sees rfl F25).mono ?_
  rintro e w27 ⟨rfl, b27⟩
  have K27 := bel_then K26 b27
  have Z27 := b27.size
  have Y27 := K27.size
  clear Cd CR0 CXd CR1 CR2
  replace Bd := Bd.next b27
  replace M3 := M3.next b27
  replace M4 := M4.next b27
  replace M5 := M5.next b27
  replace BR0 := BR0.next b27
  replace M7 := M7.next b27
  replace BXd := BXd.next b27
  replace M9 := M9.next b27
  replace M10 := M10.next b27
  replace BR1 := BR1.next b27
  replace M14 := M14.next b27
  replace M16 := M16.next b27
  replace M23 := M23.next b27
  replace M24 := M24.next b27
  replace M25 := M25.next b27
  replace BR2 := BR2.next b27
  clear b27
  have Cd := Bd.cell
  have CR0 := BR0.cell
  have CXd := BXd.cell
  have CR1 := BR1.cell
  have CR2 := BR2.cell
  go_wp2_with fail
  refine (heldDesk_any _ _ _ _ _ M10.sees (by omega) (by (try dsimp only); omega) F10).mono ?_
  rintro e w28 ⟨rfl, b28⟩
  have K28 := bel_then K27 b28
  have Z28 := b28.size
  have Y28 := K28.size
  clear Cd CR0 CXd CR1 CR2
  replace Bd := Bd.next b28
  replace M3 := M3.next b28
  replace M4 := M4.next b28
  replace M5 := M5.next b28
  replace BR0 := BR0.next b28
  replace M7 := M7.next b28
  replace BXd := BXd.next b28
  replace M9 := M9.next b28
  replace M10 := M10.next b28
  replace BR1 := BR1.next b28
  replace M14 := M14.next b28
  replace M16 := M16.next b28
  replace M23 := M23.next b28
  replace M24 := M24.next b28
  replace M25 := M25.next b28
  replace BR2 := BR2.next b28
  clear b28
  have Cd := Bd.cell
  have CR0 := BR0.cell
  have CXd := BXd.cell
  have CR1 := BR1.cell
  have CR2 := BR2.cell
  go_wp2_with fail
  go_ret
  exact ⟨rfl, K28⟩

end Go.Proofs.YtkchdhmnomelkaaGreat
