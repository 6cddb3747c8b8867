/- The walk of the law FnExactDeskRanking. -/
import Derived.Test.YtkeffhnkhmalpaaDeskM
import Derived.Test.YtkeffhnkhmalpaaRank2
namespace Go.Proofs.Ytkeffhnkhmalpaa
open Go.RowKit

set_option maxRecDepth 100000 in
set_option maxHeartbeats 2000000 in
theorem FnExactDeskRanking_any (Hd : DeskH) (d : DeskV) (w : World) (hd : SeesDesk w 0 Hd d) (hnd : DeskFit 9223372036854775807 Hd d) :
    Calls Try.prog 8 #[.agg #[.slice Hd.A0 Hd.n0 Hd.c0, .slice Hd.A1 Hd.n1 Hd.c1, .slice Hd.A2 Hd.n2 Hd.c2, .slice Hd.A3 Hd.n3 Hd.c3, .slice Hd.A4 Hd.n4 Hd.c4]] w fun e w' => e = .returned (.bool true) ∧ Below w.heap.size w w' := by
  have hR := rankM_len d
  have hRc : d.codes.length ≤ Hd.n0 := Nat.le_of_eq (hd.f0.icount)
  have hRk : d.known.length ≤ Hd.n1 := Nat.le_of_eq (hd.f1.icount)
  have hRq : d.queue.length ≤ Hd.n2 := Nat.le_of_eq (hd.f2.count)
  have hRd : d.done.length ≤ Hd.n3 := Nat.le_of_eq (hd.f3.count (by decide) (fun _ => rfl))
  have hRt : d.trouble.length ≤ Hd.n4 := Nat.le_of_eq (hd.f4.count)
  have K0 := Below.refl w.heap.size w
  go_enter Try.func8, Try.ntmps8
  go_wp2_with fail
  replace K0 : Below w.heap.size w (w.alloc (.cells #[.slice Hd.A0 Hd.n0 Hd.c0, .slice Hd.A1 Hd.n1 Hd.c1, .slice Hd.A2 Hd.n2 Hd.c2, .slice Hd.A3 Hd.n3 Hd.c3, .slice Hd.A4 Hd.n4 Hd.c4] 26)) := ((Below.refl w.heap.size w).alloc (by simp) (.cells #[.slice Hd.A0 Hd.n0 Hd.c0, .slice Hd.A1 Hd.n1 Hd.c1, .slice Hd.A2 Hd.n2 Hd.c2, .slice Hd.A3 Hd.n3 Hd.c3, .slice Hd.A4 Hd.n4 Hd.c4] 26))
  have Bd : Blk (w.alloc (.cells #[.slice Hd.A0 Hd.n0 Hd.c0, .slice Hd.A1 Hd.n1 Hd.c1, .slice Hd.A2 Hd.n2 Hd.c2, .slice Hd.A3 Hd.n3 Hd.c3, .slice Hd.A4 Hd.n4 Hd.c4] 26)) (w.heap.size) 26 [.slice Hd.A0 Hd.n0 Hd.c0, .slice Hd.A1 Hd.n1 Hd.c1, .slice Hd.A2 Hd.n2 Hd.c2, .slice Hd.A3 Hd.n3 Hd.c3, .slice Hd.A4 Hd.n4 Hd.c4] := (Blk.at_ (by simp))
  have Y0 : w.heap.size + 1 ≤ (w.alloc (.cells #[.slice Hd.A0 Hd.n0 Hd.c0, .slice Hd.A1 Hd.n1 Hd.c1, .slice Hd.A2 Hd.n2 Hd.c2, .slice Hd.A3 Hd.n3 Hd.c3, .slice Hd.A4 Hd.n4 Hd.c4] 26)).heap.size := by simp
  generalize (w.alloc (.cells #[.slice Hd.A0 Hd.n0 Hd.c0, .slice Hd.A1 Hd.n1 Hd.c1, .slice Hd.A2 Hd.n2 Hd.c2, .slice Hd.A3 Hd.n3 Hd.c3, .slice Hd.A4 Hd.n4 Hd.c4] 26)) = w0 at *
  have Cd := Bd.cell
  go_wp2_with fail
  refine (szDesk_any _ d _ _ (hd.below K0 (Nat.le_refl _)) hnd (by omega) (by omega)).mono ?_
  rintro e w1 ⟨ld, rfl, b1, rfl | hld⟩
  · go_wp2_with fail
    go_ret
    exact ⟨rfl, bel_then K0 b1⟩
  have K1 := bel_then K0 b1
  have Z1 := b1.size
  have Y1 := K1.size
  clear Cd
  replace Bd := Bd.next b1
  clear b1
  have Cd := Bd.cell
  obtain ⟨hld0, hld1, hnd', htd2, htd4⟩ := hld
  have hmd : Hd.n0 ≤ 1048576 ∧ Hd.n1 ≤ 1048576 ∧ Hd.n2 ≤ 1048576 ∧ Hd.n3 ≤ 1048576 ∧ Hd.n4 ≤ 1048576 := ⟨hnd'.n0, hnd'.n1, hnd'.n2, hnd'.n3, hnd'.n4⟩
  have hwd2 : wtN Card.wt d.queue ≤ 100000000 := by
    have h1 := hd.f2.count
    rw [Card.wt_total]; omega
  have hwd4 : wtN Card.wt d.trouble ≤ 100000000 := by
    have h1 := hd.f4.count
    rw [Card.wt_total]; omega
  go_wp2_with fail
  refine (toDesk_any _ d _ (hd.below K1 (Nat.le_refl _)) hnd').mono ?_
  rintro e w2 ⟨A2a, A2b, A2c, A2d, A2e, rfl, M2, b2⟩
  have K2 := bel_then K1 b2
  have Z2 := b2.size
  have Y2 := K2.size
  clear Cd
  replace Bd := Bd.next b2
  clear b2
  have Cd := Bd.cell
  go_wp2_with fail
  refine (specDeskRanking_any _ d _ M2.sees (DeskFit.at_ hnd') (Nat.le_refl _)).mono ?_
  generalize hRe : rankM d = R at *
  have HR := Lib.hid hRe
  clear hRe
  rintro e w3 ⟨A3, c3, rfl, o3, b3⟩
  have M3 := Mine.of o3
  clear o3
  have K3 := bel_then K2 b3
  have Z3 := b3.size
  have Y3 := K3.size
  clear Cd
  replace Bd := Bd.next b3
  replace M2 := M2.next b3
  clear b3
  have Cd := Bd.cell
  go_wp2_with fail
  refine (toDesk_any _ d _ (hd.below K3 (Nat.le_refl _)) hnd').mono ?_
  rintro e w4 ⟨A4a, A4b, A4c, A4d, A4e, rfl, M4, b4⟩
  have K4 := bel_then K3 b4
  have Z4 := b4.size
  have Y4 := K4.size
  clear Cd
  replace Bd := Bd.next b4
  replace M2 := M2.next b4
  replace M3 := M3.next b4
  clear b4
  have Cd := Bd.cell
  go_wp2_with fail
  have b5 : Below w4.heap.size w4 (w4.alloc (.cells #[.slice A4a Hd.n0 Hd.n0, .slice A4b Hd.n1 Hd.n1, .slice A4c Hd.n2 Hd.n2, .slice A4d Hd.n3 Hd.n3, .slice A4e Hd.n4 Hd.n4] 32)) := (Below.refl _ _).alloc (Nat.le_refl _) _
  have BXd : Blk (w4.alloc (.cells #[.slice A4a Hd.n0 Hd.n0, .slice A4b Hd.n1 Hd.n1, .slice A4c Hd.n2 Hd.n2, .slice A4d Hd.n3 Hd.n3, .slice A4e Hd.n4 Hd.n4] 32)) w4.heap.size 32 [.slice A4a Hd.n0 Hd.n0, .slice A4b Hd.n1 Hd.n1, .slice A4c Hd.n2 Hd.n2, .slice A4d Hd.n3 Hd.n3, .slice A4e Hd.n4 Hd.n4] := Blk.at_ rfl
  have K5 := bel_then K4 b5
  have Z5 := b5.size
  have Y5 := K5.size
  clear Cd
  replace Bd := Bd.next b5
  replace M2 := M2.next b5
  replace M3 := M3.next b5
  replace M4 := M4.next b5
  clear b5
  have Cd := Bd.cell
  have V5 : w4.heap.size + 1 ≤ (w4.alloc (.cells #[.slice A4a Hd.n0 Hd.n0, .slice A4b Hd.n1 Hd.n1, .slice A4c Hd.n2 Hd.n2, .slice A4d Hd.n3 Hd.n3, .slice A4e Hd.n4 Hd.n4] 32)).heap.size := by simp
  generalize (w4.alloc (.cells #[.slice A4a Hd.n0 Hd.n0, .slice A4b Hd.n1 Hd.n1, .slice A4c Hd.n2 Hd.n2, .slice A4d Hd.n3 Hd.n3, .slice A4e Hd.n4 Hd.n4] 32)) = w5 at *
  have CXd := BXd.cell
  go_wp2_with fail
  refine (DeskRanking_any _ d _ M4.sees (DeskFit.at_ hnd') (Nat.le_refl _)).mono ?_
  rw [HR.out]
  rintro e w6 ⟨A6, c6, rfl, o6, b6⟩
  have M6 := Mine.of o6
  clear o6
  have K6 := bel_then K5 b6
  have Z6 := b6.size
  have Y6 := K6.size
  clear Cd CXd
  replace Bd := Bd.next b6
  replace M2 := M2.next b6
  replace M3 := M3.next b6
  replace M4 := M4.next b6
  replace BXd := BXd.next b6
  clear b6
  have Cd := Bd.cell
  have CXd := BXd.cell
  go_wp2_with fail
  refine (eqIntS_any _ _ _ _ _ _ _ _ _ _ _ M6.sees M3.sees rfl (by omega)).mono ?_
  rintro e w7 ⟨rfl, q7⟩
  have b7 := q7.below w6.heap.size
  clear q7
  have K7 := bel_then K6 b7
  have Z7 := b7.size
  have Y7 := K7.size
  clear Cd CXd
  replace Bd := Bd.next b7
  replace M2 := M2.next b7
  replace M3 := M3.next b7
  replace M4 := M4.next b7
  replace BXd := BXd.next b7
  replace M6 := M6.next b7
  clear b7
  have Cd := Bd.cell
  have CXd := BXd.cell
  go_wp2_with fail
  have b8 := (Quiet.one w7).below w7.heap.size
  have K8 := bel_then K7 b8
  have Z8 := b8.size
  have Y8 := K8.size
  replace Bd := Bd.next b8
  replace M2 := M2.next b8
  replace M3 := M3.next b8
  replace M4 := M4.next b8
  replace BXd := BXd.next b8
  replace M6 := M6.next b8
  clear b8
  go_region_held3 (fun w' => w'.cell? ⟨w.heap.size, 0, none⟩ = some (.slice Hd.A0 Hd.n0 Hd.c0) ∧ w'.cell? ⟨w.heap.size, 1, none⟩ = some (.slice Hd.A1 Hd.n1 Hd.c1) ∧ w'.cell? ⟨w.heap.size, 2, none⟩ = some (.slice Hd.A2 Hd.n2 Hd.c2) ∧ w'.cell? ⟨w.heap.size, 3, none⟩ = some (.slice Hd.A3 Hd.n3 Hd.c3) ∧ w'.cell? ⟨w.heap.size, 4, none⟩ = some (.slice Hd.A4 Hd.n4 Hd.c4) ∧ w'.cell? ⟨w4.heap.size, 0, none⟩ = some (.slice A4a Hd.n0 Hd.n0) ∧ w'.cell? ⟨w4.heap.size, 1, none⟩ = some (.slice A4b Hd.n1 Hd.n1) ∧ w'.cell? ⟨w4.heap.size, 2, none⟩ = some (.slice A4c Hd.n2 Hd.n2) ∧ w'.cell? ⟨w4.heap.size, 3, none⟩ = some (.slice A4d Hd.n3 Hd.n3) ∧ w'.cell? ⟨w4.heap.size, 4, none⟩ = some (.slice A4e Hd.n4 Hd.n4)) (go_keep)
    (first
      | (go_at_call 11
         refine (toDesk_any _ d _ (hd.below K8 (Nat.le_refl _)) hnd').mono ?_
         rintro e w9 ⟨A9a, A9b, A9c, A9d, A9e, rfl, M9, b9⟩
         have K9 := bel_then K8 b9
         have Z9 := b9.size
         have Y9 := K9.size
         clear Cd CXd
         replace Bd := Bd.next b9
         replace M2 := M2.next b9
         replace M3 := M3.next b9
         replace M4 := M4.next b9
         replace BXd := BXd.next b9
         replace M6 := M6.next b9
         clear b9
         have Cd := Bd.cell
         have CXd := BXd.cell)
      | (go_at_call 13
         refine (eqDesk_any _ _ _ _ _ _ _ M4.sees M9.sees rfl (DeskFit.at_ hnd')).mono ?_
         rintro e w10 ⟨rfl, b10⟩
         have K10 := bel_then K9 b10
         have Z10 := b10.size
         have Y10 := K10.size
         clear Cd CXd
         replace Bd := Bd.next b10
         replace M2 := M2.next b10
         replace M3 := M3.next b10
         replace M4 := M4.next b10
         replace BXd := BXd.next b10
         replace M6 := M6.next b10
         replace M9 := M9.next b10
         clear b10
         have Cd := Bd.cell
         have CXd := BXd.cell))
  go_wp2_with fail
  refine (markDesk_any _ _ _ _ _ M4 (fun b hb => by have := hb.2; omega) (by omega) (by (try dsimp only); omega) (DeskFit.at_ hnd')).mono ?_
  rintro e w11 ⟨rfl, m11, q11⟩
  replace M4 := m11
  clear m11
  have b11 : Below w.heap.size w10 w11 := q11.below (fun i hi => by have := hi.1; omega) (by omega)
  have K11 := K10.trans b11
  have Z11 := q11.size
  have Y11 := K11.size
  clear b11
  clear Cd CXd
  replace Bd := Bd.only q11 (fun h => by have := h.1; have := h.2; omega)
  replace M2 := M2.only q11 (fun i h1 h2 => by have := h1.1; have := h1.2; have := h2.1; have := h2.2; omega)
  replace M3 := M3.only q11 (fun i h1 h2 => by have := h1.1; have := h1.2; have := h2.1; have := h2.2; omega)
  replace BXd := BXd.only q11 (fun h => by have := h.1; have := h.2; omega)
  replace M6 := M6.only q11 (fun i h1 h2 => by have := h1.1; have := h1.2; have := h2.1; have := h2.2; omega)
  replace M9 := M9.only q11 (fun i h1 h2 => by have := h1.1; have := h1.2; have := h2.1; have := h2.2; omega)
  clear q11
  have Cd := Bd.cell
  have CXd := BXd.cell
  go_wp2_with fail
  refine (eqIntS_any _ _ _ _ _ _ _ _ _ _ _ M6.sees M3.sees rfl (by omega)).mono ?_
  rintro e w12 ⟨rfl, q12⟩
  have b12 := q12.below w11.heap.size
  clear q12
  have K12 := bel_then K11 b12
  have Z12 := b12.size
  have Y12 := K12.size
  clear Cd CXd
  replace Bd := Bd.next b12
  replace M2 := M2.next b12
  replace M3 := M3.next b12
  replace M4 := M4.next b12
  replace BXd := BXd.next b12
  replace M6 := M6.next b12
  replace M9 := M9.next b12
  clear b12
  have Cd := Bd.cell
  have CXd := BXd.cell
  go_wp2_with fail
  refine (markIntS_any _ _ _ _ _ _ _ _ M6 (by omega) (by omega) (by omega)).mono ?_
  rintro e w13 ⟨rfl, m13, q13⟩
  replace M6 := m13
  clear m13
  have b13 : Below w.heap.size w12 w13 := q13.below (fun i hi => by have := hi.1; omega) (by omega)
  have K13 := K12.trans b13
  have Z13 := q13.size
  have Y13 := K13.size
  clear b13
  clear Cd CXd
  replace Bd := Bd.only q13 (fun h => by have := h.1; have := h.2; omega)
  replace M2 := M2.only q13 (fun i h1 h2 => by have := h1.1; have := h1.2; have := h2.1; have := h2.2; omega)
  replace M3 := M3.only q13 (fun i h1 h2 => by have := h1.1; have := h1.2; have := h2.1; have := h2.2; omega)
  replace M4 := M4.only q13 (fun i h1 h2 => by have := h1.1; have := h1.2; have := h2.1; have := h2.2; omega)
  replace BXd := BXd.only q13 (fun h => by have := h.1; have := h.2; omega)
  replace M9 := M9.only q13 (fun i h1 h2 => by have := h1.1; have := h1.2; have := h2.1; have := h2.2; omega)
  clear q13
  have Cd := Bd.cell
  have CXd := BXd.cell
  go_wp2_with fail
  refine (heldIntS_any _ _ _ _ _ _ M6.sees (by omega) (by omega) (by omega)).mono ?_
  rintro e w14 ⟨rfl, q14⟩
  have b14 := q14.below w13.heap.size
  clear q14
  have K14 := bel_then K13 b14
  have Z14 := b14.size
  have Y14 := K14.size
  clear Cd CXd
  replace Bd := Bd.next b14
  replace M2 := M2.next b14
  replace M3 := M3.next b14
  replace M4 := M4.next b14
  replace BXd := BXd.next b14
  replace M6 := M6.next b14
  replace M9 := M9.next b14
  clear b14
  have Cd := Bd.cell
  have CXd := BXd.cell
  go_wp2_with fail
  refine (toDesk_any _ d _ (hd.below K14 (Nat.le_refl _)) hnd').mono ?_
  rintro e w15 ⟨A15a, A15b, A15c, A15d, A15e, rfl, M15, b15⟩
  have K15 := bel_then K14 b15
  have Z15 := b15.size
  have Y15 := K15.size
  clear Cd CXd
  replace Bd := Bd.next b15
  replace M2 := M2.next b15
  replace M3 := M3.next b15
  replace M4 := M4.next b15
  replace BXd := BXd.next b15
  replace M6 := M6.next b15
  replace M9 := M9.next b15
  clear b15
  have Cd := Bd.cell
  have CXd := BXd.cell
  go_wp2_with fail
  refine (DeskRanking_any _ d _ M15.sees (DeskFit.at_ hnd') (Nat.le_refl _)).mono ?_
  rw [HR.out]
  rintro e w16 ⟨A16, c16, rfl, o16, b16⟩
  have M16 := Mine.of o16
  clear o16
  have K16 := bel_then K15 b16
  have Z16 := b16.size
  have Y16 := K16.size
  clear Cd CXd
  replace Bd := Bd.next b16
  replace M2 := M2.next b16
  replace M3 := M3.next b16
  replace M4 := M4.next b16
  replace BXd := BXd.next b16
  replace M6 := M6.next b16
  replace M9 := M9.next b16
  replace M15 := M15.next b16
  clear b16
  have Cd := Bd.cell
  have CXd := BXd.cell
  go_wp2_with fail
  refine (eqIntS_any _ _ _ _ _ _ _ _ _ _ _ M16.sees M3.sees rfl (by omega)).mono ?_
  rintro e w17 ⟨rfl, q17⟩
  have b17 := q17.below w16.heap.size
  clear q17
  have K17 := bel_then K16 b17
  have Z17 := b17.size
  have Y17 := K17.size
  clear Cd CXd
  replace Bd := Bd.next b17
  replace M2 := M2.next b17
  replace M3 := M3.next b17
  replace M4 := M4.next b17
  replace BXd := BXd.next b17
  replace M6 := M6.next b17
  replace M9 := M9.next b17
  replace M15 := M15.next b17
  replace M16 := M16.next b17
  clear b17
  have Cd := Bd.cell
  have CXd := BXd.cell
  go_wp2_with fail
  refine (heldIntS_any _ _ _ _ _ _ M6.sees (by omega) (by omega) (by omega)).mono ?_
  rintro e w18 ⟨rfl, q18⟩
  have b18 := q18.below w17.heap.size
  clear q18
  have K18 := bel_then K17 b18
  have Z18 := b18.size
  have Y18 := K18.size
  clear Cd CXd
  replace Bd := Bd.next b18
  replace M2 := M2.next b18
  replace M3 := M3.next b18
  replace M4 := M4.next b18
  replace BXd := BXd.next b18
  replace M6 := M6.next b18
  replace M9 := M9.next b18
  replace M15 := M15.next b18
  replace M16 := M16.next b18
  clear b18
  have Cd := Bd.cell
  have CXd := BXd.cell
  go_wp2_with fail
  go_ret
  exact ⟨rfl, K18⟩

end Go.Proofs.Ytkeffhnkhmalpaa
