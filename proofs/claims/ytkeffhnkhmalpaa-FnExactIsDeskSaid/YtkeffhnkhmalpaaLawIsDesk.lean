/- The walk of the law FnExactIsDesk. -/
import Derived.Test.YtkeffhnkhmalpaaDeskM
import Derived.Test.YtkeffhnkhmalpaaDeskG
import Derived.Test.YtkeffhnkhmalpaaDeskI
namespace Go.Proofs.Ytkeffhnkhmalpaa
open Go.RowKit

set_option maxRecDepth 100000 in
set_option maxHeartbeats 2000000 in
theorem FnExactIsDesk_any (Hd : DeskH) (d : DeskV) (w : World) (hd : SeesDesk w 0 Hd d) (hnd : DeskFit 9223372036854775807 Hd d) :
    Calls Try.prog 3 #[.agg #[.slice Hd.A0 Hd.n0 Hd.c0, .slice Hd.A1 Hd.n1 Hd.c1, .slice Hd.A2 Hd.n2 Hd.c2, .slice Hd.A3 Hd.n3 Hd.c3, .slice Hd.A4 Hd.n4 Hd.c4]] w fun e w' => e = .returned (.bool true) ∧ Below w.heap.size w w' := by
  have K0 := Below.refl w.heap.size w
  go_enter Try.func3, Try.ntmps3
  go_wp2_with fail
  replace K0 : Below w.heap.size w (w.alloc (.cells #[.slice Hd.A0 Hd.n0 Hd.c0, .slice Hd.A1 Hd.n1 Hd.c1, .slice Hd.A2 Hd.n2 Hd.c2, .slice Hd.A3 Hd.n3 Hd.c3, .slice Hd.A4 Hd.n4 Hd.c4] 26)) := ((Below.refl w.heap.size w).alloc (by simp) (.cells #[.slice Hd.A0 Hd.n0 Hd.c0, .slice Hd.A1 Hd.n1 Hd.c1, .slice Hd.A2 Hd.n2 Hd.c2, .slice Hd.A3 Hd.n3 Hd.c3, .slice Hd.A4 Hd.n4 Hd.c4] 26))
  have Bd : Blk (w.alloc (.cells #[.slice Hd.A0 Hd.n0 Hd.c0, .slice Hd.A1 Hd.n1 Hd.c1, .slice Hd.A2 Hd.n2 Hd.c2, .slice Hd.A3 Hd.n3 Hd.c3, .slice Hd.A4 Hd.n4 Hd.c4] 26)) (w.heap.size) 26 [.slice Hd.A0 Hd.n0 Hd.c0, .slice Hd.A1 Hd.n1 Hd.c1, .slice Hd.A2 Hd.n2 Hd.c2, .slice Hd.A3 Hd.n3 Hd.c3, .slice Hd.A4 Hd.n4 Hd.c4] := (Blk.at_ (by simp))
  have Y0 : w.heap.size + 1 ≤ (w.alloc (.cells #[.slice Hd.A0 Hd.n0 Hd.c0, .slice Hd.A1 Hd.n1 Hd.c1, .slice Hd.A2 Hd.n2 Hd.c2, .slice Hd.A3 Hd.n3 Hd.c3, .slice Hd.A4 Hd.n4 Hd.c4] 26)).heap.size := by simp
  generalize (w.alloc (.cells #[.slice Hd.A0 Hd.n0 Hd.c0, .slice Hd.A1 Hd.n1 Hd.c1, .slice Hd.A2 Hd.n2 Hd.c2, .slice Hd.A3 Hd.n3 Hd.c3, .slice Hd.A4 Hd.n4 Hd.c4] 26)) = w0 at *
  have Cd := Bd.cell
  go_wp2_with fail
  refine (szDesk_any _ d _ _ (hd.below K0 (Nat.le_refl _)) hnd (by omega) (by omega)).mono ?_
  rintro e w1 ⟨ld, rfl, b1, rfl | hld⟩
  · go_wp2_with fail
    go_ret
    exact ⟨rfl, bel_then K0 b1⟩
  have K1 := bel_then K0 b1
  have Z1 := b1.size
  have Y1 := K1.size
  clear Cd
  replace Bd := Bd.next b1
  clear b1
  have Cd := Bd.cell
  obtain ⟨hld0, hld1, hnd', htd2, htd4⟩ := hld
  have hmd : Hd.n0 ≤ 1048576 ∧ Hd.n1 ≤ 1048576 ∧ Hd.n2 ≤ 1048576 ∧ Hd.n3 ≤ 1048576 ∧ Hd.n4 ≤ 1048576 := ⟨hnd'.n0, hnd'.n1, hnd'.n2, hnd'.n3, hnd'.n4⟩
  have hwd2 : wtN Card.wt d.queue ≤ 100000000 := by
    have h1 := hd.f2.count
    rw [Card.wt_total]; omega
  have hwd4 : wtN Card.wt d.trouble ≤ 100000000 := by
    have h1 := hd.f4.count
    rw [Card.wt_total]; omega
  go_wp2_with fail
  refine (toDesk_any _ d _ (hd.below K1 (Nat.le_refl _)) hnd').mono ?_
  rintro e w2 ⟨A2a, A2b, A2c, A2d, A2e, rfl, M2, b2⟩
  have K2 := bel_then K1 b2
  have Z2 := b2.size
  have Y2 := K2.size
  clear Cd
  replace Bd := Bd.next b2
  clear b2
  have Cd := Bd.cell
  go_wp2_with fail
  refine (specIsDesk_any _ d _ M2.sees (DeskFit.at_ hnd') (Nat.le_refl _)).mono ?_
  rintro e w3 ⟨rfl, b3⟩
  have K3 := bel_then K2 b3
  have Z3 := b3.size
  have Y3 := K3.size
  clear Cd
  replace Bd := Bd.next b3
  replace M2 := M2.next b3
  clear b3
  have Cd := Bd.cell
  go_wp2_with fail
  refine (toDesk_any _ d _ (hd.below K3 (Nat.le_refl _)) hnd').mono ?_
  rintro e w4 ⟨A4a, A4b, A4c, A4d, A4e, rfl, M4, b4⟩
  have K4 := bel_then K3 b4
  have Z4 := b4.size
  have Y4 := K4.size
  clear Cd
  replace Bd := Bd.next b4
  replace M2 := M2.next b4
  clear b4
  have Cd := Bd.cell
  go_wp2_with fail
  have b5 : Below w4.heap.size w4 (w4.alloc (.cells #[.slice A4a Hd.n0 Hd.n0, .slice A4b Hd.n1 Hd.n1, .slice A4c Hd.n2 Hd.n2, .slice A4d Hd.n3 Hd.n3, .slice A4e Hd.n4 Hd.n4] 32)) := (Below.refl _ _).alloc (Nat.le_refl _) _
  have BXd : Blk (w4.alloc (.cells #[.slice A4a Hd.n0 Hd.n0, .slice A4b Hd.n1 Hd.n1, .slice A4c Hd.n2 Hd.n2, .slice A4d Hd.n3 Hd.n3, .slice A4e Hd.n4 Hd.n4] 32)) w4.heap.size 32 [.slice A4a Hd.n0 Hd.n0, .slice A4b Hd.n1 Hd.n1, .slice A4c Hd.n2 Hd.n2, .slice A4d Hd.n3 Hd.n3, .slice A4e Hd.n4 Hd.n4] := Blk.at_ rfl
  have K5 := bel_then K4 b5
  have Z5 := b5.size
  have Y5 := K5.size
  clear Cd
  replace Bd := Bd.next b5
  replace M2 := M2.next b5
  replace M4 := M4.next b5
  clear b5
  have Cd := Bd.cell
  have V5 : w4.heap.size + 1 ≤ (w4.alloc (.cells #[.slice A4a Hd.n0 Hd.n0, .slice A4b Hd.n1 Hd.n1, .slice A4c Hd.n2 Hd.n2, .slice A4d Hd.n3 Hd.n3, .slice A4e Hd.n4 Hd.n4] 32)).heap.size := by simp
  generalize (w4.alloc (.cells #[.slice A4a Hd.n0 Hd.n0, .slice A4b Hd.n1 Hd.n1, .slice A4c Hd.n2 Hd.n2, .slice A4d Hd.n3 Hd.n3, .slice A4e Hd.n4 Hd.n4] 32)) = w5 at *
  have CXd := BXd.cell
  go_wp2_with fail
  refine (IsDesk_any _ d _ M4.sees (DeskFit.at_ hnd') (Nat.le_refl _)).mono ?_
  rintro e w6 ⟨rfl, b6⟩
  have K6 := bel_then K5 b6
  have Z6 := b6.size
  have Y6 := K6.size
  clear Cd CXd
  replace Bd := Bd.next b6
  replace M2 := M2.next b6
  replace M4 := M4.next b6
  replace BXd := BXd.next b6
  clear b6
  have Cd := Bd.cell
  have CXd := BXd.cell
  go_wp2_with fail
  have b7 := (Quiet.one w6).below w6.heap.size
  have K7 := bel_then K6 b7
  have Z7 := b7.size
  have Y7 := K7.size
  replace Bd := Bd.next b7
  replace M2 := M2.next b7
  replace M4 := M4.next b7
  replace BXd := BXd.next b7
  clear b7
  go_region_held3 (fun w' => w'.cell? ⟨w.heap.size, 0, none⟩ = some (.slice Hd.A0 Hd.n0 Hd.c0) ∧ w'.cell? ⟨w.heap.size, 1, none⟩ = some (.slice Hd.A1 Hd.n1 Hd.c1) ∧ w'.cell? ⟨w.heap.size, 2, none⟩ = some (.slice Hd.A2 Hd.n2 Hd.c2) ∧ w'.cell? ⟨w.heap.size, 3, none⟩ = some (.slice Hd.A3 Hd.n3 Hd.c3) ∧ w'.cell? ⟨w.heap.size, 4, none⟩ = some (.slice Hd.A4 Hd.n4 Hd.c4) ∧ w'.cell? ⟨w4.heap.size, 0, none⟩ = some (.slice A4a Hd.n0 Hd.n0) ∧ w'.cell? ⟨w4.heap.size, 1, none⟩ = some (.slice A4b Hd.n1 Hd.n1) ∧ w'.cell? ⟨w4.heap.size, 2, none⟩ = some (.slice A4c Hd.n2 Hd.n2) ∧ w'.cell? ⟨w4.heap.size, 3, none⟩ = some (.slice A4d Hd.n3 Hd.n3) ∧ w'.cell? ⟨w4.heap.size, 4, none⟩ = some (.slice A4e Hd.n4 Hd.n4)) (go_keep)
    (first
      | (go_at_call 11
         refine (toDesk_any _ d _ (hd.below K7 (Nat.le_refl _)) hnd').mono ?_
         rintro e w8 ⟨A8a, A8b, A8c, A8d, A8e, rfl, M8, b8⟩
         have K8 := bel_then K7 b8
         have Z8 := b8.size
         have Y8 := K8.size
         clear Cd CXd
         replace Bd := Bd.next b8
         replace M2 := M2.next b8
         replace M4 := M4.next b8
         replace BXd := BXd.next b8
         clear b8
         have Cd := Bd.cell
         have CXd := BXd.cell)
      | (go_at_call 13
         refine (eqDesk_any _ _ _ _ _ _ _ M4.sees M8.sees rfl (DeskFit.at_ hnd')).mono ?_
         rintro e w9 ⟨rfl, b9⟩
         have K9 := bel_then K8 b9
         have Z9 := b9.size
         have Y9 := K9.size
         clear Cd CXd
         replace Bd := Bd.next b9
         replace M2 := M2.next b9
         replace M4 := M4.next b9
         replace BXd := BXd.next b9
         replace M8 := M8.next b9
         clear b9
         have Cd := Bd.cell
         have CXd := BXd.cell))
  go_wp2_with fail
  go_ret
  exact ⟨rfl, K9⟩

end Go.Proofs.Ytkeffhnkhmalpaa
