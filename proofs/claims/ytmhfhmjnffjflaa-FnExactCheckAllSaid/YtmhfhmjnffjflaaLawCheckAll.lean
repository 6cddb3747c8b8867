/- The walk of the law FnExactCheckAll. -/
import Derived.Test.YtmhfhmjnffjflaaDeskM
import Derived.Test.YtmhfhmjnffjflaaCheckK
namespace Go.Proofs.Ytmhfhmjnffjflaa
open Go.RowKit

set_option maxRecDepth 100000 in
set_option maxHeartbeats 2000000 in
theorem FnExactCheckAll_any (Hd : DeskH) (d : DeskV) (w : World) (hd : SeesDesk w 0 Hd d) (hnd : DeskFit 9223372036854775807 Hd d) :
    Calls Try.prog 3 #[.agg #[.slice Hd.A0 Hd.n0 Hd.c0, .slice Hd.A1 Hd.n1 Hd.c1, .slice Hd.A2 Hd.n2 Hd.c2, .slice Hd.A3 Hd.n3 Hd.c3, .slice Hd.A4 Hd.n4 Hd.c4]] w fun e w' => e = .returned (.bool true) ∧ Below w.heap.size w w' := by
  have hR := checkAllP_wt d
  have K0 := Below.refl w.heap.size w
  go_enter Try.func3, Try.ntmps3
  go_wp2_with fail
  replace K0 : Below w.heap.size w (w.alloc (.cells #[.slice Hd.A0 Hd.n0 Hd.c0, .slice Hd.A1 Hd.n1 Hd.c1, .slice Hd.A2 Hd.n2 Hd.c2, .slice Hd.A3 Hd.n3 Hd.c3, .slice Hd.A4 Hd.n4 Hd.c4] 26)) := ((Below.refl w.heap.size w).alloc (by simp) (.cells #[.slice Hd.A0 Hd.n0 Hd.c0, .slice Hd.A1 Hd.n1 Hd.c1, .slice Hd.A2 Hd.n2 Hd.c2, .slice Hd.A3 Hd.n3 Hd.c3, .slice Hd.A4 Hd.n4 Hd.c4] 26))
  have Bd : Blk (w.alloc (.cells #[.slice Hd.A0 Hd.n0 Hd.c0, .slice Hd.A1 Hd.n1 Hd.c1, .slice Hd.A2 Hd.n2 Hd.c2, .slice Hd.A3 Hd.n3 Hd.c3, .slice Hd.A4 Hd.n4 Hd.c4] 26)) (w.heap.size) 26 [.slice Hd.A0 Hd.n0 Hd.c0, .slice Hd.A1 Hd.n1 Hd.c1, .slice Hd.A2 Hd.n2 Hd.c2, .slice Hd.A3 Hd.n3 Hd.c3, .slice Hd.A4 Hd.n4 Hd.c4] := (Blk.at_ (by simp))
  have Y0 : w.heap.size + 1 ≤ (w.alloc (.cells #[.slice Hd.A0 Hd.n0 Hd.c0, .slice Hd.A1 Hd.n1 Hd.c1, .slice Hd.A2 Hd.n2 Hd.c2, .slice Hd.A3 Hd.n3 Hd.c3, .slice Hd.A4 Hd.n4 Hd.c4] 26)).heap.size := by simp
  generalize (w.alloc (.cells #[.slice Hd.A0 Hd.n0 Hd.c0, .slice Hd.A1 Hd.n1 Hd.c1, .slice Hd.A2 Hd.n2 Hd.c2, .slice Hd.A3 Hd.n3 Hd.c3, .slice Hd.A4 Hd.n4 Hd.c4] 26)) = w0 at *
  have Cd := Bd.cell
  go_wp2_with fail
  refine (szDesk_any _ d _ _ (hd.below K0 (Nat.le_refl _)) hnd (by omega) (by omega)).mono ?_
  rintro e w1 ⟨ld, rfl, b1, rfl | hld⟩
  · go_wp2_with fail
    go_ret
    exact ⟨rfl, bel_then K0 b1⟩
  have K1 := bel_then K0 b1
  have Z1 := b1.size
  have Y1 := K1.size
  clear Cd
  replace Bd := Bd.next b1
  clear b1
  have Cd := Bd.cell
  obtain ⟨hld0, hld1, hnd', htd2, htd4⟩ := hld
  have hmd : Hd.n0 ≤ 1048576 ∧ Hd.n1 ≤ 1048576 ∧ Hd.n2 ≤ 1048576 ∧ Hd.n3 ≤ 1048576 ∧ Hd.n4 ≤ 1048576 := ⟨hnd'.n0, hnd'.n1, hnd'.n2, hnd'.n3, hnd'.n4⟩
  have hwd2 : wtN Card.wt d.queue ≤ 100000000 := by
    have h1 := hd.f2.count
    rw [Card.wt_total]; omega
  have hwd4 : wtN Card.wt d.trouble ≤ 100000000 := by
    have h1 := hd.f4.count
    rw [Card.wt_total]; omega
  go_wp2_with fail
  refine (toDesk_any _ d _ (hd.below K1 (Nat.le_refl _)) hnd').mono ?_
  rintro e w2 ⟨A2a, A2b, A2c, A2d, A2e, rfl, M2, b2⟩
  have K2 := bel_then K1 b2
  have Z2 := b2.size
  have Y2 := K2.size
  clear Cd
  replace Bd := Bd.next b2
  clear b2
  have Cd := Bd.cell
  go_wp2_with fail
  refine (specCheckAllP_any _ d _ M2.sees (DeskFit.at_ hnd') (Nat.le_refl _)).mono ?_
  generalize hRe : checkAllP d = R at *
  have HR := Lib.hid hRe
  clear hRe
  rintro e w3 ⟨H3, rfl, M3, F3, G3, b3⟩
  have K3 := bel_then K2 b3
  have Z3 := b3.size
  have Y3 := K3.size
  clear Cd
  replace Bd := Bd.next b3
  replace M2 := M2.next b3
  clear b3
  have Cd := Bd.cell
  have V3 : H3.n0 ≤ 1048576 ∧ H3.n1 ≤ 1048576 ∧ H3.n2 ≤ 1048576 ∧ H3.n3 ≤ 1048576 ∧ H3.n4 ≤ 1048576 := ⟨F3.n0, F3.n1, F3.n2, F3.n3, F3.n4⟩
  have l4_0 : w.heap.size < w3.heap.size := by omega
  go_wp2_with fail
  have b4 : Below w3.heap.size w3 (w3.alloc (.cells #[.slice H3.A0 H3.n0 H3.c0, .slice H3.A1 H3.n1 H3.c1, .slice H3.A2 H3.n2 H3.c2, .slice H3.A3 H3.n3 H3.c3, .slice H3.A4 H3.n4 H3.c4] 31)) := (Below.refl _ _).alloc (Nat.le_refl _) _
  have BR0 : Blk (w3.alloc (.cells #[.slice H3.A0 H3.n0 H3.c0, .slice H3.A1 H3.n1 H3.c1, .slice H3.A2 H3.n2 H3.c2, .slice H3.A3 H3.n3 H3.c3, .slice H3.A4 H3.n4 H3.c4] 31)) w3.heap.size 31 [.slice H3.A0 H3.n0 H3.c0, .slice H3.A1 H3.n1 H3.c1, .slice H3.A2 H3.n2 H3.c2, .slice H3.A3 H3.n3 H3.c3, .slice H3.A4 H3.n4 H3.c4] := Blk.at_ rfl
  have K4 := bel_then K3 b4
  have Z4 := b4.size
  have Y4 := K4.size
  clear Cd
  replace Bd := Bd.next b4
  replace M2 := M2.next b4
  replace M3 := M3.next b4
  clear b4
  have Cd := Bd.cell
  have V4 : w3.heap.size + 1 ≤ (w3.alloc (.cells #[.slice H3.A0 H3.n0 H3.c0, .slice H3.A1 H3.n1 H3.c1, .slice H3.A2 H3.n2 H3.c2, .slice H3.A3 H3.n3 H3.c3, .slice H3.A4 H3.n4 H3.c4] 31)).heap.size := by simp
  generalize (w3.alloc (.cells #[.slice H3.A0 H3.n0 H3.c0, .slice H3.A1 H3.n1 H3.c1, .slice H3.A2 H3.n2 H3.c2, .slice H3.A3 H3.n3 H3.c3, .slice H3.A4 H3.n4 H3.c4] 31)) = w4 at *
  have CR0 := BR0.cell
  go_wp2_with fail
  refine (toDesk_any _ d _ (hd.below K4 (Nat.le_refl _)) hnd').mono ?_
  rintro e w5 ⟨A5a, A5b, A5c, A5d, A5e, rfl, M5, b5⟩
  have K5 := bel_then K4 b5
  have Z5 := b5.size
  have Y5 := K5.size
  clear Cd CR0
  replace Bd := Bd.next b5
  replace M2 := M2.next b5
  replace M3 := M3.next b5
  replace BR0 := BR0.next b5
  clear b5
  have Cd := Bd.cell
  have CR0 := BR0.cell
  go_wp2_with fail
  have b6 : Below w5.heap.size w5 (w5.alloc (.cells #[.slice A5a Hd.n0 Hd.n0, .slice A5b Hd.n1 Hd.n1, .slice A5c Hd.n2 Hd.n2, .slice A5d Hd.n3 Hd.n3, .slice A5e Hd.n4 Hd.n4] 31)) := (Below.refl _ _).alloc (Nat.le_refl _) _
  have BXd : Blk (w5.alloc (.cells #[.slice A5a Hd.n0 Hd.n0, .slice A5b Hd.n1 Hd.n1, .slice A5c Hd.n2 Hd.n2, .slice A5d Hd.n3 Hd.n3, .slice A5e Hd.n4 Hd.n4] 31)) w5.heap.size 31 [.slice A5a Hd.n0 Hd.n0, .slice A5b Hd.n1 Hd.n1, .slice A5c Hd.n2 Hd.n2, .slice A5d Hd.n3 Hd.n3, .slice A5e Hd.n4 Hd.n4] := Blk.at_ rfl
  have K6 := bel_then K5 b6
  have Z6 := b6.size
  have Y6 := K6.size
  clear Cd CR0
  replace Bd := Bd.next b6
  replace M2 := M2.next b6
  replace M3 := M3.next b6
  replace BR0 := BR0.next b6
  replace M5 := M5.next b6
  clear b6
  have Cd := Bd.cell
  have CR0 := BR0.cell
  have V6 : w5.heap.size + 1 ≤ (w5.alloc (.cells #[.slice A5a Hd.n0 Hd.n0, .slice A5b Hd.n1 Hd.n1, .slice A5c Hd.n2 Hd.n2, .slice A5d Hd.n3 Hd.n3, .slice A5e Hd.n4 Hd.n4] 31)).heap.size := by simp
  generalize (w5.alloc (.cells #[.slice A5a Hd.n0 Hd.n0, .slice A5b Hd.n1 Hd.n1, .slice A5c Hd.n2 Hd.n2, .slice A5d Hd.n3 Hd.n3, .slice A5e Hd.n4 Hd.n4] 31)) = w6 at *
  have CXd := BXd.cell
  go_wp2_with fail
  refine (CheckAllP_any _ d _ M5.sees (DeskFit.at_ hnd') (Nat.le_refl _)).mono ?_
  rw [HR.out]
  rintro e w7 ⟨H7, rfl, M7, F7, G7, b7⟩
  have K7 := bel_then K6 b7
  have Z7 := b7.size
  have Y7 := K7.size
  clear Cd CR0 CXd
  replace Bd := Bd.next b7
  replace M2 := M2.next b7
  replace M3 := M3.next b7
  replace BR0 := BR0.next b7
  replace M5 := M5.next b7
  replace BXd := BXd.next b7
  clear b7
  have Cd := Bd.cell
  have CR0 := BR0.cell
  have CXd := BXd.cell
  have V7 : H7.n0 ≤ 1048576 ∧ H7.n1 ≤ 1048576 ∧ H7.n2 ≤ 1048576 ∧ H7.n3 ≤ 1048576 ∧ H7.n4 ≤ 1048576 := ⟨F7.n0, F7.n1, F7.n2, F7.n3, F7.n4⟩
  have l8_0 : w.heap.size < w7.heap.size := by omega
  have l8_1 : w3.heap.size < w7.heap.size := by omega
  have l8_2 : w5.heap.size < w7.heap.size := by omega
  go_wp2_with fail
  have b8 : Below w7.heap.size w7 (w7.alloc (.cells #[.slice H7.A0 H7.n0 H7.c0, .slice H7.A1 H7.n1 H7.c1, .slice H7.A2 H7.n2 H7.c2, .slice H7.A3 H7.n3 H7.c3, .slice H7.A4 H7.n4 H7.c4] 31)) := (Below.refl _ _).alloc (Nat.le_refl _) _
  have BR1 : Blk (w7.alloc (.cells #[.slice H7.A0 H7.n0 H7.c0, .slice H7.A1 H7.n1 H7.c1, .slice H7.A2 H7.n2 H7.c2, .slice H7.A3 H7.n3 H7.c3, .slice H7.A4 H7.n4 H7.c4] 31)) w7.heap.size 31 [.slice H7.A0 H7.n0 H7.c0, .slice H7.A1 H7.n1 H7.c1, .slice H7.A2 H7.n2 H7.c2, .slice H7.A3 H7.n3 H7.c3, .slice H7.A4 H7.n4 H7.c4] := Blk.at_ rfl
  have K8 := bel_then K7 b8
  have Z8 := b8.size
  have Y8 := K8.size
  clear Cd CR0 CXd
  replace Bd := Bd.next b8
  replace M2 := M2.next b8
  replace M3 := M3.next b8
  replace BR0 := BR0.next b8
  replace M5 := M5.next b8
  replace BXd := BXd.next b8
  replace M7 := M7.next b8
  clear b8
  have Cd := Bd.cell
  have CR0 := BR0.cell
  have CXd := BXd.cell
  have V8 : w7.heap.size + 1 ≤ (w7.alloc (.cells #[.slice H7.A0 H7.n0 H7.c0, .slice H7.A1 H7.n1 H7.c1, .slice H7.A2 H7.n2 H7.c2, .slice H7.A3 H7.n3 H7.c3, .slice H7.A4 H7.n4 H7.c4] 31)).heap.size := by simp
  generalize (w7.alloc (.cells #[.slice H7.A0 H7.n0 H7.c0, .slice H7.A1 H7.n1 H7.c1, .slice H7.A2 H7.n2 H7.c2, .slice H7.A3 H7.n3 H7.c3, .slice H7.A4 H7.n4 H7.c4] 31)) = w8 at *
  have CR1 := BR1.cell
  go_wp2_with fail
  refine (eqDesk_any _ _ _ _ _ _ _ M7.sees M3.sees rfl F7).mono ?_
  rintro e w9 ⟨rfl, b9⟩
  have K9 := bel_then K8 b9
  have Z9 := b9.size
  have Y9 := K9.size
  clear Cd CR0 CXd CR1
  replace Bd := Bd.next b9
  replace M2 := M2.next b9
  replace M3 := M3.next b9
  replace BR0 := BR0.next b9
  replace M5 := M5.next b9
  replace BXd := BXd.next b9
  replace M7 := M7.next b9
  replace BR1 := BR1.next b9
  clear b9
  have Cd := Bd.cell
  have CR0 := BR0.cell
  have CXd := BXd.cell
  have CR1 := BR1.cell
  go_wp2_with fail
  have b10 := (Quiet.one w9).below w9.heap.size
  have K10 := bel_then K9 b10
  have Z10 := b10.size
  have Y10 := K10.size
  replace Bd := Bd.next b10
  replace M2 := M2.next b10
  replace M3 := M3.next b10
  replace BR0 := BR0.next b10
  replace M5 := M5.next b10
  replace BXd := BXd.next b10
  replace M7 := M7.next b10
  replace BR1 := BR1.next b10
  clear b10
  go_region_held3 (fun w' => w'.cell? ⟨w.heap.size, 0, none⟩ = some (.slice Hd.A0 Hd.n0 Hd.c0) ∧ w'.cell? ⟨w.heap.size, 1, none⟩ = some (.slice Hd.A1 Hd.n1 Hd.c1) ∧ w'.cell? ⟨w.heap.size, 2, none⟩ = some (.slice Hd.A2 Hd.n2 Hd.c2) ∧ w'.cell? ⟨w.heap.size, 3, none⟩ = some (.slice Hd.A3 Hd.n3 Hd.c3) ∧ w'.cell? ⟨w.heap.size, 4, none⟩ = some (.slice Hd.A4 Hd.n4 Hd.c4) ∧ w'.cell? ⟨w3.heap.size, 0, none⟩ = some (.slice H3.A0 H3.n0 H3.c0) ∧ w'.cell? ⟨w3.heap.size, 1, none⟩ = some (.slice H3.A1 H3.n1 H3.c1) ∧ w'.cell? ⟨w3.heap.size, 2, none⟩ = some (.slice H3.A2 H3.n2 H3.c2) ∧ w'.cell? ⟨w3.heap.size, 3, none⟩ = some (.slice H3.A3 H3.n3 H3.c3) ∧ w'.cell? ⟨w3.heap.size, 4, none⟩ = some (.slice H3.A4 H3.n4 H3.c4) ∧ w'.cell? ⟨w5.heap.size, 0, none⟩ = some (.slice A5a Hd.n0 Hd.n0) ∧ w'.cell? ⟨w5.heap.size, 1, none⟩ = some (.slice A5b Hd.n1 Hd.n1) ∧ w'.cell? ⟨w5.heap.size, 2, none⟩ = some (.slice A5c Hd.n2 Hd.n2) ∧ w'.cell? ⟨w5.heap.size, 3, none⟩ = some (.slice A5d Hd.n3 Hd.n3) ∧ w'.cell? ⟨w5.heap.size, 4, none⟩ = some (.slice A5e Hd.n4 Hd.n4) ∧ w'.cell? ⟨w7.heap.size, 0, none⟩ = some (.slice H7.A0 H7.n0 H7.c0) ∧ w'.cell? ⟨w7.heap.size, 1, none⟩ = some (.slice H7.A1 H7.n1 H7.c1) ∧ w'.cell? ⟨w7.heap.size, 2, none⟩ = some (.slice H7.A2 H7.n2 H7.c2) ∧ w'.cell? ⟨w7.heap.size, 3, none⟩ = some (.slice H7.A3 H7.n3 H7.c3) ∧ w'.cell? ⟨w7.heap.size, 4, none⟩ = some (.slice H7.A4 H7.n4 H7.c4)) (go_keep)
    (first
      | (go_at_call 6
         refine (toDesk_any _ d _ (hd.below K10 (Nat.le_refl _)) hnd').mono ?_
         rintro e w11 ⟨A11a, A11b, A11c, A11d, A11e, rfl, M11, b11⟩
         have K11 := bel_then K10 b11
         have Z11 := b11.size
         have Y11 := K11.size
         clear Cd CR0 CXd CR1
         replace Bd := Bd.next b11
         replace M2 := M2.next b11
         replace M3 := M3.next b11
         replace BR0 := BR0.next b11
         replace M5 := M5.next b11
         replace BXd := BXd.next b11
         replace M7 := M7.next b11
         replace BR1 := BR1.next b11
         clear b11
         have Cd := Bd.cell
         have CR0 := BR0.cell
         have CXd := BXd.cell
         have CR1 := BR1.cell)
      | (go_at_call 8
         refine (eqDesk_any _ _ _ _ _ _ _ M5.sees M11.sees rfl (DeskFit.at_ hnd')).mono ?_
         rintro e w12 ⟨rfl, b12⟩
         have K12 := bel_then K11 b12
         have Z12 := b12.size
         have Y12 := K12.size
         clear Cd CR0 CXd CR1
         replace Bd := Bd.next b12
         replace M2 := M2.next b12
         replace M3 := M3.next b12
         replace BR0 := BR0.next b12
         replace M5 := M5.next b12
         replace BXd := BXd.next b12
         replace M7 := M7.next b12
         replace BR1 := BR1.next b12
         replace M11 := M11.next b12
         clear b12
         have Cd := Bd.cell
         have CR0 := BR0.cell
         have CXd := BXd.cell
         have CR1 := BR1.cell))
  go_wp2_with fail
  refine (markDesk_any _ _ _ _ _ M5 (fun b hb => by have := hb.2; omega) (by omega) (by (try dsimp only); omega) (DeskFit.at_ hnd')).mono ?_
  rintro e w13 ⟨rfl, m13, q13⟩
  replace M5 := m13
  clear m13
  have b13 : Below w.heap.size w12 w13 := q13.below (fun i hi => by have := hi.1; omega) (by omega)
  have K13 := K12.trans b13
  have Z13 := q13.size
  have Y13 := K13.size
  clear b13
  clear Cd CR0 CXd CR1
  replace Bd := Bd.only q13 (fun h => by have := h.1; have := h.2; omega)
  replace M2 := M2.only q13 (fun i h1 h2 => by have := h1.1; have := h1.2; have := h2.1; have := h2.2; omega)
  replace M3 := M3.only q13 (fun i h1 h2 => by have := h1.1; have := h1.2; have := h2.1; have := h2.2; omega)
  replace BR0 := BR0.only q13 (fun h => by have := h.1; have := h.2; omega)
  replace BXd := BXd.only q13 (fun h => by have := h.1; have := h.2; omega)
  replace M7 := M7.only q13 (fun i h1 h2 => by have := h1.1; have := h1.2; have := h2.1; have := h2.2; omega)
  replace BR1 := BR1.only q13 (fun h => by have := h.1; have := h.2; omega)
  replace M11 := M11.only q13 (fun i h1 h2 => by have := h1.1; have := h1.2; have := h2.1; have := h2.2; omega)
  clear q13
  have Cd := Bd.cell
  have CR0 := BR0.cell
  have CXd := BXd.cell
  have CR1 := BR1.cell
  go_wp2_with fail
  refine (eqDesk_any _ _ _ _ _ _ _ M7.sees M3.sees rfl F7).mono ?_
  rintro e w14 ⟨rfl, b14⟩
  have K14 := bel_then K13 b14
  have Z14 := b14.size
  have Y14 := K14.size
  clear Cd CR0 CXd CR1
  replace Bd := Bd.next b14
  replace M2 := M2.next b14
  replace M3 := M3.next b14
  replace BR0 := BR0.next b14
  replace M5 := M5.next b14
  replace BXd := BXd.next b14
  replace M7 := M7.next b14
  replace BR1 := BR1.next b14
  replace M11 := M11.next b14
  clear b14
  have Cd := Bd.cell
  have CR0 := BR0.cell
  have CXd := BXd.cell
  have CR1 := BR1.cell
  go_wp2_with fail
  refine (markDesk_any _ _ _ _ _ M7 (fun b hb => by have := hb.2; omega) (by omega) (by (try dsimp only); omega) F7).mono ?_
  rintro e w15 ⟨rfl, m15, q15⟩
  replace M7 := m15
  clear m15
  have b15 : Below w.heap.size w14 w15 := q15.below (fun i hi => by have := hi.1; omega) (by omega)
  have K15 := K14.trans b15
  have Z15 := q15.size
  have Y15 := K15.size
  clear b15
  clear Cd CR0 CXd CR1
  replace Bd := Bd.only q15 (fun h => by have := h.1; have := h.2; omega)
  replace M2 := M2.only q15 (fun i h1 h2 => by have := h1.1; have := h1.2; have := h2.1; have := h2.2; omega)
  replace M3 := M3.only q15 (fun i h1 h2 => by have := h1.1; have := h1.2; have := h2.1; have := h2.2; omega)
  replace BR0 := BR0.only q15 (fun h => by have := h.1; have := h.2; omega)
  replace M5 := M5.only q15 (fun i h1 h2 => by have := h1.1; have := h1.2; have := h2.1; have := h2.2; omega)
  replace BXd := BXd.only q15 (fun h => by have := h.1; have := h.2; omega)
  replace BR1 := BR1.only q15 (fun h => by have := h.1; have := h.2; omega)
  replace M11 := M11.only q15 (fun i h1 h2 => by have := h1.1; have := h1.2; have := h2.1; have := h2.2; omega)
  clear q15
  have Cd := Bd.cell
  have CR0 := BR0.cell
  have CXd := BXd.cell
  have CR1 := BR1.cell
  go_wp2_with fail
  refine (heldDesk_any _ _ _ _ _ M7.sees (by omega) (by (try dsimp only); omega) F7).mono ?_
  rintro e w16 ⟨rfl, b16⟩
  have K16 := bel_then K15 b16
  have Z16 := b16.size
  have Y16 := K16.size
  clear Cd CR0 CXd CR1
  replace Bd := Bd.next b16
  replace M2 := M2.next b16
  replace M3 := M3.next b16
  replace BR0 := BR0.next b16
  replace M5 := M5.next b16
  replace BXd := BXd.next b16
  replace M7 := M7.next b16
  replace BR1 := BR1.next b16
  replace M11 := M11.next b16
  clear b16
  have Cd := Bd.cell
  have CR0 := BR0.cell
  have CXd := BXd.cell
  have CR1 := BR1.cell
  go_wp2_with fail
  refine (toDesk_any _ d _ (hd.below K16 (Nat.le_refl _)) hnd').mono ?_
  rintro e w17 ⟨A17a, A17b, A17c, A17d, A17e, rfl, M17, b17⟩
  have K17 := bel_then K16 b17
  have Z17 := b17.size
  have Y17 := K17.size
  clear Cd CR0 CXd CR1
  replace Bd := Bd.next b17
  replace M2 := M2.next b17
  replace M3 := M3.next b17
  replace BR0 := BR0.next b17
  replace M5 := M5.next b17
  replace BXd := BXd.next b17
  replace M7 := M7.next b17
  replace BR1 := BR1.next b17
  replace M11 := M11.next b17
  clear b17
  have Cd := Bd.cell
  have CR0 := BR0.cell
  have CXd := BXd.cell
  have CR1 := BR1.cell
  go_wp2_with fail
  refine (CheckAllP_any _ d _ M17.sees (DeskFit.at_ hnd') (Nat.le_refl _)).mono ?_
  rw [HR.out]
  rintro e w18 ⟨H18, rfl, M18, F18, G18, b18⟩
  have K18 := bel_then K17 b18
  have Z18 := b18.size
  have Y18 := K18.size
  clear Cd CR0 CXd CR1
  replace Bd := Bd.next b18
  replace M2 := M2.next b18
  replace M3 := M3.next b18
  replace BR0 := BR0.next b18
  replace M5 := M5.next b18
  replace BXd := BXd.next b18
  replace M7 := M7.next b18
  replace BR1 := BR1.next b18
  replace M11 := M11.next b18
  replace M17 := M17.next b18
  clear b18
  have Cd := Bd.cell
  have CR0 := BR0.cell
  have CXd := BXd.cell
  have CR1 := BR1.cell
  have V18 : H18.n0 ≤ 1048576 ∧ H18.n1 ≤ 1048576 ∧ H18.n2 ≤ 1048576 ∧ H18.n3 ≤ 1048576 ∧ H18.n4 ≤ 1048576 := ⟨F18.n0, F18.n1, F18.n2, F18.n3, F18.n4⟩
  have l19_0 : w.heap.size < w18.heap.size := by omega
  have l19_1 : w3.heap.size < w18.heap.size := by omega
  have l19_2 : w5.heap.size < w18.heap.size := by omega
  have l19_3 : w7.heap.size < w18.heap.size := by omega
  go_wp2_with fail
  have b19 : Below w18.heap.size w18 (w18.alloc (.cells #[.slice H18.A0 H18.n0 H18.c0, .slice H18.A1 H18.n1 H18.c1, .slice H18.A2 H18.n2 H18.c2, .slice H18.A3 H18.n3 H18.c3, .slice H18.A4 H18.n4 H18.c4] 31)) := (Below.refl _ _).alloc (Nat.le_refl _) _
  have BR2 : Blk (w18.alloc (.cells #[.slice H18.A0 H18.n0 H18.c0, .slice H18.A1 H18.n1 H18.c1, .slice H18.A2 H18.n2 H18.c2, .slice H18.A3 H18.n3 H18.c3, .slice H18.A4 H18.n4 H18.c4] 31)) w18.heap.size 31 [.slice H18.A0 H18.n0 H18.c0, .slice H18.A1 H18.n1 H18.c1, .slice H18.A2 H18.n2 H18.c2, .slice H18.A3 H18.n3 H18.c3, .slice H18.A4 H18.n4 H18.c4] := Blk.at_ rfl
  have K19 := bel_then K18 b19
  have Z19 := b19.size
  have Y19 := K19.size
  clear Cd CR0 CXd CR1
  replace Bd := Bd.next b19
  replace M2 := M2.next b19
  replace M3 := M3.next b19
  replace BR0 := BR0.next b19
  replace M5 := M5.next b19
  replace BXd := BXd.next b19
  replace M7 := M7.next b19
  replace BR1 := BR1.next b19
  replace M11 := M11.next b19
  replace M17 := M17.next b19
  replace M18 := M18.next b19
  clear b19
  have Cd := Bd.cell
  have CR0 := BR0.cell
  have CXd := BXd.cell
  have CR1 := BR1.cell
  have V19 : w18.heap.size + 1 ≤ (w18.alloc (.cells #[.slice H18.A0 H18.n0 H18.c0, .slice H18.A1 H18.n1 H18.c1, .slice H18.A2 H18.n2 H18.c2, .slice H18.A3 H18.n3 H18.c3, .slice H18.A4 H18.n4 H18.c4] 31)).heap.size := by simp
  generalize (w18.alloc (.cells #[.slice H18.A0 H18.n0 H18.c0, .slice H18.A1 H18.n1 H18.c1, .slice H18.A2 H18.n2 H18.c2, .slice H18.A3 H18.n3 H18.c3, .slice H18.A4 H18.n4 H18.c4] 31)) = w19 at *
  have CR2 := BR2.cell
  go_wp2_with fail
  refine (eqDesk_any _ _ _ _ _ _ _ M18.sees M3.sees rfl F18).mono ?_
  rintro e w20 ⟨rfl, b20⟩
  have K20 := bel_then K19 b20
  have Z20 := b20.size
  have Y20 := K20.size
  clear Cd CR0 CXd CR1 CR2
  replace Bd := Bd.next b20
  replace M2 := M2.next b20
  replace M3 := M3.next b20
  replace BR0 := BR0.next b20
  replace M5 := M5.next b20
  replace BXd := BXd.next b20
  replace M7 := M7.next b20
  replace BR1 := BR1.next b20
  replace M11 := M11.next b20
  replace M17 := M17.next b20
  replace M18 := M18.next b20
  replace BR2 := BR2.next b20
  clear b20
  have Cd := Bd.cell
  have CR0 := BR0.cell
  have CXd := BXd.cell
  have CR1 := BR1.cell
  have CR2 := BR2.cell
  go_wp2_with fail
  refine (heldDesk_any _ _ _ _ _ M7.sees (by omega) (by (try dsimp only); omega) F7).mono ?_
  rintro e w21 ⟨rfl, b21⟩
  have K21 := bel_then K20 b21
  have Z21 := b21.size
  have Y21 := K21.size
  clear Cd CR0 CXd CR1 CR2
  replace Bd := Bd.next b21
  replace M2 := M2.next b21
  replace M3 := M3.next b21
  replace BR0 := BR0.next b21
  replace M5 := M5.next b21
  replace BXd := BXd.next b21
  replace M7 := M7.next b21
  replace BR1 := BR1.next b21
  replace M11 := M11.next b21
  replace M17 := M17.next b21
  replace M18 := M18.next b21
  replace BR2 := BR2.next b21
  clear b21
  have Cd := Bd.cell
  have CR0 := BR0.cell
  have CXd := BXd.cell
  have CR1 := BR1.cell
  have CR2 := BR2.cell
  go_wp2_with fail
  go_ret
  exact ⟨rfl, K21⟩

end Go.Proofs.Ytmhfhmjnffjflaa
