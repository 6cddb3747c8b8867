/- The walk of the law FnExactLargestPart. -/
import Derived.Test.YtljiflbaknakaaaPartS
namespace Go.Proofs.Ytljiflbaknakaaa
open Go.RowKit

set_option maxRecDepth 100000 in
set_option maxHeartbeats 2000000 in
theorem FnExactLargestPart_any (A1m A2m : Option Addr) (n1m n2m c1m c2m : Nat) (m : MapV) (Axs : Option Addr) (nxs cxs : Nat) (xs : List Area) (day : Int) (w : World) (hm : SeesMap w A1m n1m A2m n2m m) (hnm : n1m ≤ 9223372036854775807 ∧ n2m ≤ 9223372036854775807) (hxs : SeesN areaSh w 0 Axs nxs xs) (hnxs : nxs ≤ 9223372036854775807) (hkxs : ∀ x ∈ xs, x.cnt ≤ 9223372036854775807) :
    Calls Try.prog 11 #[.agg #[.int .i64 m.width, .int .i64 m.height, .slice A1m n1m c1m, .slice A2m n2m c2m], .slice Axs nxs cxs, .int .i64 day] w fun e w' => e = .returned (.bool true) ∧ Below w.heap.size w w' := by
  have hR := largestM_len m xs day
  have hlxs := hxs.count
  have K0 := Below.refl w.heap.size w
  go_enter Try.func11, Try.ntmps11
  go_wp2_with fail
  replace K0 : Below w.heap.size w (w.alloc (.cells #[.int .i64 m.width, .int .i64 m.height, .slice A1m n1m c1m, .slice A2m n2m c2m] 24)) := ((Below.refl w.heap.size w).alloc (by simp) (.cells #[.int .i64 m.width, .int .i64 m.height, .slice A1m n1m c1m, .slice A2m n2m c2m] 24))
  have Bm : Blk (w.alloc (.cells #[.int .i64 m.width, .int .i64 m.height, .slice A1m n1m c1m, .slice A2m n2m c2m] 24)) (w.heap.size) 24 [.int .i64 m.width, .int .i64 m.height, .slice A1m n1m c1m, .slice A2m n2m c2m] := (Blk.at_ (by simp))
  have Y0 : w.heap.size + 1 ≤ (w.alloc (.cells #[.int .i64 m.width, .int .i64 m.height, .slice A1m n1m c1m, .slice A2m n2m c2m] 24)).heap.size := by simp
  generalize (w.alloc (.cells #[.int .i64 m.width, .int .i64 m.height, .slice A1m n1m c1m, .slice A2m n2m c2m] 24)) = w0 at *
  have Cm := Bm.cell
  go_wp2_with fail
  refine (szMap_any _ _ _ _ _ _ _ _ _ _ hnm (by omega) (by omega)).mono ?_
  rintro e w1 ⟨lm, rfl, b1, rfl | hlm⟩
  · go_wp2_with fail
    go_ret
    exact ⟨rfl, bel_then K0 b1⟩
  have K1 := bel_then K0 b1
  have Z1 := b1.size
  have Y1 := K1.size
  clear Cm
  replace Bm := Bm.next b1
  clear b1
  have Cm := Bm.cell
  go_wp2_with fail
  refine (szAreaS_any _ _ _ xs _ _ (hxs.below K1 (Nat.le_refl _)) hkxs hnxs (by omega) (by omega)).mono ?_
  rintro e w2 ⟨lxs, rfl, b2, rfl | ⟨pxs, qxs⟩⟩
  · go_wp2_with fail
    go_ret
    exact ⟨rfl, bel_then K1 b2⟩
  have K2 := bel_then K1 b2
  have Z2 := b2.size
  have Y2 := K2.size
  clear Cm
  replace Bm := Bm.next b2
  clear b2
  have Cm := Bm.cell
  have hnm' : n1m ≤ 1048576 ∧ n2m ≤ 1048576 := by omega
  have hnxs' : nxs ≤ 1048576 := by omega
  have hixs : ∀ x ∈ xs, x.cnt ≤ 1048576 := fun x hx => by have := wtN_mem Area.cnt hx; omega
  have htxs : wtN Area.wt xs ≤ 100000000 := by rw [Area.wt_total]; omega
  go_wp2_with fail
  refine (toMap_any _ _ _ _ _ _ _ _ (hm.below K2 (Nat.le_refl _)) hnm').mono ?_
  rintro e w3 ⟨A3a, A3b, rfl, M3, b3⟩
  have K3 := bel_then K2 b3
  have Z3 := b3.size
  have Y3 := K3.size
  clear Cm
  replace Bm := Bm.next b3
  clear b3
  have Cm := Bm.cell
  go_wp2_with fail
  refine (toAreaS_any _ _ _ xs _ (hxs.below K3 (Nat.le_refl _)) hnxs' hixs).mono ?_
  rintro e w4 ⟨A4, rfl, M4, b4⟩
  have K4 := bel_then K3 b4
  have Z4 := b4.size
  have Y4 := K4.size
  clear Cm
  replace Bm := Bm.next b4
  replace M3 := M3.next b4
  clear b4
  have Cm := Bm.cell
  go_wp2_with fail
  refine (specLargestPart_any _ _ _ _ _ _ m _ _ _ xs day _ M3.sees hnm' M4.sees hnxs' hixs).mono ?_
  generalize hRe : largestM m xs day = R at *
  have HR := Lib.hid hRe
  clear hRe
  rintro e w5 ⟨A5, c5, rfl, o5, b5⟩
  have M5 := Mine.of o5
  clear o5
  have K5 := bel_then K4 b5
  have Z5 := b5.size
  have Y5 := K5.size
  clear Cm
  replace Bm := Bm.next b5
  replace M3 := M3.next b5
  replace M4 := M4.next b5
  clear b5
  have Cm := Bm.cell
  go_wp2_with fail
  refine (toMap_any _ _ _ _ _ _ _ _ (hm.below K5 (Nat.le_refl _)) hnm').mono ?_
  rintro e w6 ⟨A6a, A6b, rfl, M6, b6⟩
  have K6 := bel_then K5 b6
  have Z6 := b6.size
  have Y6 := K6.size
  clear Cm
  replace Bm := Bm.next b6
  replace M3 := M3.next b6
  replace M4 := M4.next b6
  replace M5 := M5.next b6
  clear b6
  have Cm := Bm.cell
  go_wp2_with fail
  have b7 : Below w6.heap.size w6 (w6.alloc (.cells #[.int .i64 m.width, .int .i64 m.height, .slice A6a n1m n1m, .slice A6b n2m n2m] 29)) := (Below.refl _ _).alloc (Nat.le_refl _) _
  have BXm : Blk (w6.alloc (.cells #[.int .i64 m.width, .int .i64 m.height, .slice A6a n1m n1m, .slice A6b n2m n2m] 29)) w6.heap.size 29 [.int .i64 m.width, .int .i64 m.height, .slice A6a n1m n1m, .slice A6b n2m n2m] := Blk.at_ rfl
  have K7 := bel_then K6 b7
  have Z7 := b7.size
  have Y7 := K7.size
  clear Cm
  replace Bm := Bm.next b7
  replace M3 := M3.next b7
  replace M4 := M4.next b7
  replace M5 := M5.next b7
  replace M6 := M6.next b7
  clear b7
  have Cm := Bm.cell
  have V7 : w6.heap.size + 1 ≤ (w6.alloc (.cells #[.int .i64 m.width, .int .i64 m.height, .slice A6a n1m n1m, .slice A6b n2m n2m] 29)).heap.size := by simp
  generalize (w6.alloc (.cells #[.int .i64 m.width, .int .i64 m.height, .slice A6a n1m n1m, .slice A6b n2m n2m] 29)) = w7 at *
  have CXm := BXm.cell
  go_wp2_with fail
  refine (toAreaS_any _ _ _ xs _ (hxs.below K7 (Nat.le_refl _)) hnxs' hixs).mono ?_
  rintro e w8 ⟨A8, rfl, M8, b8⟩
  have K8 := bel_then K7 b8
  have Z8 := b8.size
  have Y8 := K8.size
  clear Cm CXm
  replace Bm := Bm.next b8
  replace M3 := M3.next b8
  replace M4 := M4.next b8
  replace M5 := M5.next b8
  replace M6 := M6.next b8
  replace BXm := BXm.next b8
  clear b8
  have Cm := Bm.cell
  have CXm := BXm.cell
  go_wp2_with fail
  refine (LargestPart_any _ _ _ _ _ _ m _ _ _ xs day _ M6.sees hnm' M8.sees hnxs' hixs).mono ?_
  rw [HR.out]
  rintro e w9 ⟨A9, c9, rfl, o9, b9⟩
  have M9 := Mine.of o9
  clear o9
  have K9 := bel_then K8 b9
  have Z9 := b9.size
  have Y9 := K9.size
  clear Cm CXm
  replace Bm := Bm.next b9
  replace M3 := M3.next b9
  replace M4 := M4.next b9
  replace M5 := M5.next b9
  replace M6 := M6.next b9
  replace BXm := BXm.next b9
  replace M8 := M8.next b9
  clear b9
  have Cm := Bm.cell
  have CXm := BXm.cell
  go_wp2_with fail
  refine (eqIntS_any _ _ _ _ _ _ _ _ _ _ _ M9.sees M5.sees rfl (by omega)).mono ?_
  rintro e w10 ⟨rfl, q10⟩
  have b10 := q10.below w9.heap.size
  clear q10
  have K10 := bel_then K9 b10
  have Z10 := b10.size
  have Y10 := K10.size
  clear Cm CXm
  replace Bm := Bm.next b10
  replace M3 := M3.next b10
  replace M4 := M4.next b10
  replace M5 := M5.next b10
  replace M6 := M6.next b10
  replace BXm := BXm.next b10
  replace M8 := M8.next b10
  replace M9 := M9.next b10
  clear b10
  have Cm := Bm.cell
  have CXm := BXm.cell
  go_wp2_with fail
  have b11 := (Quiet.one w10).below w10.heap.size
  have K11 := bel_then K10 b11
  have Z11 := b11.size
  have Y11 := K11.size
  replace Bm := Bm.next b11
  replace M3 := M3.next b11
  replace M4 := M4.next b11
  replace M5 := M5.next b11
  replace M6 := M6.next b11
  replace BXm := BXm.next b11
  replace M8 := M8.next b11
  replace M9 := M9.next b11
  clear b11
  go_region_held3 (fun w' => w'.cell? ⟨w.heap.size, 0, none⟩ = some (.int .i64 m.width) ∧ w'.cell? ⟨w.heap.size, 1, none⟩ = some (.int .i64 m.height) ∧ w'.cell? ⟨w.heap.size, 2, none⟩ = some (.slice A1m n1m c1m) ∧ w'.cell? ⟨w.heap.size, 3, none⟩ = some (.slice A2m n2m c2m) ∧ w'.cell? ⟨w6.heap.size, 0, none⟩ = some (.int .i64 m.width) ∧ w'.cell? ⟨w6.heap.size, 1, none⟩ = some (.int .i64 m.height) ∧ w'.cell? ⟨w6.heap.size, 2, none⟩ = some (.slice A6a n1m n1m) ∧ w'.cell? ⟨w6.heap.size, 3, none⟩ = some (.slice A6b n2m n2m)) (go_keep)
    (first
      | (go_at_call 17
         refine (toMap_any _ _ _ _ _ _ _ _ (hm.below K11 (Nat.le_refl _)) hnm').mono ?_
         rintro e w12 ⟨A12a, A12b, rfl, M12, b12⟩
         have K12 := bel_then K11 b12
         have Z12 := b12.size
         have Y12 := K12.size
         clear Cm CXm
         replace Bm := Bm.next b12
         replace M3 := M3.next b12
         replace M4 := M4.next b12
         replace M5 := M5.next b12
         replace M6 := M6.next b12
         replace BXm := BXm.next b12
         replace M8 := M8.next b12
         replace M9 := M9.next b12
         clear b12
         have Cm := Bm.cell
         have CXm := BXm.cell)
      | (go_at_call 20
         refine (eqMap_any _ _ _ _ _ _ _ _ _ _ _ _ _ _ _ M6.sees M12.sees rfl hnm').mono ?_
         rintro e w13 ⟨rfl, b13⟩
         have K13 := bel_then K12 b13
         have Z13 := b13.size
         have Y13 := K13.size
         clear Cm CXm
         replace Bm := Bm.next b13
         replace M3 := M3.next b13
         replace M4 := M4.next b13
         replace M5 := M5.next b13
         replace M6 := M6.next b13
         replace BXm := BXm.next b13
         replace M8 := M8.next b13
         replace M9 := M9.next b13
         replace M12 := M12.next b13
         clear b13
         have Cm := Bm.cell
         have CXm := BXm.cell))
  go_wp2_with fail
  refine (toAreaS_any _ _ _ xs _ (hxs.below K13 (Nat.le_refl _)) hnxs' hixs).mono ?_
  rintro e w14 ⟨A14, rfl, M14, b14⟩
  have K14 := bel_then K13 b14
  have Z14 := b14.size
  have Y14 := K14.size
  clear Cm CXm
  replace Bm := Bm.next b14
  replace M3 := M3.next b14
  replace M4 := M4.next b14
  replace M5 := M5.next b14
  replace M6 := M6.next b14
  replace BXm := BXm.next b14
  replace M8 := M8.next b14
  replace M9 := M9.next b14
  replace M12 := M12.next b14
  clear b14
  have Cm := Bm.cell
  have CXm := BXm.cell
  go_wp2_with fail
  refine (eqAreaS_any _ _ _ _ _ _ _ _ _ _ _ M8.sees M14.sees rfl (by omega) hixs).mono ?_
  rintro e w15 ⟨rfl, b15⟩
  have K15 := bel_then K14 b15
  have Z15 := b15.size
  have Y15 := K15.size
  clear Cm CXm
  replace Bm := Bm.next b15
  replace M3 := M3.next b15
  replace M4 := M4.next b15
  replace M5 := M5.next b15
  replace M6 := M6.next b15
  replace BXm := BXm.next b15
  replace M8 := M8.next b15
  replace M9 := M9.next b15
  replace M12 := M12.next b15
  replace M14 := M14.next b15
  clear b15
  have Cm := Bm.cell
  have CXm := BXm.cell
  go_wp2_with fail
  refine (markMap_any _ _ _ _ _ _ _ _ _ _ M6 (by omega) (by omega) hnm').mono ?_
  rintro e w16 ⟨rfl, m16, q16⟩
  replace M6 := m16
  clear m16
  have b16 : Below w.heap.size w15 w16 := q16.below (fun i hi => by have := hi.1; omega) (by omega)
  have K16 := K15.trans b16
  have Z16 := q16.size
  have Y16 := K16.size
  clear b16
  clear Cm CXm
  replace Bm := Bm.only q16 (fun h => by have := h.1; have := h.2; omega)
  replace M3 := M3.only q16 (fun i h1 h2 => by have := h1.1; have := h1.2; have := h2.1; have := h2.2; omega)
  replace M4 := M4.only q16 (fun i h1 h2 => by have := h1.1; have := h1.2; have := h2.1; have := h2.2; omega)
  replace M5 := M5.only q16 (fun i h1 h2 => by have := h1.1; have := h1.2; have := h2.1; have := h2.2; omega)
  replace BXm := BXm.only q16 (fun h => by have := h.1; have := h.2; omega)
  replace M8 := M8.only q16 (fun i h1 h2 => by have := h1.1; have := h1.2; have := h2.1; have := h2.2; omega)
  replace M9 := M9.only q16 (fun i h1 h2 => by have := h1.1; have := h1.2; have := h2.1; have := h2.2; omega)
  replace M12 := M12.only q16 (fun i h1 h2 => by have := h1.1; have := h1.2; have := h2.1; have := h2.2; omega)
  replace M14 := M14.only q16 (fun i h1 h2 => by have := h1.1; have := h1.2; have := h2.1; have := h2.2; omega)
  clear q16
  have Cm := Bm.cell
  have CXm := BXm.cell
  go_wp2_with fail
  refine (markAreaS_any _ _ _ _ _ _ _ M8 (by omega) (by omega) (by omega)).mono ?_
  rintro e w17 ⟨rfl, m17, q17⟩
  replace M8 := m17
  clear m17
  have b17 : Below w.heap.size w16 w17 := q17.below (fun i hi => by have := hi.1; omega) (by omega)
  have K17 := K16.trans b17
  have Z17 := q17.size
  have Y17 := K17.size
  clear b17
  clear Cm CXm
  replace Bm := Bm.only q17 (fun h => by have := h.1; have := h.2; omega)
  replace M3 := M3.only q17 (fun i h1 h2 => by have := h1.1; have := h1.2; have := h2.1; have := h2.2; omega)
  replace M4 := M4.only q17 (fun i h1 h2 => by have := h1.1; have := h1.2; have := h2.1; have := h2.2; omega)
  replace M5 := M5.only q17 (fun i h1 h2 => by have := h1.1; have := h1.2; have := h2.1; have := h2.2; omega)
  replace M6 := M6.only q17 (fun i h1 h2 => by have := h1.1; have := h1.2; have := h2.1; have := h2.2; omega)
  replace BXm := BXm.only q17 (fun h => by have := h.1; have := h.2; omega)
  replace M9 := M9.only q17 (fun i h1 h2 => by have := h1.1; have := h1.2; have := h2.1; have := h2.2; omega)
  replace M12 := M12.only q17 (fun i h1 h2 => by have := h1.1; have := h1.2; have := h2.1; have := h2.2; omega)
  replace M14 := M14.only q17 (fun i h1 h2 => by have := h1.1; have := h1.2; have := h2.1; have := h2.2; omega)
  clear q17
  have Cm := Bm.cell
  have CXm := BXm.cell
  go_wp2_with fail
  refine (eqIntS_any _ _ _ _ _ _ _ _ _ _ _ M9.sees M5.sees rfl (by omega)).mono ?_
  rintro e w18 ⟨rfl, q18⟩
  have b18 := q18.below w17.heap.size
  clear q18
  have K18 := bel_then K17 b18
  have Z18 := b18.size
  have Y18 := K18.size
  clear Cm CXm
  replace Bm := Bm.next b18
  replace M3 := M3.next b18
  replace M4 := M4.next b18
  replace M5 := M5.next b18
  replace M6 := M6.next b18
  replace BXm := BXm.next b18
  replace M8 := M8.next b18
  replace M9 := M9.next b18
  replace M12 := M12.next b18
  replace M14 := M14.next b18
  clear b18
  have Cm := Bm.cell
  have CXm := BXm.cell
  go_wp2_with fail
  refine (markIntS_any _ _ _ _ _ _ _ _ M9 (by omega) (by omega) (by omega)).mono ?_
  rintro e w19 ⟨rfl, m19, q19⟩
  replace M9 := m19
  clear m19
  have b19 : Below w.heap.size w18 w19 := q19.below (fun i hi => by have := hi.1; omega) (by omega)
  have K19 := K18.trans b19
  have Z19 := q19.size
  have Y19 := K19.size
  clear b19
  clear Cm CXm
  replace Bm := Bm.only q19 (fun h => by have := h.1; have := h.2; omega)
  replace M3 := M3.only q19 (fun i h1 h2 => by have := h1.1; have := h1.2; have := h2.1; have := h2.2; omega)
  replace M4 := M4.only q19 (fun i h1 h2 => by have := h1.1; have := h1.2; have := h2.1; have := h2.2; omega)
  replace M5 := M5.only q19 (fun i h1 h2 => by have := h1.1; have := h1.2; have := h2.1; have := h2.2; omega)
  replace M6 := M6.only q19 (fun i h1 h2 => by have := h1.1; have := h1.2; have := h2.1; have := h2.2; omega)
  replace BXm := BXm.only q19 (fun h => by have := h.1; have := h.2; omega)
  replace M8 := M8.only q19 (fun i h1 h2 => by have := h1.1; have := h1.2; have := h2.1; have := h2.2; omega)
  replace M12 := M12.only q19 (fun i h1 h2 => by have := h1.1; have := h1.2; have := h2.1; have := h2.2; omega)
  replace M14 := M14.only q19 (fun i h1 h2 => by have := h1.1; have := h1.2; have := h2.1; have := h2.2; omega)
  clear q19
  have Cm := Bm.cell
  have CXm := BXm.cell
  go_wp2_with fail
  refine (heldIntS_any _ _ _ _ _ _ M9.sees (by omega) (by omega) (by omega)).mono ?_
  rintro e w20 ⟨rfl, q20⟩
  have b20 := q20.below w19.heap.size
  clear q20
  have K20 := bel_then K19 b20
  have Z20 := b20.size
  have Y20 := K20.size
  clear Cm CXm
  replace Bm := Bm.next b20
  replace M3 := M3.next b20
  replace M4 := M4.next b20
  replace M5 := M5.next b20
  replace M6 := M6.next b20
  replace BXm := BXm.next b20
  replace M8 := M8.next b20
  replace M9 := M9.next b20
  replace M12 := M12.next b20
  replace M14 := M14.next b20
  clear b20
  have Cm := Bm.cell
  have CXm := BXm.cell
  go_wp2_with fail
  refine (toMap_any _ _ _ _ _ _ _ _ (hm.below K20 (Nat.le_refl _)) hnm').mono ?_
  rintro e w21 ⟨A21a, A21b, rfl, M21, b21⟩
  have K21 := bel_then K20 b21
  have Z21 := b21.size
  have Y21 := K21.size
  clear Cm CXm
  replace Bm := Bm.next b21
  replace M3 := M3.next b21
  replace M4 := M4.next b21
  replace M5 := M5.next b21
  replace M6 := M6.next b21
  replace BXm := BXm.next b21
  replace M8 := M8.next b21
  replace M9 := M9.next b21
  replace M12 := M12.next b21
  replace M14 := M14.next b21
  clear b21
  have Cm := Bm.cell
  have CXm := BXm.cell
  go_wp2_with fail
  refine (toAreaS_any _ _ _ xs _ (hxs.below K21 (Nat.le_refl _)) hnxs' hixs).mono ?_
  rintro e w22 ⟨A22, rfl, M22, b22⟩
  have K22 := bel_then K21 b22
  have Z22 := b22.size
  have Y22 := K22.size
  clear Cm CXm
  replace Bm := Bm.next b22
  replace M3 := M3.next b22
  replace M4 := M4.next b22
  replace M5 := M5.next b22
  replace M6 := M6.next b22
  replace BXm := BXm.next b22
  replace M8 := M8.next b22
  replace M9 := M9.next b22
  replace M12 := M12.next b22
  replace M14 := M14.next b22
  replace M21 := M21.next b22
  clear b22
  have Cm := Bm.cell
  have CXm := BXm.cell
  go_wp2_with fail
  refine (LargestPart_any _ _ _ _ _ _ m _ _ _ xs day _ M21.sees hnm' M22.sees hnxs' hixs).mono ?_
  rw [HR.out]
  rintro e w23 ⟨A23, c23, rfl, o23, b23⟩
  have M23 := Mine.of o23
  clear o23
  have K23 := bel_then K22 b23
  have Z23 := b23.size
  have Y23 := K23.size
  clear Cm CXm
  replace Bm := Bm.next b23
  replace M3 := M3.next b23
  replace M4 := M4.next b23
  replace M5 := M5.next b23
  replace M6 := M6.next b23
  replace BXm := BXm.next b23
  replace M8 := M8.next b23
  replace M9 := M9.next b23
  replace M12 := M12.next b23
  replace M14 := M14.next b23
  replace M21 := M21.next b23
  replace M22 := M22.next b23
  clear b23
  have Cm := Bm.cell
  have CXm := BXm.cell
  go_wp2_with fail
  refine (eqIntS_any _ _ _ _ _ _ _ _ _ _ _ M23.sees M5.sees rfl (by omega)).mono ?_
  rintro e w24 ⟨rfl, q24⟩
  have b24 := q24.below w23.heap.size
  clear q24
  have K24 := bel_then K23 b24
  have Z24 := b24.size
  have Y24 := K24.size
  clear Cm CXm
  replace Bm := Bm.next b24
  replace M3 := M3.next b24
  replace M4 := M4.next b24
  replace M5 := M5.next b24
  replace M6 := M6.next b24
  replace BXm := BXm.next b24
  replace M8 := M8.next b24
  replace M9 := M9.next b24
  replace M12 := M12.next b24
  replace M14 := M14.next b24
  replace M21 := M21.next b24
  replace M22 := M22.next b24
  replace M23 := M23.next b24
  clear b24
  have Cm := Bm.cell
  have CXm := BXm.cell
  go_wp2_with fail
  refine (heldIntS_any _ _ _ _ _ _ M9.sees (by omega) (by omega) (by omega)).mono ?_
  rintro e w25 ⟨rfl, q25⟩
  have b25 := q25.below w24.heap.size
  clear q25
  have K25 := bel_then K24 b25
  have Z25 := b25.size
  have Y25 := K25.size
  clear Cm CXm
  replace Bm := Bm.next b25
  replace M3 := M3.next b25
  replace M4 := M4.next b25
  replace M5 := M5.next b25
  replace M6 := M6.next b25
  replace BXm := BXm.next b25
  replace M8 := M8.next b25
  replace M9 := M9.next b25
  replace M12 := M12.next b25
  replace M14 := M14.next b25
  replace M21 := M21.next b25
  replace M22 := M22.next b25
  replace M23 := M23.next b25
  clear b25
  have Cm := Bm.cell
  have CXm := BXm.cell
  go_wp2_with fail
  go_ret
  exact ⟨rfl, K25⟩

end Go.Proofs.Ytljiflbaknakaaa
