/- The walk of the law FnExactWayErrors. -/
import Derived.Test.YtljiflbaknakaaaWay3
namespace Go.Proofs.Ytljiflbaknakaaa
open Go.RowKit

set_option maxRecDepth 100000 in
set_option maxHeartbeats 2000000 in
theorem FnExactWayErrors_any (A1m A2m : Option Addr) (n1m n2m c1m c2m : Nat) (m : MapV) (Axs : Option Addr) (nxs cxs : Nat) (xs : List Area) (day : Int) (Ays : Option Addr) (nys cys : Nat) (ys : List Int) (w : World) (hm : SeesMap w A1m n1m A2m n2m m) (hnm : n1m ≤ 9223372036854775807 ∧ n2m ≤ 9223372036854775807) (hxs : SeesN areaSh w 0 Axs nxs xs) (hnxs : nxs ≤ 9223372036854775807) (hkxs : ∀ x ∈ xs, x.cnt ≤ 9223372036854775807) (hys : Sees w 0 1 Ays nys (ints ys)) (hnys : nys ≤ 9223372036854775807) :
    Calls Try.prog 9 #[.agg #[.int .i64 m.width, .int .i64 m.height, .slice A1m n1m c1m, .slice A2m n2m c2m], .slice Axs nxs cxs, .int .i64 day, .slice Ays nys cys] w fun e w' => e = .returned (.bool true) ∧ Below w.heap.size w w' := by
  have hR := wayErrs_len m xs day ys
  have hlxs := hxs.count
  have hlys := hys.icount
  have K0 := Below.refl w.heap.size w
  go_enter Try.func9, Try.ntmps9
  rcases Nat.lt_or_ge 1048576 nys with hbys | hbys
  · go_wp2_with fail
    go_ret
    exact ⟨rfl, ((Below.refl w.heap.size w).alloc (by simp) (.cells #[.int .i64 m.width, .int .i64 m.height, .slice A1m n1m c1m, .slice A2m n2m c2m] 24))⟩
  go_wp2_with fail
  replace K0 : Below w.heap.size w (w.alloc (.cells #[.int .i64 m.width, .int .i64 m.height, .slice A1m n1m c1m, .slice A2m n2m c2m] 24)) := ((Below.refl w.heap.size w).alloc (by simp) (.cells #[.int .i64 m.width, .int .i64 m.height, .slice A1m n1m c1m, .slice A2m n2m c2m] 24))
  have Bm : Blk (w.alloc (.cells #[.int .i64 m.width, .int .i64 m.height, .slice A1m n1m c1m, .slice A2m n2m c2m] 24)) (w.heap.size) 24 [.int .i64 m.width, .int .i64 m.height, .slice A1m n1m c1m, .slice A2m n2m c2m] := (Blk.at_ (by simp))
  have Y0 : w.heap.size + 1 ≤ (w.alloc (.cells #[.int .i64 m.width, .int .i64 m.height, .slice A1m n1m c1m, .slice A2m n2m c2m] 24)).heap.size := by simp
  generalize (w.alloc (.cells #[.int .i64 m.width, .int .i64 m.height, .slice A1m n1m c1m, .slice A2m n2m c2m] 24)) = w0 at *
  have Cm := Bm.cell
  go_wp2_with fail
  refine (szMap_any _ _ _ _ _ _ _ _ _ _ hnm (by omega) (by omega)).mono ?_
  rintro e w1 ⟨lm, rfl, b1, rfl | hlm⟩
  · go_wp2_with fail
    go_ret
    exact ⟨rfl, bel_then K0 b1⟩
  have K1 := bel_then K0 b1
  have Z1 := b1.size
  have Y1 := K1.size
  clear Cm
  replace Bm := Bm.next b1
  clear b1
  have Cm := Bm.cell
  go_wp2_with fail
  refine (szAreaS_any _ _ _ xs _ _ (hxs.below K1 (Nat.le_refl _)) hkxs hnxs (by omega) (by omega)).mono ?_
  rintro e w2 ⟨lxs, rfl, b2, rfl | ⟨pxs, qxs⟩⟩
  · go_wp2_with fail
    go_ret
    exact ⟨rfl, bel_then K1 b2⟩
  have K2 := bel_then K1 b2
  have Z2 := b2.size
  have Y2 := K2.size
  clear Cm
  replace Bm := Bm.next b2
  clear b2
  have Cm := Bm.cell
  have hnm' : n1m ≤ 1048576 ∧ n2m ≤ 1048576 := by omega
  have hnxs' : nxs ≤ 1048576 := by omega
  have hixs : ∀ x ∈ xs, x.cnt ≤ 1048576 := fun x hx => by have := wtN_mem Area.cnt hx; omega
  have htxs : wtN Area.wt xs ≤ 100000000 := by rw [Area.wt_total]; omega
  have hnys' : nys ≤ 1048576 := by omega
  go_wp2_with fail
  refine (toMap_any _ _ _ _ _ _ _ _ (hm.below K2 (Nat.le_refl _)) hnm').mono ?_
  rintro e w3 ⟨A3a, A3b, rfl, M3, b3⟩
  have K3 := bel_then K2 b3
  have Z3 := b3.size
  have Y3 := K3.size
  clear Cm
  replace Bm := Bm.next b3
  clear b3
  have Cm := Bm.cell
  go_wp2_with fail
  refine (toAreaS_any _ _ _ xs _ (hxs.below K3 (Nat.le_refl _)) hnxs' hixs).mono ?_
  rintro e w4 ⟨A4, rfl, M4, b4⟩
  have K4 := bel_then K3 b4
  have Z4 := b4.size
  have Y4 := K4.size
  clear Cm
  replace Bm := Bm.next b4
  replace M3 := M3.next b4
  clear b4
  have Cm := Bm.cell
  go_wp2_with fail
  refine (toIntS_any _ _ _ _ _ (hys.below K4 (Nat.le_refl _)) hnys').mono ?_
  rintro e w5 ⟨A5, rfl, o5, b5⟩
  have M5 := Mine.of o5
  clear o5
  have K5 := bel_then K4 b5
  have Z5 := b5.size
  have Y5 := K5.size
  clear Cm
  replace Bm := Bm.next b5
  replace M3 := M3.next b5
  replace M4 := M4.next b5
  clear b5
  have Cm := Bm.cell
  go_wp2_with fail
  refine (specWayErrors_any _ _ _ _ _ _ m _ _ _ xs day _ _ _ ys _ M3.sees hnm' M4.sees hnxs' hixs M5.sees hnys').mono ?_
  generalize hRe : wayErrs m xs day ys = R at *
  have HR := Lib.hid hRe
  clear hRe
  rintro e w6 ⟨A6, c6, rfl, o6, b6⟩
  have M6 := Mine.of o6
  clear o6
  have K6 := bel_then K5 b6
  have Z6 := b6.size
  have Y6 := K6.size
  clear Cm
  replace Bm := Bm.next b6
  replace M3 := M3.next b6
  replace M4 := M4.next b6
  replace M5 := M5.next b6
  clear b6
  have Cm := Bm.cell
  go_wp2_with fail
  refine (toMap_any _ _ _ _ _ _ _ _ (hm.below K6 (Nat.le_refl _)) hnm').mono ?_
  rintro e w7 ⟨A7a, A7b, rfl, M7, b7⟩
  have K7 := bel_then K6 b7
  have Z7 := b7.size
  have Y7 := K7.size
  clear Cm
  replace Bm := Bm.next b7
  replace M3 := M3.next b7
  replace M4 := M4.next b7
  replace M5 := M5.next b7
  replace M6 := M6.next b7
  clear b7
  have Cm := Bm.cell
  go_wp2_with fail
  have b8 : Below w7.heap.size w7 (w7.alloc (.cells #[.int .i64 m.width, .int .i64 m.height, .slice A7a n1m n1m, .slice A7b n2m n2m] 29)) := (Below.refl _ _).alloc (Nat.le_refl _) _
  have BXm : Blk (w7.alloc (.cells #[.int .i64 m.width, .int .i64 m.height, .slice A7a n1m n1m, .slice A7b n2m n2m] 29)) w7.heap.size 29 [.int .i64 m.width, .int .i64 m.height, .slice A7a n1m n1m, .slice A7b n2m n2m] := Blk.at_ rfl
  have K8 := bel_then K7 b8
  have Z8 := b8.size
  have Y8 := K8.size
  clear Cm
  replace Bm := Bm.next b8
  replace M3 := M3.next b8
  replace M4 := M4.next b8
  replace M5 := M5.next b8
  replace M6 := M6.next b8
  replace M7 := M7.next b8
  clear b8
  have Cm := Bm.cell
  have V8 : w7.heap.size + 1 ≤ (w7.alloc (.cells #[.int .i64 m.width, .int .i64 m.height, .slice A7a n1m n1m, .slice A7b n2m n2m] 29)).heap.size := by simp
  generalize (w7.alloc (.cells #[.int .i64 m.width, .int .i64 m.height, .slice A7a n1m n1m, .slice A7b n2m n2m] 29)) = w8 at *
  have CXm := BXm.cell
  go_wp2_with fail
  refine (toAreaS_any _ _ _ xs _ (hxs.below K8 (Nat.le_refl _)) hnxs' hixs).mono ?_
  rintro e w9 ⟨A9, rfl, M9, b9⟩
  have K9 := bel_then K8 b9
  have Z9 := b9.size
  have Y9 := K9.size
  clear Cm CXm
  replace Bm := Bm.next b9
  replace M3 := M3.next b9
  replace M4 := M4.next b9
  replace M5 := M5.next b9
  replace M6 := M6.next b9
  replace M7 := M7.next b9
  replace BXm := BXm.next b9
  clear b9
  have Cm := Bm.cell
  have CXm := BXm.cell
  go_wp2_with fail
  refine (toIntS_any _ _ _ _ _ (hys.below K9 (Nat.le_refl _)) hnys').mono ?_
  rintro e w10 ⟨A10, rfl, o10, b10⟩
  have M10 := Mine.of o10
  clear o10
  have K10 := bel_then K9 b10
  have Z10 := b10.size
  have Y10 := K10.size
  clear Cm CXm
  replace Bm := Bm.next b10
  replace M3 := M3.next b10
  replace M4 := M4.next b10
  replace M5 := M5.next b10
  replace M6 := M6.next b10
  replace M7 := M7.next b10
  replace BXm := BXm.next b10
  replace M9 := M9.next b10
  clear b10
  have Cm := Bm.cell
  have CXm := BXm.cell
  go_wp2_with fail
  refine (WayErrors_any _ _ _ _ _ _ m _ _ _ xs day _ _ _ ys _ M7.sees hnm' M9.sees hnxs' hixs M10.sees hnys').mono ?_
  rw [HR.out]
  rintro e w11 ⟨A11, c11, rfl, o11, b11⟩
  have M11 := Mine.of o11
  clear o11
  have K11 := bel_then K10 b11
  have Z11 := b11.size
  have Y11 := K11.size
  clear Cm CXm
  replace Bm := Bm.next b11
  replace M3 := M3.next b11
  replace M4 := M4.next b11
  replace M5 := M5.next b11
  replace M6 := M6.next b11
  replace M7 := M7.next b11
  replace BXm := BXm.next b11
  replace M9 := M9.next b11
  replace M10 := M10.next b11
  clear b11
  have Cm := Bm.cell
  have CXm := BXm.cell
  go_wp2_with fail
  refine (eqIntS_any _ _ _ _ _ _ _ _ _ _ _ M11.sees M6.sees rfl (by omega)).mono ?_
  rintro e w12 ⟨rfl, q12⟩
  have b12 := q12.below w11.heap.size
  clear q12
  have K12 := bel_then K11 b12
  have Z12 := b12.size
  have Y12 := K12.size
  clear Cm CXm
  replace Bm := Bm.next b12
  replace M3 := M3.next b12
  replace M4 := M4.next b12
  replace M5 := M5.next b12
  replace M6 := M6.next b12
  replace M7 := M7.next b12
  replace BXm := BXm.next b12
  replace M9 := M9.next b12
  replace M10 := M10.next b12
  replace M11 := M11.next b12
  clear b12
  have Cm := Bm.cell
  have CXm := BXm.cell
  go_wp2_with fail
  have b13 := (Quiet.one w12).below w12.heap.size
  have K13 := bel_then K12 b13
  have Z13 := b13.size
  have Y13 := K13.size
  replace Bm := Bm.next b13
  replace M3 := M3.next b13
  replace M4 := M4.next b13
  replace M5 := M5.next b13
  replace M6 := M6.next b13
  replace M7 := M7.next b13
  replace BXm := BXm.next b13
  replace M9 := M9.next b13
  replace M10 := M10.next b13
  replace M11 := M11.next b13
  clear b13
  go_region_held3 (fun w' => w'.cell? ⟨w.heap.size, 0, none⟩ = some (.int .i64 m.width) ∧ w'.cell? ⟨w.heap.size, 1, none⟩ = some (.int .i64 m.height) ∧ w'.cell? ⟨w.heap.size, 2, none⟩ = some (.slice A1m n1m c1m) ∧ w'.cell? ⟨w.heap.size, 3, none⟩ = some (.slice A2m n2m c2m) ∧ w'.cell? ⟨w7.heap.size, 0, none⟩ = some (.int .i64 m.width) ∧ w'.cell? ⟨w7.heap.size, 1, none⟩ = some (.int .i64 m.height) ∧ w'.cell? ⟨w7.heap.size, 2, none⟩ = some (.slice A7a n1m n1m) ∧ w'.cell? ⟨w7.heap.size, 3, none⟩ = some (.slice A7b n2m n2m)) (go_keep)
    (first
      | (go_at_call 17
         refine (toMap_any _ _ _ _ _ _ _ _ (hm.below K13 (Nat.le_refl _)) hnm').mono ?_
         rintro e w14 ⟨A14a, A14b, rfl, M14, b14⟩
         have K14 := bel_then K13 b14
         have Z14 := b14.size
         have Y14 := K14.size
         clear Cm CXm
         replace Bm := Bm.next b14
         replace M3 := M3.next b14
         replace M4 := M4.next b14
         replace M5 := M5.next b14
         replace M6 := M6.next b14
         replace M7 := M7.next b14
         replace BXm := BXm.next b14
         replace M9 := M9.next b14
         replace M10 := M10.next b14
         replace M11 := M11.next b14
         clear b14
         have Cm := Bm.cell
         have CXm := BXm.cell)
      | (go_at_call 20
         refine (eqMap_any _ _ _ _ _ _ _ _ _ _ _ _ _ _ _ M7.sees M14.sees rfl hnm').mono ?_
         rintro e w15 ⟨rfl, b15⟩
         have K15 := bel_then K14 b15
         have Z15 := b15.size
         have Y15 := K15.size
         clear Cm CXm
         replace Bm := Bm.next b15
         replace M3 := M3.next b15
         replace M4 := M4.next b15
         replace M5 := M5.next b15
         replace M6 := M6.next b15
         replace M7 := M7.next b15
         replace BXm := BXm.next b15
         replace M9 := M9.next b15
         replace M10 := M10.next b15
         replace M11 := M11.next b15
         replace M14 := M14.next b15
         clear b15
         have Cm := Bm.cell
         have CXm := BXm.cell))
  go_wp2_with fail
  refine (toAreaS_any _ _ _ xs _ (hxs.below K15 (Nat.le_refl _)) hnxs' hixs).mono ?_
  rintro e w16 ⟨A16, rfl, M16, b16⟩
  have K16 := bel_then K15 b16
  have Z16 := b16.size
  have Y16 := K16.size
  clear Cm CXm
  replace Bm := Bm.next b16
  replace M3 := M3.next b16
  replace M4 := M4.next b16
  replace M5 := M5.next b16
  replace M6 := M6.next b16
  replace M7 := M7.next b16
  replace BXm := BXm.next b16
  replace M9 := M9.next b16
  replace M10 := M10.next b16
  replace M11 := M11.next b16
  replace M14 := M14.next b16
  clear b16
  have Cm := Bm.cell
  have CXm := BXm.cell
  go_wp2_with fail
  refine (eqAreaS_any _ _ _ _ _ _ _ _ _ _ _ M9.sees M16.sees rfl (by omega) hixs).mono ?_
  rintro e w17 ⟨rfl, b17⟩
  have K17 := bel_then K16 b17
  have Z17 := b17.size
  have Y17 := K17.size
  clear Cm CXm
  replace Bm := Bm.next b17
  replace M3 := M3.next b17
  replace M4 := M4.next b17
  replace M5 := M5.next b17
  replace M6 := M6.next b17
  replace M7 := M7.next b17
  replace BXm := BXm.next b17
  replace M9 := M9.next b17
  replace M10 := M10.next b17
  replace M11 := M11.next b17
  replace M14 := M14.next b17
  replace M16 := M16.next b17
  clear b17
  have Cm := Bm.cell
  have CXm := BXm.cell
  go_wp2_with fail
  refine (toIntS_any _ _ _ _ _ (hys.below K17 (Nat.le_refl _)) hnys').mono ?_
  rintro e w18 ⟨A18, rfl, o18, b18⟩
  have M18 := Mine.of o18
  clear o18
  have K18 := bel_then K17 b18
  have Z18 := b18.size
  have Y18 := K18.size
  clear Cm CXm
  replace Bm := Bm.next b18
  replace M3 := M3.next b18
  replace M4 := M4.next b18
  replace M5 := M5.next b18
  replace M6 := M6.next b18
  replace M7 := M7.next b18
  replace BXm := BXm.next b18
  replace M9 := M9.next b18
  replace M10 := M10.next b18
  replace M11 := M11.next b18
  replace M14 := M14.next b18
  replace M16 := M16.next b18
  clear b18
  have Cm := Bm.cell
  have CXm := BXm.cell
  go_wp2_with fail
  refine (eqIntS_any _ _ _ _ _ _ _ _ _ _ _ M10.sees M18.sees rfl (by omega)).mono ?_
  rintro e w19 ⟨rfl, q19⟩
  have b19 := q19.below w18.heap.size
  clear q19
  have K19 := bel_then K18 b19
  have Z19 := b19.size
  have Y19 := K19.size
  clear Cm CXm
  replace Bm := Bm.next b19
  replace M3 := M3.next b19
  replace M4 := M4.next b19
  replace M5 := M5.next b19
  replace M6 := M6.next b19
  replace M7 := M7.next b19
  replace BXm := BXm.next b19
  replace M9 := M9.next b19
  replace M10 := M10.next b19
  replace M11 := M11.next b19
  replace M14 := M14.next b19
  replace M16 := M16.next b19
  replace M18 := M18.next b19
  clear b19
  have Cm := Bm.cell
  have CXm := BXm.cell
  go_wp2_with fail
  refine (markMap_any _ _ _ _ _ _ _ _ _ _ M7 (by omega) (by omega) hnm').mono ?_
  rintro e w20 ⟨rfl, m20, q20⟩
  replace M7 := m20
  clear m20
  have b20 : Below w.heap.size w19 w20 := q20.below (fun i hi => by have := hi.1; omega) (by omega)
  have K20 := K19.trans b20
  have Z20 := q20.size
  have Y20 := K20.size
  clear b20
  clear Cm CXm
  replace Bm := Bm.only q20 (fun h => by have := h.1; have := h.2; omega)
  replace M3 := M3.only q20 (fun i h1 h2 => by have := h1.1; have := h1.2; have := h2.1; have := h2.2; omega)
  replace M4 := M4.only q20 (fun i h1 h2 => by have := h1.1; have := h1.2; have := h2.1; have := h2.2; omega)
  replace M5 := M5.only q20 (fun i h1 h2 => by have := h1.1; have := h1.2; have := h2.1; have := h2.2; omega)
  replace M6 := M6.only q20 (fun i h1 h2 => by have := h1.1; have := h1.2; have := h2.1; have := h2.2; omega)
  replace BXm := BXm.only q20 (fun h => by have := h.1; have := h.2; omega)
  replace M9 := M9.only q20 (fun i h1 h2 => by have := h1.1; have := h1.2; have := h2.1; have := h2.2; omega)
  replace M10 := M10.only q20 (fun i h1 h2 => by have := h1.1; have := h1.2; have := h2.1; have := h2.2; omega)
  replace M11 := M11.only q20 (fun i h1 h2 => by have := h1.1; have := h1.2; have := h2.1; have := h2.2; omega)
  replace M14 := M14.only q20 (fun i h1 h2 => by have := h1.1; have := h1.2; have := h2.1; have := h2.2; omega)
  replace M16 := M16.only q20 (fun i h1 h2 => by have := h1.1; have := h1.2; have := h2.1; have := h2.2; omega)
  replace M18 := M18.only q20 (fun i h1 h2 => by have := h1.1; have := h1.2; have := h2.1; have := h2.2; omega)
  clear q20
  have Cm := Bm.cell
  have CXm := BXm.cell
  go_wp2_with fail
  refine (markAreaS_any _ _ _ _ _ _ _ M9 (by omega) (by omega) (by omega)).mono ?_
  rintro e w21 ⟨rfl, m21, q21⟩
  replace M9 := m21
  clear m21
  have b21 : Below w.heap.size w20 w21 := q21.below (fun i hi => by have := hi.1; omega) (by omega)
  have K21 := K20.trans b21
  have Z21 := q21.size
  have Y21 := K21.size
  clear b21
  clear Cm CXm
  replace Bm := Bm.only q21 (fun h => by have := h.1; have := h.2; omega)
  replace M3 := M3.only q21 (fun i h1 h2 => by have := h1.1; have := h1.2; have := h2.1; have := h2.2; omega)
  replace M4 := M4.only q21 (fun i h1 h2 => by have := h1.1; have := h1.2; have := h2.1; have := h2.2; omega)
  replace M5 := M5.only q21 (fun i h1 h2 => by have := h1.1; have := h1.2; have := h2.1; have := h2.2; omega)
  replace M6 := M6.only q21 (fun i h1 h2 => by have := h1.1; have := h1.2; have := h2.1; have := h2.2; omega)
  replace M7 := M7.only q21 (fun i h1 h2 => by have := h1.1; have := h1.2; have := h2.1; have := h2.2; omega)
  replace BXm := BXm.only q21 (fun h => by have := h.1; have := h.2; omega)
  replace M10 := M10.only q21 (fun i h1 h2 => by have := h1.1; have := h1.2; have := h2.1; have := h2.2; omega)
  replace M11 := M11.only q21 (fun i h1 h2 => by have := h1.1; have := h1.2; have := h2.1; have := h2.2; omega)
  replace M14 := M14.only q21 (fun i h1 h2 => by have := h1.1; have := h1.2; have := h2.1; have := h2.2; omega)
  replace M16 := M16.only q21 (fun i h1 h2 => by have := h1.1; have := h1.2; have := h2.1; have := h2.2; omega)
  replace M18 := M18.only q21 (fun i h1 h2 => by have := h1.1; have := h1.2; have := h2.1; have := h2.2; omega)
  clear q21
  have Cm := Bm.cell
  have CXm := BXm.cell
  go_wp2_with fail
  refine (markIntS_any _ _ _ _ _ _ _ _ M10 (by omega) (by omega) (by omega)).mono ?_
  rintro e w22 ⟨rfl, m22, q22⟩
  replace M10 := m22
  clear m22
  have b22 : Below w.heap.size w21 w22 := q22.below (fun i hi => by have := hi.1; omega) (by omega)
  have K22 := K21.trans b22
  have Z22 := q22.size
  have Y22 := K22.size
  clear b22
  clear Cm CXm
  replace Bm := Bm.only q22 (fun h => by have := h.1; have := h.2; omega)
  replace M3 := M3.only q22 (fun i h1 h2 => by have := h1.1; have := h1.2; have := h2.1; have := h2.2; omega)
  replace M4 := M4.only q22 (fun i h1 h2 => by have := h1.1; have := h1.2; have := h2.1; have := h2.2; omega)
  replace M5 := M5.only q22 (fun i h1 h2 => by have := h1.1; have := h1.2; have := h2.1; have := h2.2; omega)
  replace M6 := M6.only q22 (fun i h1 h2 => by have := h1.1; have := h1.2; have := h2.1; have := h2.2; omega)
  replace M7 := M7.only q22 (fun i h1 h2 => by have := h1.1; have := h1.2; have := h2.1; have := h2.2; omega)
  replace BXm := BXm.only q22 (fun h => by have := h.1; have := h.2; omega)
  replace M9 := M9.only q22 (fun i h1 h2 => by have := h1.1; have := h1.2; have := h2.1; have := h2.2; omega)
  replace M11 := M11.only q22 (fun i h1 h2 => by have := h1.1; have := h1.2; have := h2.1; have := h2.2; omega)
  replace M14 := M14.only q22 (fun i h1 h2 => by have := h1.1; have := h1.2; have := h2.1; have := h2.2; omega)
  replace M16 := M16.only q22 (fun i h1 h2 => by have := h1.1; have := h1.2; have := h2.1; have := h2.2; omega)
  replace M18 := M18.only q22 (fun i h1 h2 => by have := h1.1; have := h1.2; have := h2.1; have := h2.2; omega)
  clear q22
  have Cm := Bm.cell
  have CXm := BXm.cell
  go_wp2_with fail
  refine (eqIntS_any _ _ _ _ _ _ _ _ _ _ _ M11.sees M6.sees rfl (by omega)).mono ?_
  rintro e w23 ⟨rfl, q23⟩
  have b23 := q23.below w22.heap.size
  clear q23
  have K23 := bel_then K22 b23
  have Z23 := b23.size
  have Y23 := K23.size
  clear Cm CXm
  replace Bm := Bm.next b23
  replace M3 := M3.next b23
  replace M4 := M4.next b23
  replace M5 := M5.next b23
  replace M6 := M6.next b23
  replace M7 := M7.next b23
  replace BXm := BXm.next b23
  replace M9 := M9.next b23
  replace M10 := M10.next b23
  replace M11 := M11.next b23
  replace M14 := M14.next b23
  replace M16 := M16.next b23
  replace M18 := M18.next b23
  clear b23
  have Cm := Bm.cell
  have CXm := BXm.cell
  go_wp2_with fail
  refine (markIntS_any _ _ _ _ _ _ _ _ M11 (by omega) (by omega) (by omega)).mono ?_
  rintro e w24 ⟨rfl, m24, q24⟩
  replace M11 := m24
  clear m24
  have b24 : Below w.heap.size w23 w24 := q24.below (fun i hi => by have := hi.1; omega) (by omega)
  have K24 := K23.trans b24
  have Z24 := q24.size
  have Y24 := K24.size
  clear b24
  clear Cm CXm
  replace Bm := Bm.only q24 (fun h => by have := h.1; have := h.2; omega)
  replace M3 := M3.only q24 (fun i h1 h2 => by have := h1.1; have := h1.2; have := h2.1; have := h2.2; omega)
  replace M4 := M4.only q24 (fun i h1 h2 => by have := h1.1; have := h1.2; have := h2.1; have := h2.2; omega)
  replace M5 := M5.only q24 (fun i h1 h2 => by have := h1.1; have := h1.2; have := h2.1; have := h2.2; omega)
  replace M6 := M6.only q24 (fun i h1 h2 => by have := h1.1; have := h1.2; have := h2.1; have := h2.2; omega)
  replace M7 := M7.only q24 (fun i h1 h2 => by have := h1.1; have := h1.2; have := h2.1; have := h2.2; omega)
  replace BXm := BXm.only q24 (fun h => by have := h.1; have := h.2; omega)
  replace M9 := M9.only q24 (fun i h1 h2 => by have := h1.1; have := h1.2; have := h2.1; have := h2.2; omega)
  replace M10 := M10.only q24 (fun i h1 h2 => by have := h1.1; have := h1.2; have := h2.1; have := h2.2; omega)
  replace M14 := M14.only q24 (fun i h1 h2 => by have := h1.1; have := h1.2; have := h2.1; have := h2.2; omega)
  replace M16 := M16.only q24 (fun i h1 h2 => by have := h1.1; have := h1.2; have := h2.1; have := h2.2; omega)
  replace M18 := M18.only q24 (fun i h1 h2 => by have := h1.1; have := h1.2; have := h2.1; have := h2.2; omega)
  clear q24
  have Cm := Bm.cell
  have CXm := BXm.cell
  go_wp2_with fail
  refine (heldIntS_any _ _ _ _ _ _ M11.sees (by omega) (by omega) (by omega)).mono ?_
  rintro e w25 ⟨rfl, q25⟩
  have b25 := q25.below w24.heap.size
  clear q25
  have K25 := bel_then K24 b25
  have Z25 := b25.size
  have Y25 := K25.size
  clear Cm CXm
  replace Bm := Bm.next b25
  replace M3 := M3.next b25
  replace M4 := M4.next b25
  replace M5 := M5.next b25
  replace M6 := M6.next b25
  replace M7 := M7.next b25
  replace BXm := BXm.next b25
  replace M9 := M9.next b25
  replace M10 := M10.next b25
  replace M11 := M11.next b25
  replace M14 := M14.next b25
  replace M16 := M16.next b25
  replace M18 := M18.next b25
  clear b25
  have Cm := Bm.cell
  have CXm := BXm.cell
  go_wp2_with fail
  refine (toMap_any _ _ _ _ _ _ _ _ (hm.below K25 (Nat.le_refl _)) hnm').mono ?_
  rintro e w26 ⟨A26a, A26b, rfl, M26, b26⟩
  have K26 := bel_then K25 b26
  have Z26 := b26.size
  have Y26 := K26.size
  clear Cm CXm
  replace Bm := Bm.next b26
  replace M3 := M3.next b26
  replace M4 := M4.next b26
  replace M5 := M5.next b26
  replace M6 := M6.next b26
  replace M7 := M7.next b26
  replace BXm := BXm.next b26
  replace M9 := M9.next b26
  replace M10 := M10.next b26
  replace M11 := M11.next b26
  replace M14 := M14.next b26
  replace M16 := M16.next b26
  replace M18 := M18.next b26
  clear b26
  have Cm := Bm.cell
  have CXm := BXm.cell
  go_wp2_with fail
  refine (toAreaS_any _ _ _ xs _ (hxs.below K26 (Nat.le_refl _)) hnxs' hixs).mono ?_
  rintro e w27 ⟨A27, rfl, M27, b27⟩
  have K27 := bel_then K26 b27
  have Z27 := b27.size
  have Y27 := K27.size
  clear Cm CXm
  replace Bm := Bm.next b27
  replace M3 := M3.next b27
  replace M4 := M4.next b27
  replace M5 := M5.next b27
  replace M6 := M6.next b27
  replace M7 := M7.next b27
  replace BXm := BXm.next b27
  replace M9 := M9.next b27
  replace M10 := M10.next b27
  replace M11 := M11.next b27
  replace M14 := M14.next b27
  replace M16 := M16.next b27
  replace M18 := M18.next b27
  replace M26 := M26.next b27
  clear b27
  have Cm := Bm.cell
  have CXm := BXm.cell
  go_wp2_with fail
  refine (toIntS_any _ _ _ _ _ (hys.below K27 (Nat.le_refl _)) hnys').mono ?_
  rintro e w28 ⟨A28, rfl, o28, b28⟩
  have M28 := Mine.of o28
  clear o28
  have K28 := bel_then K27 b28
  have Z28 := b28.size
  have Y28 := K28.size
  clear Cm CXm
  replace Bm := Bm.next b28
  replace M3 := M3.next b28
  replace M4 := M4.next b28
  replace M5 := M5.next b28
  replace M6 := M6.next b28
  replace M7 := M7.next b28
  replace BXm := BXm.next b28
  replace M9 := M9.next b28
  replace M10 := M10.next b28
  replace M11 := M11.next b28
  replace M14 := M14.next b28
  replace M16 := M16.next b28
  replace M18 := M18.next b28
  replace M26 := M26.next b28
  replace M27 := M27.next b28
  clear b28
  have Cm := Bm.cell
  have CXm := BXm.cell
  go_wp2_with fail
  refine (WayErrors_any _ _ _ _ _ _ m _ _ _ xs day _ _ _ ys _ M26.sees hnm' M27.sees hnxs' hixs M28.sees hnys').mono ?_
  rw [HR.out]
  rintro e w29 ⟨A29, c29, rfl, o29, b29⟩
  have M29 := Mine.of o29
  clear o29
  have K29 := bel_then K28 b29
  have Z29 := b29.size
  have Y29 := K29.size
  clear Cm CXm
  replace Bm := Bm.next b29
  replace M3 := M3.next b29
  replace M4 := M4.next b29
  replace M5 := M5.next b29
  replace M6 := M6.next b29
  replace M7 := M7.next b29
  replace BXm := BXm.next b29
  replace M9 := M9.next b29
  replace M10 := M10.next b29
  replace M11 := M11.next b29
  replace M14 := M14.next b29
  replace M16 := M16.next b29
  replace M18 := M18.next b29
  replace M26 := M26.next b29
  replace M27 := M27.next b29
  replace M28 := M28.next b29
  clear b29
  have Cm := Bm.cell
  have CXm := BXm.cell
  go_wp2_with fail
  refine (eqIntS_any _ _ _ _ _ _ _ _ _ _ _ M29.sees M6.sees rfl (by omega)).mono ?_
  rintro e w30 ⟨rfl, q30⟩
  have b30 := q30.below w29.heap.size
  clear q30
  have K30 := bel_then K29 b30
  have Z30 := b30.size
  have Y30 := K30.size
  clear Cm CXm
  replace Bm := Bm.next b30
  replace M3 := M3.next b30
  replace M4 := M4.next b30
  replace M5 := M5.next b30
  replace M6 := M6.next b30
  replace M7 := M7.next b30
  replace BXm := BXm.next b30
  replace M9 := M9.next b30
  replace M10 := M10.next b30
  replace M11 := M11.next b30
  replace M14 := M14.next b30
  replace M16 := M16.next b30
  replace M18 := M18.next b30
  replace M26 := M26.next b30
  replace M27 := M27.next b30
  replace M28 := M28.next b30
  replace M29 := M29.next b30
  clear b30
  have Cm := Bm.cell
  have CXm := BXm.cell
  go_wp2_with fail
  refine (heldIntS_any _ _ _ _ _ _ M11.sees (by omega) (by omega) (by omega)).mono ?_
  rintro e w31 ⟨rfl, q31⟩
  have b31 := q31.below w30.heap.size
  clear q31
  have K31 := bel_then K30 b31
  have Z31 := b31.size
  have Y31 := K31.size
  clear Cm CXm
  replace Bm := Bm.next b31
  replace M3 := M3.next b31
  replace M4 := M4.next b31
  replace M5 := M5.next b31
  replace M6 := M6.next b31
  replace M7 := M7.next b31
  replace BXm := BXm.next b31
  replace M9 := M9.next b31
  replace M10 := M10.next b31
  replace M11 := M11.next b31
  replace M14 := M14.next b31
  replace M16 := M16.next b31
  replace M18 := M18.next b31
  replace M26 := M26.next b31
  replace M27 := M27.next b31
  replace M28 := M28.next b31
  replace M29 := M29.next b31
  clear b31
  have Cm := Bm.cell
  have CXm := BXm.cell
  go_wp2_with fail
  go_ret
  exact ⟨rfl, K31⟩

end Go.Proofs.Ytljiflbaknakaaa
