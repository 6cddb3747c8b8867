/- The walk of the law FnExactDaysForWay. -/
import Derived.Test.YtljiflbaknakaaaDays
namespace Go.Proofs.Ytljiflbaknakaaa
open Go.RowKit

set_option maxRecDepth 100000 in
set_option maxHeartbeats 2000000 in
theorem FnExactDaysForWay_any (A1m A2m : Option Addr) (n1m n2m c1m c2m : Nat) (m : MapV) (Axs : Option Addr) (nxs cxs : Nat) (xs : List Area) (Ays : Option Addr) (nys cys : Nat) (ys : List Int) (w : World) (hm : SeesMap w A1m n1m A2m n2m m) (hnm : n1m ≤ 9223372036854775807 ∧ n2m ≤ 9223372036854775807) (hxs : SeesN areaSh w 0 Axs nxs xs) (hnxs : nxs ≤ 9223372036854775807) (hkxs : ∀ x ∈ xs, x.cnt ≤ 9223372036854775807) (hys : Sees w 0 1 Ays nys (ints ys)) (hnys : nys ≤ 9223372036854775807) :
    Calls Try.prog 7 #[.agg #[.int .i64 m.width, .int .i64 m.height, .slice A1m n1m c1m, .slice A2m n2m c2m], .slice Axs nxs cxs, .slice Ays nys cys] w fun e w' => e = .returned (.bool true) ∧ Below w.heap.size w w' := by
  have hlxs := hxs.count
  have hlys := hys.icount
  have K0 := Below.refl w.heap.size w
  go_enter Try.func7, Try.ntmps7
  rcases Nat.lt_or_ge 1048576 nys with hbys | hbys
  · go_wp2_with fail
    go_ret
    exact ⟨rfl, ((Below.refl w.heap.size w).alloc (by simp) (.cells #[.int .i64 m.width, .int .i64 m.height, .slice A1m n1m c1m, .slice A2m n2m c2m] 24))⟩
  go_wp2_with fail
  replace K0 : Below w.heap.size w (w.alloc (.cells #[.int .i64 m.width, .int .i64 m.height, .slice A1m n1m c1m, .slice A2m n2m c2m] 24)) := ((Below.refl w.heap.size w).alloc (by simp) (.cells #[.int .i64 m.width, .int .i64 m.height, .slice A1m n1m c1m, .slice A2m n2m c2m] 24))
  have Bm : Blk (w.alloc (.cells #[.int .i64 m.width, .int .i64 m.height, .slice A1m n1m c1m, .slice A2m n2m c2m] 24)) (w.heap.size) 24 [.int .i64 m.width, .int .i64 m.height, .slice A1m n1m c1m, .slice A2m n2m c2m] := (Blk.at_ (by simp))
  have Y0 : w.heap.size + 1 ≤ (w.alloc (.cells #[.int .i64 m.width, .int .i64 m.height, .slice A1m n1m c1m, .slice A2m n2m c2m] 24)).heap.size := by simp
  generalize (w.alloc (.cells #[.int .i64 m.width, .int .i64 m.height, .slice A1m n1m c1m, .slice A2m n2m c2m] 24)) = w0 at *
  have Cm := Bm.cell
  go_wp2_with fail
  refine (szMap_any _ _ _ _ _ _ _ _ _ _ hnm (by omega) (by omega)).mono ?_
  rintro e w1 ⟨lm, rfl, b1, rfl | hlm⟩
  · go_wp2_with fail
    go_ret
    exact ⟨rfl, bel_then K0 b1⟩
  have K1 := bel_then K0 b1
  have Z1 := b1.size
  have Y1 := K1.size
  clear Cm
  replace Bm := Bm.next b1
  clear b1
  have Cm := Bm.cell
  go_wp2_with fail
  refine (szAreaS_any _ _ _ xs _ _ (hxs.below K1 (Nat.le_refl _)) hkxs hnxs (by omega) (by omega)).mono ?_
  rintro e w2 ⟨lxs, rfl, b2, rfl | ⟨pxs, qxs⟩⟩
  · go_wp2_with fail
    go_ret
    exact ⟨rfl, bel_then K1 b2⟩
  have K2 := bel_then K1 b2
  have Z2 := b2.size
  have Y2 := K2.size
  clear Cm
  replace Bm := Bm.next b2
  clear b2
  have Cm := Bm.cell
  have hnm' : n1m ≤ 1048576 ∧ n2m ≤ 1048576 := by omega
  have hnxs' : nxs ≤ 1048576 := by omega
  have hixs : ∀ x ∈ xs, x.cnt ≤ 1048576 := fun x hx => by have := wtN_mem Area.cnt hx; omega
  have htxs : wtN Area.wt xs ≤ 100000000 := by rw [Area.wt_total]; omega
  have hnys' : nys ≤ 1048576 := by omega
  go_wp2_with fail
  refine (toMap_any _ _ _ _ _ _ _ _ (hm.below K2 (Nat.le_refl _)) hnm').mono ?_
  rintro e w3 ⟨A3a, A3b, rfl, M3, b3⟩
  have K3 := bel_then K2 b3
  have Z3 := b3.size
  have Y3 := K3.size
  clear Cm
  replace Bm := Bm.next b3
  clear b3
  have Cm := Bm.cell
  go_wp2_with fail
  refine (toAreaS_any _ _ _ xs _ (hxs.below K3 (Nat.le_refl _)) hnxs' hixs).mono ?_
  rintro e w4 ⟨A4, rfl, M4, b4⟩
  have K4 := bel_then K3 b4
  have Z4 := b4.size
  have Y4 := K4.size
  clear Cm
  replace Bm := Bm.next b4
  replace M3 := M3.next b4
  clear b4
  have Cm := Bm.cell
  go_wp2_with fail
  refine (toIntS_any _ _ _ _ _ (hys.below K4 (Nat.le_refl _)) hnys').mono ?_
  rintro e w5 ⟨A5, rfl, o5, b5⟩
  have M5 := Mine.of o5
  clear o5
  have K5 := bel_then K4 b5
  have Z5 := b5.size
  have Y5 := K5.size
  clear Cm
  replace Bm := Bm.next b5
  replace M3 := M3.next b5
  replace M4 := M4.next b5
  clear b5
  have Cm := Bm.cell
  go_wp2_with fail
  refine (specDaysForWay_any _ _ _ _ _ _ m _ _ _ xs _ _ _ ys _ M3.sees hnm' M4.sees hnxs' hixs M5.sees hnys').mono ?_
  generalize hRe : daysWay m xs ys = R at *
  have HR := Lib.hid hRe
  clear hRe
  rintro e w6 ⟨rfl, b6⟩
  have K6 := bel_then K5 b6
  have Z6 := b6.size
  have Y6 := K6.size
  clear Cm
  replace Bm := Bm.next b6
  replace M3 := M3.next b6
  replace M4 := M4.next b6
  replace M5 := M5.next b6
  clear b6
  have Cm := Bm.cell
  go_wp2_with fail
  refine (toMap_any _ _ _ _ _ _ _ _ (hm.below K6 (Nat.le_refl _)) hnm').mono ?_
  rintro e w7 ⟨A7a, A7b, rfl, M7, b7⟩
  have K7 := bel_then K6 b7
  have Z7 := b7.size
  have Y7 := K7.size
  clear Cm
  replace Bm := Bm.next b7
  replace M3 := M3.next b7
  replace M4 := M4.next b7
  replace M5 := M5.next b7
  clear b7
  have Cm := Bm.cell
  go_wp2_with fail
  have b8 : Below w7.heap.size w7 (w7.alloc (.cells #[.int .i64 m.width, .int .i64 m.height, .slice A7a n1m n1m, .slice A7b n2m n2m] 29)) := (Below.refl _ _).alloc (Nat.le_refl _) _
  have BXm : Blk (w7.alloc (.cells #[.int .i64 m.width, .int .i64 m.height, .slice A7a n1m n1m, .slice A7b n2m n2m] 29)) w7.heap.size 29 [.int .i64 m.width, .int .i64 m.height, .slice A7a n1m n1m, .slice A7b n2m n2m] := Blk.at_ rfl
  have K8 := bel_then K7 b8
  have Z8 := b8.size
  have Y8 := K8.size
  clear Cm
  replace Bm := Bm.next b8
  replace M3 := M3.next b8
  replace M4 := M4.next b8
  replace M5 := M5.next b8
  replace M7 := M7.next b8
  clear b8
  have Cm := Bm.cell
  have V8 : w7.heap.size + 1 ≤ (w7.alloc (.cells #[.int .i64 m.width, .int .i64 m.height, .slice A7a n1m n1m, .slice A7b n2m n2m] 29)).heap.size := by simp
  generalize (w7.alloc (.cells #[.int .i64 m.width, .int .i64 m.height, .slice A7a n1m n1m, .slice A7b n2m n2m] 29)) = w8 at *
  have CXm := BXm.cell
  go_wp2_with fail
  refine (toAreaS_any _ _ _ xs _ (hxs.below K8 (Nat.le_refl _)) hnxs' hixs).mono ?_
  rintro e w9 ⟨A9, rfl, M9, b9⟩
  have K9 := bel_then K8 b9
  have Z9 := b9.size
  have Y9 := K9.size
  clear Cm CXm
  replace Bm := Bm.next b9
  replace M3 := M3.next b9
  replace M4 := M4.next b9
  replace M5 := M5.next b9
  replace M7 := M7.next b9
  replace BXm := BXm.next b9
  clear b9
  have Cm := Bm.cell
  have CXm := BXm.cell
  go_wp2_with fail
  refine (toIntS_any _ _ _ _ _ (hys.below K9 (Nat.le_refl _)) hnys').mono ?_
  rintro e w10 ⟨A10, rfl, o10, b10⟩
  have M10 := Mine.of o10
  clear o10
  have K10 := bel_then K9 b10
  have Z10 := b10.size
  have Y10 := K10.size
  clear Cm CXm
  replace Bm := Bm.next b10
  replace M3 := M3.next b10
  replace M4 := M4.next b10
  replace M5 := M5.next b10
  replace M7 := M7.next b10
  replace BXm := BXm.next b10
  replace M9 := M9.next b10
  clear b10
  have Cm := Bm.cell
  have CXm := BXm.cell
  go_wp2_with fail
  refine (DaysForWay_any _ _ _ _ _ _ m _ _ _ xs _ _ _ ys _ M7.sees hnm' M9.sees hnxs' hixs M10.sees hnys').mono ?_
  rw [HR.out]
  rintro e w11 ⟨rfl, b11⟩
  have K11 := bel_then K10 b11
  have Z11 := b11.size
  have Y11 := K11.size
  clear Cm CXm
  replace Bm := Bm.next b11
  replace M3 := M3.next b11
  replace M4 := M4.next b11
  replace M5 := M5.next b11
  replace M7 := M7.next b11
  replace BXm := BXm.next b11
  replace M9 := M9.next b11
  replace M10 := M10.next b11
  clear b11
  have Cm := Bm.cell
  have CXm := BXm.cell
  go_wp2_with fail
  have b12 := (Quiet.one w11).below w11.heap.size
  have K12 := bel_then K11 b12
  have Z12 := b12.size
  have Y12 := K12.size
  replace Bm := Bm.next b12
  replace M3 := M3.next b12
  replace M4 := M4.next b12
  replace M5 := M5.next b12
  replace M7 := M7.next b12
  replace BXm := BXm.next b12
  replace M9 := M9.next b12
  replace M10 := M10.next b12
  clear b12
  go_region_held3 (fun w' => w'.cell? ⟨w.heap.size, 0, none⟩ = some (.int .i64 m.width) ∧ w'.cell? ⟨w.heap.size, 1, none⟩ = some (.int .i64 m.height) ∧ w'.cell? ⟨w.heap.size, 2, none⟩ = some (.slice A1m n1m c1m) ∧ w'.cell? ⟨w.heap.size, 3, none⟩ = some (.slice A2m n2m c2m) ∧ w'.cell? ⟨w7.heap.size, 0, none⟩ = some (.int .i64 m.width) ∧ w'.cell? ⟨w7.heap.size, 1, none⟩ = some (.int .i64 m.height) ∧ w'.cell? ⟨w7.heap.size, 2, none⟩ = some (.slice A7a n1m n1m) ∧ w'.cell? ⟨w7.heap.size, 3, none⟩ = some (.slice A7b n2m n2m)) (go_keep)
    (first
      | (go_at_call 17
         refine (toMap_any _ _ _ _ _ _ _ _ (hm.below K12 (Nat.le_refl _)) hnm').mono ?_
         rintro e w13 ⟨A13a, A13b, rfl, M13, b13⟩
         have K13 := bel_then K12 b13
         have Z13 := b13.size
         have Y13 := K13.size
         clear Cm CXm
         replace Bm := Bm.next b13
         replace M3 := M3.next b13
         replace M4 := M4.next b13
         replace M5 := M5.next b13
         replace M7 := M7.next b13
         replace BXm := BXm.next b13
         replace M9 := M9.next b13
         replace M10 := M10.next b13
         clear b13
         have Cm := Bm.cell
         have CXm := BXm.cell)
      | (go_at_call 20
         refine (eqMap_any _ _ _ _ _ _ _ _ _ _ _ _ _ _ _ M7.sees M13.sees rfl hnm').mono ?_
         rintro e w14 ⟨rfl, b14⟩
         have K14 := bel_then K13 b14
         have Z14 := b14.size
         have Y14 := K14.size
         clear Cm CXm
         replace Bm := Bm.next b14
         replace M3 := M3.next b14
         replace M4 := M4.next b14
         replace M5 := M5.next b14
         replace M7 := M7.next b14
         replace BXm := BXm.next b14
         replace M9 := M9.next b14
         replace M10 := M10.next b14
         replace M13 := M13.next b14
         clear b14
         have Cm := Bm.cell
         have CXm := BXm.cell))
  go_wp2_with fail
  refine (toAreaS_any _ _ _ xs _ (hxs.below K14 (Nat.le_refl _)) hnxs' hixs).mono ?_
  rintro e w15 ⟨A15, rfl, M15, b15⟩
  have K15 := bel_then K14 b15
  have Z15 := b15.size
  have Y15 := K15.size
  clear Cm CXm
  replace Bm := Bm.next b15
  replace M3 := M3.next b15
  replace M4 := M4.next b15
  replace M5 := M5.next b15
  replace M7 := M7.next b15
  replace BXm := BXm.next b15
  replace M9 := M9.next b15
  replace M10 := M10.next b15
  replace M13 := M13.next b15
  clear b15
  have Cm := Bm.cell
  have CXm := BXm.cell
  go_wp2_with fail
  refine (eqAreaS_any _ _ _ _ _ _ _ _ _ _ _ M9.sees M15.sees rfl (by omega) hixs).mono ?_
  rintro e w16 ⟨rfl, b16⟩
  have K16 := bel_then K15 b16
  have Z16 := b16.size
  have Y16 := K16.size
  clear Cm CXm
  replace Bm := Bm.next b16
  replace M3 := M3.next b16
  replace M4 := M4.next b16
  replace M5 := M5.next b16
  replace M7 := M7.next b16
  replace BXm := BXm.next b16
  replace M9 := M9.next b16
  replace M10 := M10.next b16
  replace M13 := M13.next b16
  replace M15 := M15.next b16
  clear b16
  have Cm := Bm.cell
  have CXm := BXm.cell
  go_wp2_with fail
  refine (toIntS_any _ _ _ _ _ (hys.below K16 (Nat.le_refl _)) hnys').mono ?_
  rintro e w17 ⟨A17, rfl, o17, b17⟩
  have M17 := Mine.of o17
  clear o17
  have K17 := bel_then K16 b17
  have Z17 := b17.size
  have Y17 := K17.size
  clear Cm CXm
  replace Bm := Bm.next b17
  replace M3 := M3.next b17
  replace M4 := M4.next b17
  replace M5 := M5.next b17
  replace M7 := M7.next b17
  replace BXm := BXm.next b17
  replace M9 := M9.next b17
  replace M10 := M10.next b17
  replace M13 := M13.next b17
  replace M15 := M15.next b17
  clear b17
  have Cm := Bm.cell
  have CXm := BXm.cell
  go_wp2_with fail
  refine (eqIntS_any _ _ _ _ _ _ _ _ _ _ _ M10.sees M17.sees rfl (by omega)).mono ?_
  rintro e w18 ⟨rfl, q18⟩
  have b18 := q18.below w17.heap.size
  clear q18
  have K18 := bel_then K17 b18
  have Z18 := b18.size
  have Y18 := K18.size
  clear Cm CXm
  replace Bm := Bm.next b18
  replace M3 := M3.next b18
  replace M4 := M4.next b18
  replace M5 := M5.next b18
  replace M7 := M7.next b18
  replace BXm := BXm.next b18
  replace M9 := M9.next b18
  replace M10 := M10.next b18
  replace M13 := M13.next b18
  replace M15 := M15.next b18
  replace M17 := M17.next b18
  clear b18
  have Cm := Bm.cell
  have CXm := BXm.cell
  go_wp2_with fail
  go_ret
  exact ⟨rfl, K18⟩

end Go.Proofs.Ytljiflbaknakaaa
