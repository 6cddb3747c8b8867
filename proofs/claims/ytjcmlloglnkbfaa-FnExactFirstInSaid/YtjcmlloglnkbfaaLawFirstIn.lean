/- The walk of the law FnExactFirstIn. -/
import Derived.Test.YtjcmlloglnkbfaaFirst
namespace Go.Proofs.Ytjcmlloglnkbfaa
open Go.RowKit

set_option maxRecDepth 100000 in
set_option maxHeartbeats 2000000 in
theorem FnExactFirstIn_any (A1m A2m : Option Addr) (n1m n2m c1m c2m : Nat) (m : MapV) (x : Missing) (pace : Int) (cell : Int) (w : World) (hm : SeesMap w A1m n1m A2m n2m m) (hnm : n1m ≤ 9223372036854775807 ∧ n2m ≤ 9223372036854775807) :
    Calls Try.prog 7 #[.agg #[.int .i64 m.width, .int .i64 m.height, .slice A1m n1m c1m, .slice A2m n2m c2m], .agg #[.int .i64 x.runner, .int .i64 x.start, .int .i64 x.seen, .int .i64 x.place], .int .i64 pace, .int .i64 cell] w fun e w' => e = .returned (.bool true) ∧ Below w.heap.size w w' := by
  have K0 := Below.refl w.heap.size w
  go_enter Try.func7, Try.ntmps7
  go_wp2_with fail
  replace K0 : Below w.heap.size w ((w.alloc (.cells #[.int .i64 m.width, .int .i64 m.height, .slice A1m n1m c1m, .slice A2m n2m c2m] 24)).alloc (.cells #[.int .i64 x.runner, .int .i64 x.start, .int .i64 x.seen, .int .i64 x.place] 26)) := (((Below.refl w.heap.size w).alloc (by simp) (.cells #[.int .i64 m.width, .int .i64 m.height, .slice A1m n1m c1m, .slice A2m n2m c2m] 24)).alloc (by simp) (.cells #[.int .i64 x.runner, .int .i64 x.start, .int .i64 x.seen, .int .i64 x.place] 26))
  have Bm : Blk ((w.alloc (.cells #[.int .i64 m.width, .int .i64 m.height, .slice A1m n1m c1m, .slice A2m n2m c2m] 24)).alloc (.cells #[.int .i64 x.runner, .int .i64 x.start, .int .i64 x.seen, .int .i64 x.place] 26)) (w.heap.size) 24 [.int .i64 m.width, .int .i64 m.height, .slice A1m n1m c1m, .slice A2m n2m c2m] := ((Blk.at_ (by simp)).alloc _)
  have Bx : Blk ((w.alloc (.cells #[.int .i64 m.width, .int .i64 m.height, .slice A1m n1m c1m, .slice A2m n2m c2m] 24)).alloc (.cells #[.int .i64 x.runner, .int .i64 x.start, .int .i64 x.seen, .int .i64 x.place] 26)) (w.heap.size + 1) 26 [.int .i64 x.runner, .int .i64 x.start, .int .i64 x.seen, .int .i64 x.place] := (Blk.at_ (by simp))
  have Y0 : w.heap.size + 2 ≤ ((w.alloc (.cells #[.int .i64 m.width, .int .i64 m.height, .slice A1m n1m c1m, .slice A2m n2m c2m] 24)).alloc (.cells #[.int .i64 x.runner, .int .i64 x.start, .int .i64 x.seen, .int .i64 x.place] 26)).heap.size := by simp
  generalize ((w.alloc (.cells #[.int .i64 m.width, .int .i64 m.height, .slice A1m n1m c1m, .slice A2m n2m c2m] 24)).alloc (.cells #[.int .i64 x.runner, .int .i64 x.start, .int .i64 x.seen, .int .i64 x.place] 26)) = w0 at *
  have Cm := Bm.cell
  have Cx := Bx.cell
  go_wp2_with fail
  refine (szMap_any _ _ _ _ _ _ _ _ _ _ hnm (by omega) (by omega)).mono ?_
  rintro e w1 ⟨lm, rfl, b1, rfl | hlm⟩
  · go_wp2_with fail
    go_ret
    exact ⟨rfl, bel_then K0 b1⟩
  have K1 := bel_then K0 b1
  have Z1 := b1.size
  have Y1 := K1.size
  clear Cm Cx
  replace Bm := Bm.next b1
  replace Bx := Bx.next b1
  clear b1
  have Cm := Bm.cell
  have Cx := Bx.cell
  have hnm' : n1m ≤ 1048576 ∧ n2m ≤ 1048576 := by omega
  go_wp2_with fail
  have b2 := (Quiet.one w1).below w1.heap.size
  have K2 := bel_then K1 b2
  have Z2 := b2.size
  have Y2 := K2.size
  replace Bm := Bm.next b2
  replace Bx := Bx.next b2
  clear b2
  go_region_held3 (fun w' => w'.cell? ⟨w.heap.size, 0, none⟩ = some (.int .i64 m.width) ∧ w'.cell? ⟨w.heap.size, 1, none⟩ = some (.int .i64 m.height) ∧ w'.cell? ⟨w.heap.size, 2, none⟩ = some (.slice A1m n1m c1m) ∧ w'.cell? ⟨w.heap.size, 3, none⟩ = some (.slice A2m n2m c2m) ∧ w'.cell? ⟨w.heap.size + 1, 0, none⟩ = some (.int .i64 x.runner) ∧ w'.cell? ⟨w.heap.size + 1, 1, none⟩ = some (.int .i64 x.start) ∧ w'.cell? ⟨w.heap.size + 1, 2, none⟩ = some (.int .i64 x.seen) ∧ w'.cell? ⟨w.heap.size + 1, 3, none⟩ = some (.int .i64 x.place)) (go_keep)
    (first
      | (go_at_call 15
         refine (toMap_any _ _ _ _ _ _ _ _ (hm.below K2 (Nat.le_refl _)) hnm').mono ?_
         rintro e w3 ⟨A3a, A3b, rfl, M3, b3⟩
         have K3 := bel_then K2 b3
         have Z3 := b3.size
         have Y3 := K3.size
         clear Cm Cx
         replace Bm := Bm.next b3
         replace Bx := Bx.next b3
         clear b3
         have Cm := Bm.cell
         have Cx := Bx.cell)
      | (go_at_call 16
         refine (toMissing_any _ _ _ _ _).mono ?_
         rintro e w4 ⟨rfl, b4⟩
         have K4 := bel_then K3 b4
         have Z4 := b4.size
         have Y4 := K4.size
         clear Cm Cx
         replace Bm := Bm.next b4
         replace Bx := Bx.next b4
         replace M3 := M3.next b4
         clear b4
         have Cm := Bm.cell
         have Cx := Bx.cell)
      | (go_at_call 38
         refine (specFirstIn_any _ _ _ _ _ _ _ x _ _ _ M3.sees hnm').mono ?_
         generalize hRe : firstM m x pace cell = R at *
         have HR := Lib.hid hRe
         clear hRe
         rintro e w5 ⟨rfl, b5⟩
         have K5 := bel_then K4 b5
         have Z5 := b5.size
         have Y5 := K5.size
         clear Cm Cx
         replace Bm := Bm.next b5
         replace Bx := Bx.next b5
         replace M3 := M3.next b5
         clear b5
         have Cm := Bm.cell
         have Cx := Bx.cell))
  go_wp2_with fail
  refine (toMap_any _ _ _ _ _ _ _ _ (hm.below K5 (Nat.le_refl _)) hnm').mono ?_
  rintro e w6 ⟨A6a, A6b, rfl, M6, b6⟩
  have K6 := bel_then K5 b6
  have Z6 := b6.size
  have Y6 := K6.size
  clear Cm Cx
  replace Bm := Bm.next b6
  replace Bx := Bx.next b6
  replace M3 := M3.next b6
  clear b6
  have Cm := Bm.cell
  have Cx := Bx.cell
  go_wp2_with fail
  have b7 : Below w6.heap.size w6 (w6.alloc (.cells #[.int .i64 m.width, .int .i64 m.height, .slice A6a n1m n1m, .slice A6b n2m n2m] 29)) := (Below.refl _ _).alloc (Nat.le_refl _) _
  have BXm : Blk (w6.alloc (.cells #[.int .i64 m.width, .int .i64 m.height, .slice A6a n1m n1m, .slice A6b n2m n2m] 29)) w6.heap.size 29 [.int .i64 m.width, .int .i64 m.height, .slice A6a n1m n1m, .slice A6b n2m n2m] := Blk.at_ rfl
  have K7 := bel_then K6 b7
  have Z7 := b7.size
  have Y7 := K7.size
  clear Cm Cx
  replace Bm := Bm.next b7
  replace Bx := Bx.next b7
  replace M3 := M3.next b7
  replace M6 := M6.next b7
  clear b7
  have Cm := Bm.cell
  have Cx := Bx.cell
  have V7 : w6.heap.size + 1 ≤ (w6.alloc (.cells #[.int .i64 m.width, .int .i64 m.height, .slice A6a n1m n1m, .slice A6b n2m n2m] 29)).heap.size := by simp
  generalize (w6.alloc (.cells #[.int .i64 m.width, .int .i64 m.height, .slice A6a n1m n1m, .slice A6b n2m n2m] 29)) = w7 at *
  have CXm := BXm.cell
  go_wp2_with fail
  have b8 := (Quiet.one w7).below w7.heap.size
  have K8 := bel_then K7 b8
  have Z8 := b8.size
  have Y8 := K8.size
  replace Bm := Bm.next b8
  replace Bx := Bx.next b8
  replace M3 := M3.next b8
  replace M6 := M6.next b8
  replace BXm := BXm.next b8
  clear b8
  go_region_held3 (fun w' => w'.cell? ⟨w.heap.size, 0, none⟩ = some (.int .i64 m.width) ∧ w'.cell? ⟨w.heap.size, 1, none⟩ = some (.int .i64 m.height) ∧ w'.cell? ⟨w.heap.size, 2, none⟩ = some (.slice A1m n1m c1m) ∧ w'.cell? ⟨w.heap.size, 3, none⟩ = some (.slice A2m n2m c2m) ∧ w'.cell? ⟨w.heap.size + 1, 0, none⟩ = some (.int .i64 x.runner) ∧ w'.cell? ⟨w.heap.size + 1, 1, none⟩ = some (.int .i64 x.start) ∧ w'.cell? ⟨w.heap.size + 1, 2, none⟩ = some (.int .i64 x.seen) ∧ w'.cell? ⟨w.heap.size + 1, 3, none⟩ = some (.int .i64 x.place) ∧ w'.cell? ⟨w6.heap.size, 0, none⟩ = some (.int .i64 m.width) ∧ w'.cell? ⟨w6.heap.size, 1, none⟩ = some (.int .i64 m.height) ∧ w'.cell? ⟨w6.heap.size, 2, none⟩ = some (.slice A6a n1m n1m) ∧ w'.cell? ⟨w6.heap.size, 3, none⟩ = some (.slice A6b n2m n2m)) (go_keep)
    (first
      | (go_at_call 16
         refine (toMissing_any _ _ _ _ _).mono ?_
         rintro e w9 ⟨rfl, b9⟩
         have K9 := bel_then K8 b9
         have Z9 := b9.size
         have Y9 := K9.size
         clear Cm Cx CXm
         replace Bm := Bm.next b9
         replace Bx := Bx.next b9
         replace M3 := M3.next b9
         replace M6 := M6.next b9
         replace BXm := BXm.next b9
         clear b9
         have Cm := Bm.cell
         have Cx := Bx.cell
         have CXm := BXm.cell)
      | (go_at_call 39
         refine (FirstIn_any _ _ _ _ _ _ _ x _ _ _ M6.sees hnm').mono ?_
         rw [HR.out]
         rintro e w10 ⟨rfl, b10⟩
         have K10 := bel_then K9 b10
         have Z10 := b10.size
         have Y10 := K10.size
         clear Cm Cx CXm
         replace Bm := Bm.next b10
         replace Bx := Bx.next b10
         replace M3 := M3.next b10
         replace M6 := M6.next b10
         replace BXm := BXm.next b10
         clear b10
         have Cm := Bm.cell
         have Cx := Bx.cell
         have CXm := BXm.cell))
  go_wp2_with fail
  have b11 := (Quiet.one w10).below w10.heap.size
  have K11 := bel_then K10 b11
  have Z11 := b11.size
  have Y11 := K11.size
  replace Bm := Bm.next b11
  replace Bx := Bx.next b11
  replace M3 := M3.next b11
  replace M6 := M6.next b11
  replace BXm := BXm.next b11
  clear b11
  go_region_held3 (fun w' => w'.cell? ⟨w.heap.size, 0, none⟩ = some (.int .i64 m.width) ∧ w'.cell? ⟨w.heap.size, 1, none⟩ = some (.int .i64 m.height) ∧ w'.cell? ⟨w.heap.size, 2, none⟩ = some (.slice A1m n1m c1m) ∧ w'.cell? ⟨w.heap.size, 3, none⟩ = some (.slice A2m n2m c2m) ∧ w'.cell? ⟨w.heap.size + 1, 0, none⟩ = some (.int .i64 x.runner) ∧ w'.cell? ⟨w.heap.size + 1, 1, none⟩ = some (.int .i64 x.start) ∧ w'.cell? ⟨w.heap.size + 1, 2, none⟩ = some (.int .i64 x.seen) ∧ w'.cell? ⟨w.heap.size + 1, 3, none⟩ = some (.int .i64 x.place) ∧ w'.cell? ⟨w6.heap.size, 0, none⟩ = some (.int .i64 m.width) ∧ w'.cell? ⟨w6.heap.size, 1, none⟩ = some (.int .i64 m.height) ∧ w'.cell? ⟨w6.heap.size, 2, none⟩ = some (.slice A6a n1m n1m) ∧ w'.cell? ⟨w6.heap.size, 3, none⟩ = some (.slice A6b n2m n2m)) (go_keep)
    (first
      | (go_at_call 15
         refine (toMap_any _ _ _ _ _ _ _ _ (hm.below K11 (Nat.le_refl _)) hnm').mono ?_
         rintro e w12 ⟨A12a, A12b, rfl, M12, b12⟩
         have K12 := bel_then K11 b12
         have Z12 := b12.size
         have Y12 := K12.size
         clear Cm Cx CXm
         replace Bm := Bm.next b12
         replace Bx := Bx.next b12
         replace M3 := M3.next b12
         replace M6 := M6.next b12
         replace BXm := BXm.next b12
         clear b12
         have Cm := Bm.cell
         have Cx := Bx.cell
         have CXm := BXm.cell)
      | (go_at_call 18
         refine (eqMap_any _ _ _ _ _ _ _ _ _ _ _ _ _ _ _ M6.sees M12.sees rfl hnm').mono ?_
         rintro e w13 ⟨rfl, b13⟩
         have K13 := bel_then K12 b13
         have Z13 := b13.size
         have Y13 := K13.size
         clear Cm Cx CXm
         replace Bm := Bm.next b13
         replace Bx := Bx.next b13
         replace M3 := M3.next b13
         replace M6 := M6.next b13
         replace BXm := BXm.next b13
         replace M12 := M12.next b13
         clear b13
         have Cm := Bm.cell
         have Cx := Bx.cell
         have CXm := BXm.cell))
  go_wp2_with fail
  go_ret
  exact ⟨rfl, K13⟩

end Go.Proofs.Ytjcmlloglnkbfaa
