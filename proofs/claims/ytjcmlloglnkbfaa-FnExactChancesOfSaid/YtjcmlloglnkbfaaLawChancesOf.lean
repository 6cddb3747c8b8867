/- The walk of the law FnExactChancesOf. -/
import Derived.Test.YtjcmlloglnkbfaaChances
namespace Go.Proofs.Ytjcmlloglnkbfaa
open Go.RowKit

theorem chancesM_len (m : MapV) (x : Missing) (pace time : Int) : ((chancesM m x pace time).getD []).length ≤ 36 := by
  unfold chancesM fieldM
  split
  · rename_i h
    simp only [Bool.and_eq_true] at h
    obtain ⟨-, -, -, s4, -⟩ := missing_facts h.1.1
    simp only [Option.map_some, Option.getD_some, List.length_map]
    exact Nat.le_trans (fieldL_len _ _ _ _) s4
  · simp

set_option maxRecDepth 100000 in
set_option maxHeartbeats 2000000 in
theorem FnExactChancesOf_any (A1m A2m : Option Addr) (n1m n2m c1m c2m : Nat) (m : MapV) (x : Missing) (pace : Int) (time : Int) (w : World) (hm : SeesMap w A1m n1m A2m n2m m) (hnm : n1m ≤ 9223372036854775807 ∧ n2m ≤ 9223372036854775807) :
    Calls Try.prog 10 #[.agg #[.int .i64 m.width, .int .i64 m.height, .slice A1m n1m c1m, .slice A2m n2m c2m], .agg #[.int .i64 x.runner, .int .i64 x.start, .int .i64 x.seen, .int .i64 x.place], .int .i64 pace, .int .i64 time] w fun e w' => e = .returned (.bool true) ∧ Below w.heap.size w w' := by
  have hR := chancesM_len m x pace time
  have K0 := Below.refl w.heap.size w
  go_enter Try.func10, Try.ntmps10
  go_wp2_with fail
  replace K0 : Below w.heap.size w ((w.alloc (.cells #[.int .i64 m.width, .int .i64 m.height, .slice A1m n1m c1m, .slice A2m n2m c2m] 24)).alloc (.cells #[.int .i64 x.runner, .int .i64 x.start, .int .i64 x.seen, .int .i64 x.place] 26)) := (((Below.refl w.heap.size w).alloc (by simp) (.cells #[.int .i64 m.width, .int .i64 m.height, .slice A1m n1m c1m, .slice A2m n2m c2m] 24)).alloc (by simp) (.cells #[.int .i64 x.runner, .int .i64 x.start, .int .i64 x.seen, .int .i64 x.place] 26))
  have Bm : Blk ((w.alloc (.cells #[.int .i64 m.width, .int .i64 m.height, .slice A1m n1m c1m, .slice A2m n2m c2m] 24)).alloc (.cells #[.int .i64 x.runner, .int .i64 x.start, .int .i64 x.seen, .int .i64 x.place] 26)) (w.heap.size) 24 [.int .i64 m.width, .int .i64 m.height, .slice A1m n1m c1m, .slice A2m n2m c2m] := ((Blk.at_ (by simp)).alloc _)
  have Bx : Blk ((w.alloc (.cells #[.int .i64 m.width, .int .i64 m.height, .slice A1m n1m c1m, .slice A2m n2m c2m] 24)).alloc (.cells #[.int .i64 x.runner, .int .i64 x.start, .int .i64 x.seen, .int .i64 x.place] 26)) (w.heap.size + 1) 26 [.int .i64 x.runner, .int .i64 x.start, .int .i64 x.seen, .int .i64 x.place] := (Blk.at_ (by simp))
  have Y0 : w.heap.size + 2 ≤ ((w.alloc (.cells #[.int .i64 m.width, .int .i64 m.height, .slice A1m n1m c1m, .slice A2m n2m c2m] 24)).alloc (.cells #[.int .i64 x.runner, .int .i64 x.start, .int .i64 x.seen, .int .i64 x.place] 26)).heap.size := by simp
  generalize ((w.alloc (.cells #[.int .i64 m.width, .int .i64 m.height, .slice A1m n1m c1m, .slice A2m n2m c2m] 24)).alloc (.cells #[.int .i64 x.runner, .int .i64 x.start, .int .i64 x.seen, .int .i64 x.place] 26)) = w0 at *
  have Cm := Bm.cell
  have Cx := Bx.cell
  go_wp2_with fail
  refine (szMap_any _ _ _ _ _ _ _ _ _ _ hnm (by omega) (by omega)).mono ?_
  rintro e w1 ⟨lm, rfl, b1, rfl | hlm⟩
  · go_wp2_with fail
    go_ret
    exact ⟨rfl, bel_then K0 b1⟩
  have K1 := bel_then K0 b1
  have Z1 := b1.size
  have Y1 := K1.size
  clear Cm Cx
  replace Bm := Bm.next b1
  replace Bx := Bx.next b1
  clear b1
  have Cm := Bm.cell
  have Cx := Bx.cell
  have hnm' : n1m ≤ 1048576 ∧ n2m ≤ 1048576 := by omega
  go_wp2_with fail
  have b2 := (Quiet.one w1).below w1.heap.size
  have K2 := bel_then K1 b2
  have Z2 := b2.size
  have Y2 := K2.size
  replace Bm := Bm.next b2
  replace Bx := Bx.next b2
  clear b2
  go_region_held3 (fun w' => w'.cell? ⟨w.heap.size, 0, none⟩ = some (.int .i64 m.width) ∧ w'.cell? ⟨w.heap.size, 1, none⟩ = some (.int .i64 m.height) ∧ w'.cell? ⟨w.heap.size, 2, none⟩ = some (.slice A1m n1m c1m) ∧ w'.cell? ⟨w.heap.size, 3, none⟩ = some (.slice A2m n2m c2m) ∧ w'.cell? ⟨w.heap.size + 1, 0, none⟩ = some (.int .i64 x.runner) ∧ w'.cell? ⟨w.heap.size + 1, 1, none⟩ = some (.int .i64 x.start) ∧ w'.cell? ⟨w.heap.size + 1, 2, none⟩ = some (.int .i64 x.seen) ∧ w'.cell? ⟨w.heap.size + 1, 3, none⟩ = some (.int .i64 x.place)) (go_keep)
    (first
      | (go_at_call 15
         refine (toMap_any _ _ _ _ _ _ _ _ (hm.below K2 (Nat.le_refl _)) hnm').mono ?_
         rintro e w3 ⟨A3a, A3b, rfl, M3, b3⟩
         have K3 := bel_then K2 b3
         have Z3 := b3.size
         have Y3 := K3.size
         clear Cm Cx
         replace Bm := Bm.next b3
         replace Bx := Bx.next b3
         clear b3
         have Cm := Bm.cell
         have Cx := Bx.cell)
      | (go_at_call 16
         refine (toMissing_any _ _ _ _ _).mono ?_
         rintro e w4 ⟨rfl, b4⟩
         have K4 := bel_then K3 b4
         have Z4 := b4.size
         have Y4 := K4.size
         clear Cm Cx
         replace Bm := Bm.next b4
         replace Bx := Bx.next b4
         replace M3 := M3.next b4
         clear b4
         have Cm := Bm.cell
         have Cx := Bx.cell)
      | (go_at_call 45
         refine (specChancesOf_any _ _ _ _ _ _ _ x _ _ _ M3.sees hnm').mono ?_
         generalize hRe : chancesM m x pace time = R at *
         have HR := Lib.hid hRe
         clear hRe
         rintro e w5 ⟨A5, c5, rfl, o5, b5⟩
         have M5 := Mine.of o5
         clear o5
         have K5 := bel_then K4 b5
         have Z5 := b5.size
         have Y5 := K5.size
         clear Cm Cx
         replace Bm := Bm.next b5
         replace Bx := Bx.next b5
         replace M3 := M3.next b5
         clear b5
         have Cm := Bm.cell
         have Cx := Bx.cell))
  go_wp2_with fail
  refine (toMap_any _ _ _ _ _ _ _ _ (hm.below K5 (Nat.le_refl _)) hnm').mono ?_
  rintro e w6 ⟨A6a, A6b, rfl, M6, b6⟩
  have K6 := bel_then K5 b6
  have Z6 := b6.size
  have Y6 := K6.size
  clear Cm Cx
  replace Bm := Bm.next b6
  replace Bx := Bx.next b6
  replace M3 := M3.next b6
  replace M5 := M5.next b6
  clear b6
  have Cm := Bm.cell
  have Cx := Bx.cell
  go_wp2_with fail
  have b7 : Below w6.heap.size w6 (w6.alloc (.cells #[.int .i64 m.width, .int .i64 m.height, .slice A6a n1m n1m, .slice A6b n2m n2m] 29)) := (Below.refl _ _).alloc (Nat.le_refl _) _
  have BXm : Blk (w6.alloc (.cells #[.int .i64 m.width, .int .i64 m.height, .slice A6a n1m n1m, .slice A6b n2m n2m] 29)) w6.heap.size 29 [.int .i64 m.width, .int .i64 m.height, .slice A6a n1m n1m, .slice A6b n2m n2m] := Blk.at_ rfl
  have K7 := bel_then K6 b7
  have Z7 := b7.size
  have Y7 := K7.size
  clear Cm Cx
  replace Bm := Bm.next b7
  replace Bx := Bx.next b7
  replace M3 := M3.next b7
  replace M5 := M5.next b7
  replace M6 := M6.next b7
  clear b7
  have Cm := Bm.cell
  have Cx := Bx.cell
  have V7 : w6.heap.size + 1 ≤ (w6.alloc (.cells #[.int .i64 m.width, .int .i64 m.height, .slice A6a n1m n1m, .slice A6b n2m n2m] 29)).heap.size := by simp
  generalize (w6.alloc (.cells #[.int .i64 m.width, .int .i64 m.height, .slice A6a n1m n1m, .slice A6b n2m n2m] 29)) = w7 at *
  have CXm := BXm.cell
  go_wp2_with fail
  have b8 := (Quiet.one w7).below w7.heap.size
  have K8 := bel_then K7 b8
  have Z8 := b8.size
  have Y8 := K8.size
  replace Bm := Bm.next b8
  replace Bx := Bx.next b8
  replace M3 := M3.next b8
  replace M5 := M5.next b8
  replace M6 := M6.next b8
  replace BXm := BXm.next b8
  clear b8
  go_region_held3 (fun w' => w'.cell? ⟨w.heap.size, 0, none⟩ = some (.int .i64 m.width) ∧ w'.cell? ⟨w.heap.size, 1, none⟩ = some (.int .i64 m.height) ∧ w'.cell? ⟨w.heap.size, 2, none⟩ = some (.slice A1m n1m c1m) ∧ w'.cell? ⟨w.heap.size, 3, none⟩ = some (.slice A2m n2m c2m) ∧ w'.cell? ⟨w.heap.size + 1, 0, none⟩ = some (.int .i64 x.runner) ∧ w'.cell? ⟨w.heap.size + 1, 1, none⟩ = some (.int .i64 x.start) ∧ w'.cell? ⟨w.heap.size + 1, 2, none⟩ = some (.int .i64 x.seen) ∧ w'.cell? ⟨w.heap.size + 1, 3, none⟩ = some (.int .i64 x.place) ∧ w'.cell? ⟨w6.heap.size, 0, none⟩ = some (.int .i64 m.width) ∧ w'.cell? ⟨w6.heap.size, 1, none⟩ = some (.int .i64 m.height) ∧ w'.cell? ⟨w6.heap.size, 2, none⟩ = some (.slice A6a n1m n1m) ∧ w'.cell? ⟨w6.heap.size, 3, none⟩ = some (.slice A6b n2m n2m)) (go_keep)
    (first
      | (go_at_call 16
         refine (toMissing_any _ _ _ _ _).mono ?_
         rintro e w9 ⟨rfl, b9⟩
         have K9 := bel_then K8 b9
         have Z9 := b9.size
         have Y9 := K9.size
         clear Cm Cx CXm
         replace Bm := Bm.next b9
         replace Bx := Bx.next b9
         replace M3 := M3.next b9
         replace M5 := M5.next b9
         replace M6 := M6.next b9
         replace BXm := BXm.next b9
         clear b9
         have Cm := Bm.cell
         have Cx := Bx.cell
         have CXm := BXm.cell)
      | (go_at_call 46
         refine (ChancesOf_any _ _ _ _ _ _ _ x _ _ _ M6.sees hnm').mono ?_
         rw [HR.out]
         rintro e w10 ⟨A10, c10, rfl, o10, b10⟩
         have M10 := Mine.of o10
         clear o10
         have K10 := bel_then K9 b10
         have Z10 := b10.size
         have Y10 := K10.size
         clear Cm Cx CXm
         replace Bm := Bm.next b10
         replace Bx := Bx.next b10
         replace M3 := M3.next b10
         replace M5 := M5.next b10
         replace M6 := M6.next b10
         replace BXm := BXm.next b10
         clear b10
         have Cm := Bm.cell
         have Cx := Bx.cell
         have CXm := BXm.cell))
  go_wp2_with fail
  refine (eqSectorS_any _ _ _ _ _ _ _ _ _ _ _ M10.sees M5.sees rfl (by omega)).mono ?_
  rintro e w11 ⟨rfl, b11⟩
  have K11 := bel_then K10 b11
  have Z11 := b11.size
  have Y11 := K11.size
  clear Cm Cx CXm
  replace Bm := Bm.next b11
  replace Bx := Bx.next b11
  replace M3 := M3.next b11
  replace M5 := M5.next b11
  replace M6 := M6.next b11
  replace BXm := BXm.next b11
  replace M10 := M10.next b11
  clear b11
  have Cm := Bm.cell
  have Cx := Bx.cell
  have CXm := BXm.cell
  go_wp2_with fail
  have b12 := (Quiet.one w11).below w11.heap.size
  have K12 := bel_then K11 b12
  have Z12 := b12.size
  have Y12 := K12.size
  replace Bm := Bm.next b12
  replace Bx := Bx.next b12
  replace M3 := M3.next b12
  replace M5 := M5.next b12
  replace M6 := M6.next b12
  replace BXm := BXm.next b12
  replace M10 := M10.next b12
  clear b12
  go_region_held3 (fun w' => w'.cell? ⟨w.heap.size, 0, none⟩ = some (.int .i64 m.width) ∧ w'.cell? ⟨w.heap.size, 1, none⟩ = some (.int .i64 m.height) ∧ w'.cell? ⟨w.heap.size, 2, none⟩ = some (.slice A1m n1m c1m) ∧ w'.cell? ⟨w.heap.size, 3, none⟩ = some (.slice A2m n2m c2m) ∧ w'.cell? ⟨w.heap.size + 1, 0, none⟩ = some (.int .i64 x.runner) ∧ w'.cell? ⟨w.heap.size + 1, 1, none⟩ = some (.int .i64 x.start) ∧ w'.cell? ⟨w.heap.size + 1, 2, none⟩ = some (.int .i64 x.seen) ∧ w'.cell? ⟨w.heap.size + 1, 3, none⟩ = some (.int .i64 x.place) ∧ w'.cell? ⟨w6.heap.size, 0, none⟩ = some (.int .i64 m.width) ∧ w'.cell? ⟨w6.heap.size, 1, none⟩ = some (.int .i64 m.height) ∧ w'.cell? ⟨w6.heap.size, 2, none⟩ = some (.slice A6a n1m n1m) ∧ w'.cell? ⟨w6.heap.size, 3, none⟩ = some (.slice A6b n2m n2m)) (go_keep)
    (first
      | (go_at_call 15
         refine (toMap_any _ _ _ _ _ _ _ _ (hm.below K12 (Nat.le_refl _)) hnm').mono ?_
         rintro e w13 ⟨A13a, A13b, rfl, M13, b13⟩
         have K13 := bel_then K12 b13
         have Z13 := b13.size
         have Y13 := K13.size
         clear Cm Cx CXm
         replace Bm := Bm.next b13
         replace Bx := Bx.next b13
         replace M3 := M3.next b13
         replace M5 := M5.next b13
         replace M6 := M6.next b13
         replace BXm := BXm.next b13
         replace M10 := M10.next b13
         clear b13
         have Cm := Bm.cell
         have Cx := Bx.cell
         have CXm := BXm.cell)
      | (go_at_call 18
         refine (eqMap_any _ _ _ _ _ _ _ _ _ _ _ _ _ _ _ M6.sees M13.sees rfl hnm').mono ?_
         rintro e w14 ⟨rfl, b14⟩
         have K14 := bel_then K13 b14
         have Z14 := b14.size
         have Y14 := K14.size
         clear Cm Cx CXm
         replace Bm := Bm.next b14
         replace Bx := Bx.next b14
         replace M3 := M3.next b14
         replace M5 := M5.next b14
         replace M6 := M6.next b14
         replace BXm := BXm.next b14
         replace M10 := M10.next b14
         replace M13 := M13.next b14
         clear b14
         have Cm := Bm.cell
         have Cx := Bx.cell
         have CXm := BXm.cell))
  go_wp2_with fail
  refine (markMap_any _ _ _ _ _ _ _ _ _ _ M6 (by omega) (by omega) hnm').mono ?_
  rintro e w15 ⟨rfl, m15, q15⟩
  replace M6 := m15
  clear m15
  have b15 : Below w.heap.size w14 w15 := q15.below (fun i hi => by have := hi.1; omega) (by omega)
  have K15 := K14.trans b15
  have Z15 := q15.size
  have Y15 := K15.size
  clear b15
  clear Cm Cx CXm
  replace Bm := Bm.only q15 (fun h => by have := h.1; have := h.2; omega)
  replace Bx := Bx.only q15 (fun h => by have := h.1; have := h.2; omega)
  replace M3 := M3.only q15 (fun i h1 h2 => by have := h1.1; have := h1.2; have := h2.1; have := h2.2; omega)
  replace M5 := M5.only q15 (fun i h1 h2 => by have := h1.1; have := h1.2; have := h2.1; have := h2.2; omega)
  replace BXm := BXm.only q15 (fun h => by have := h.1; have := h.2; omega)
  replace M10 := M10.only q15 (fun i h1 h2 => by have := h1.1; have := h1.2; have := h2.1; have := h2.2; omega)
  replace M13 := M13.only q15 (fun i h1 h2 => by have := h1.1; have := h1.2; have := h2.1; have := h2.2; omega)
  clear q15
  have Cm := Bm.cell
  have Cx := Bx.cell
  have CXm := BXm.cell
  go_wp2_with fail
  refine (eqSectorS_any _ _ _ _ _ _ _ _ _ _ _ M10.sees M5.sees rfl (by omega)).mono ?_
  rintro e w16 ⟨rfl, b16⟩
  have K16 := bel_then K15 b16
  have Z16 := b16.size
  have Y16 := K16.size
  clear Cm Cx CXm
  replace Bm := Bm.next b16
  replace Bx := Bx.next b16
  replace M3 := M3.next b16
  replace M5 := M5.next b16
  replace M6 := M6.next b16
  replace BXm := BXm.next b16
  replace M10 := M10.next b16
  replace M13 := M13.next b16
  clear b16
  have Cm := Bm.cell
  have Cx := Bx.cell
  have CXm := BXm.cell
  go_wp2_with fail
  refine (markSectorS_any _ _ _ _ _ _ _ _ M10 (by omega) (by omega) (by omega)).mono ?_
  rintro e w17 ⟨rfl, m17, q17⟩
  replace M10 := m17
  clear m17
  have b17 : Below w.heap.size w16 w17 := q17.below (fun i hi => by have := hi.1; omega) (by omega)
  have K17 := K16.trans b17
  have Z17 := q17.size
  have Y17 := K17.size
  clear b17
  clear Cm Cx CXm
  replace Bm := Bm.only q17 (fun h => by have := h.1; have := h.2; omega)
  replace Bx := Bx.only q17 (fun h => by have := h.1; have := h.2; omega)
  replace M3 := M3.only q17 (fun i h1 h2 => by have := h1.1; have := h1.2; have := h2.1; have := h2.2; omega)
  replace M5 := M5.only q17 (fun i h1 h2 => by have := h1.1; have := h1.2; have := h2.1; have := h2.2; omega)
  replace M6 := M6.only q17 (fun i h1 h2 => by have := h1.1; have := h1.2; have := h2.1; have := h2.2; omega)
  replace BXm := BXm.only q17 (fun h => by have := h.1; have := h.2; omega)
  replace M13 := M13.only q17 (fun i h1 h2 => by have := h1.1; have := h1.2; have := h2.1; have := h2.2; omega)
  clear q17
  have Cm := Bm.cell
  have Cx := Bx.cell
  have CXm := BXm.cell
  go_wp2_with fail
  refine (heldSectorS_any _ _ _ _ _ _ M10.sees (by omega) (by omega) (by omega)).mono ?_
  rintro e w18 ⟨rfl, q18⟩
  have b18 := q18.below w17.heap.size
  clear q18
  have K18 := bel_then K17 b18
  have Z18 := b18.size
  have Y18 := K18.size
  clear Cm Cx CXm
  replace Bm := Bm.next b18
  replace Bx := Bx.next b18
  replace M3 := M3.next b18
  replace M5 := M5.next b18
  replace M6 := M6.next b18
  replace BXm := BXm.next b18
  replace M10 := M10.next b18
  replace M13 := M13.next b18
  clear b18
  have Cm := Bm.cell
  have Cx := Bx.cell
  have CXm := BXm.cell
  go_wp2_with fail
  have b19 := (Quiet.one w18).below w18.heap.size
  have K19 := bel_then K18 b19
  have Z19 := b19.size
  have Y19 := K19.size
  replace Bm := Bm.next b19
  replace Bx := Bx.next b19
  replace M3 := M3.next b19
  replace M5 := M5.next b19
  replace M6 := M6.next b19
  replace BXm := BXm.next b19
  replace M10 := M10.next b19
  replace M13 := M13.next b19
  clear b19
  go_region_held3 (fun w' => w'.cell? ⟨w.heap.size, 0, none⟩ = some (.int .i64 m.width) ∧ w'.cell? ⟨w.heap.size, 1, none⟩ = some (.int .i64 m.height) ∧ w'.cell? ⟨w.heap.size, 2, none⟩ = some (.slice A1m n1m c1m) ∧ w'.cell? ⟨w.heap.size, 3, none⟩ = some (.slice A2m n2m c2m) ∧ w'.cell? ⟨w.heap.size + 1, 0, none⟩ = some (.int .i64 x.runner) ∧ w'.cell? ⟨w.heap.size + 1, 1, none⟩ = some (.int .i64 x.start) ∧ w'.cell? ⟨w.heap.size + 1, 2, none⟩ = some (.int .i64 x.seen) ∧ w'.cell? ⟨w.heap.size + 1, 3, none⟩ = some (.int .i64 x.place) ∧ w'.cell? ⟨w6.heap.size, 0, none⟩ = some (.int .i64 m.width) ∧ w'.cell? ⟨w6.heap.size, 1, none⟩ = some (.int .i64 m.height) ∧ w'.cell? ⟨w6.heap.size, 2, none⟩ = some (.slice A6a n1m n1m) ∧ w'.cell? ⟨w6.heap.size, 3, none⟩ = some (.slice A6b n2m n2m)) (go_keep)
    (first
      | (go_at_call 15
         refine (toMap_any _ _ _ _ _ _ _ _ (hm.below K19 (Nat.le_refl _)) hnm').mono ?_
         rintro e w20 ⟨A20a, A20b, rfl, M20, b20⟩
         have K20 := bel_then K19 b20
         have Z20 := b20.size
         have Y20 := K20.size
         clear Cm Cx CXm
         replace Bm := Bm.next b20
         replace Bx := Bx.next b20
         replace M3 := M3.next b20
         replace M5 := M5.next b20
         replace M6 := M6.next b20
         replace BXm := BXm.next b20
         replace M10 := M10.next b20
         replace M13 := M13.next b20
         clear b20
         have Cm := Bm.cell
         have Cx := Bx.cell
         have CXm := BXm.cell)
      | (go_at_call 16
         refine (toMissing_any _ _ _ _ _).mono ?_
         rintro e w21 ⟨rfl, b21⟩
         have K21 := bel_then K20 b21
         have Z21 := b21.size
         have Y21 := K21.size
         clear Cm Cx CXm
         replace Bm := Bm.next b21
         replace Bx := Bx.next b21
         replace M3 := M3.next b21
         replace M5 := M5.next b21
         replace M6 := M6.next b21
         replace BXm := BXm.next b21
         replace M10 := M10.next b21
         replace M13 := M13.next b21
         replace M20 := M20.next b21
         clear b21
         have Cm := Bm.cell
         have Cx := Bx.cell
         have CXm := BXm.cell)
      | (go_at_call 46
         refine (ChancesOf_any _ _ _ _ _ _ _ x _ _ _ M20.sees hnm').mono ?_
         rw [HR.out]
         rintro e w22 ⟨A22, c22, rfl, o22, b22⟩
         have M22 := Mine.of o22
         clear o22
         have K22 := bel_then K21 b22
         have Z22 := b22.size
         have Y22 := K22.size
         clear Cm Cx CXm
         replace Bm := Bm.next b22
         replace Bx := Bx.next b22
         replace M3 := M3.next b22
         replace M5 := M5.next b22
         replace M6 := M6.next b22
         replace BXm := BXm.next b22
         replace M10 := M10.next b22
         replace M13 := M13.next b22
         replace M20 := M20.next b22
         clear b22
         have Cm := Bm.cell
         have Cx := Bx.cell
         have CXm := BXm.cell))
  go_wp2_with fail
  refine (eqSectorS_any _ _ _ _ _ _ _ _ _ _ _ M22.sees M5.sees rfl (by omega)).mono ?_
  rintro e w23 ⟨rfl, b23⟩
  have K23 := bel_then K22 b23
  have Z23 := b23.size
  have Y23 := K23.size
  clear Cm Cx CXm
  replace Bm := Bm.next b23
  replace Bx := Bx.next b23
  replace M3 := M3.next b23
  replace M5 := M5.next b23
  replace M6 := M6.next b23
  replace BXm := BXm.next b23
  replace M10 := M10.next b23
  replace M13 := M13.next b23
  replace M20 := M20.next b23
  replace M22 := M22.next b23
  clear b23
  have Cm := Bm.cell
  have Cx := Bx.cell
  have CXm := BXm.cell
  go_wp2_with fail
  refine (heldSectorS_any _ _ _ _ _ _ M10.sees (by omega) (by omega) (by omega)).mono ?_
  rintro e w24 ⟨rfl, q24⟩
  have b24 := q24.below w23.heap.size
  clear q24
  have K24 := bel_then K23 b24
  have Z24 := b24.size
  have Y24 := K24.size
  clear Cm Cx CXm
  replace Bm := Bm.next b24
  replace Bx := Bx.next b24
  replace M3 := M3.next b24
  replace M5 := M5.next b24
  replace M6 := M6.next b24
  replace BXm := BXm.next b24
  replace M10 := M10.next b24
  replace M13 := M13.next b24
  replace M20 := M20.next b24
  replace M22 := M22.next b24
  clear b24
  have Cm := Bm.cell
  have Cx := Bx.cell
  have CXm := BXm.cell
  go_wp2_with fail
  go_ret
  exact ⟨rfl, K24⟩

end Go.Proofs.Ytjcmlloglnkbfaa
