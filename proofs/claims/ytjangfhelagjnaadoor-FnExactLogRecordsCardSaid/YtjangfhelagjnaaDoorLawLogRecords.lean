/- The walk of the law FnExactLogRecords. -/
import Derived.Test.YtjangfhelagjnaaDoorLogRs
namespace Go.Proofs.YtjangfhelagjnaaDoor
open Go.RowKit

set_option maxRecDepth 100000 in
set_option maxHeartbeats 2000000 in
theorem FnExactLogRecords_any (x : Log) (w : World) (hkx : x.upto 9223372036854775807) (hg : Gl w) :
    Calls Tryd.prog 9 #[.agg #[.string x.durable, .string x.pending, .int .i64 x.count]] w fun e w' => e = .returned (.bool true) ∧ Below w.heap.size w w' := by
  have K0 := Below.refl w.heap.size w
  go_enter Tryd.func9, Tryd.ntmps9
  go_wp2_with fail
  replace K0 : Below w.heap.size w (w.alloc (.cells #[.string x.durable, .string x.pending, .int .i64 x.count] 36)) := ((Below.refl w.heap.size w).alloc (by simp) (.cells #[.string x.durable, .string x.pending, .int .i64 x.count] 36))
  have Bx : Blk (w.alloc (.cells #[.string x.durable, .string x.pending, .int .i64 x.count] 36)) (w.heap.size) 36 [.string x.durable, .string x.pending, .int .i64 x.count] := (Blk.at_ (by simp))
  have Y0 : w.heap.size + 1 ≤ (w.alloc (.cells #[.string x.durable, .string x.pending, .int .i64 x.count] 36)).heap.size := by simp
  generalize (w.alloc (.cells #[.string x.durable, .string x.pending, .int .i64 x.count] 36)) = w0 at *
  have Cx := Bx.cell
  go_wp2_with fail
  refine (szLog_any x _ _ hkx (by omega) (by omega)).mono ?_
  rintro e w1 ⟨lx, rfl, b1, rfl | ⟨px, qx, hux⟩⟩
  · go_wp2_with fail
    go_ret
    exact ⟨rfl, bel_then K0 b1⟩
  have K1 := bel_then K0 b1
  have Z1 := b1.size
  have Y1 := K1.size
  clear Cx
  replace Bx := Bx.next b1
  clear b1
  have Cx := Bx.cell
  have hRl := recsL_len x
  go_wp2_with fail
  refine (toLog_any _ _ _ _).mono ?_
  rintro e w2 ⟨rfl, b2⟩
  have K2 := bel_then K1 b2
  have Z2 := b2.size
  have Y2 := K2.size
  clear Cx
  replace Bx := Bx.next b2
  clear b2
  have Cx := Bx.cell
  go_wp2_with fail
  refine (specLogRecords_any x _ hux).mono ?_
  generalize hRe : recsL x = R at *
  have HR := Lib.hid hRe
  clear hRe
  rintro e w3 ⟨A3, c3, rfl, o3, b3⟩
  have M3 := Mine.of o3
  clear o3
  have K3 := bel_then K2 b3
  have Z3 := b3.size
  have Y3 := K3.size
  clear Cx
  replace Bx := Bx.next b3
  clear b3
  have Cx := Bx.cell
  go_wp2_with fail
  refine (toLog_any _ _ _ _).mono ?_
  rintro e w4 ⟨rfl, b4⟩
  have K4 := bel_then K3 b4
  have Z4 := b4.size
  have Y4 := K4.size
  clear Cx
  replace Bx := Bx.next b4
  replace M3 := M3.next b4
  clear b4
  have Cx := Bx.cell
  go_wp2_with fail
  refine (LogRecords_any x _ hux (hg.next K4)).mono ?_
  rw [HR.out]
  rintro e w5 ⟨A5, c5, rfl, o5, b5⟩
  have M5 := Mine.of o5
  clear o5
  have K5 := bel_then K4 b5
  have Z5 := b5.size
  have Y5 := K5.size
  clear Cx
  replace Bx := Bx.next b5
  replace M3 := M3.next b5
  clear b5
  have Cx := Bx.cell
  go_wp2_with fail
  refine (eqLogRecordS_any _ _ _ _ _ _ _ _ _ _ _ M5.sees M3.sees rfl (by omega)).mono ?_
  rintro e w6 ⟨rfl, b6⟩
  have K6 := bel_then K5 b6
  have Z6 := b6.size
  have Y6 := K6.size
  clear Cx
  replace Bx := Bx.next b6
  replace M3 := M3.next b6
  replace M5 := M5.next b6
  clear b6
  have Cx := Bx.cell
  go_wp2_with fail
  refine (markLogRecordS_any _ _ _ _ _ _ _ _ M5 (by omega) (by omega) (by omega)).mono ?_
  rintro e w7 ⟨rfl, m7, q7⟩
  replace M5 := m7
  clear m7
  have b7 : Below w.heap.size w6 w7 := q7.below (fun i hi => by have := hi.1; omega) (by omega)
  have K7 := K6.trans b7
  have Z7 := q7.size
  have Y7 := K7.size
  clear b7
  clear Cx
  replace Bx := Bx.only q7 (fun h => by have := h.1; have := h.2; omega)
  replace M3 := M3.only q7 (fun i h1 h2 => by have := h1.1; have := h1.2; have := h2.1; have := h2.2; omega)
  clear q7
  have Cx := Bx.cell
  go_wp2_with fail
  refine (heldLogRecordS_any _ _ _ _ _ _ M5.sees (by omega) (by omega) (by omega)).mono ?_
  rintro e w8 ⟨rfl, b8⟩
  have K8 := bel_then K7 b8
  have Z8 := b8.size
  have Y8 := K8.size
  clear Cx
  replace Bx := Bx.next b8
  replace M3 := M3.next b8
  replace M5 := M5.next b8
  clear b8
  have Cx := Bx.cell
  go_wp2_with fail
  refine (toLog_any _ _ _ _).mono ?_
  rintro e w9 ⟨rfl, b9⟩
  have K9 := bel_then K8 b9
  have Z9 := b9.size
  have Y9 := K9.size
  clear Cx
  replace Bx := Bx.next b9
  replace M3 := M3.next b9
  replace M5 := M5.next b9
  clear b9
  have Cx := Bx.cell
  go_wp2_with fail
  refine (LogRecords_any x _ hux (hg.next K9)).mono ?_
  rw [HR.out]
  rintro e w10 ⟨A10, c10, rfl, o10, b10⟩
  have M10 := Mine.of o10
  clear o10
  have K10 := bel_then K9 b10
  have Z10 := b10.size
  have Y10 := K10.size
  clear Cx
  replace Bx := Bx.next b10
  replace M3 := M3.next b10
  replace M5 := M5.next b10
  clear b10
  have Cx := Bx.cell
  go_wp2_with fail
  refine (eqLogRecordS_any _ _ _ _ _ _ _ _ _ _ _ M10.sees M3.sees rfl (by omega)).mono ?_
  rintro e w11 ⟨rfl, b11⟩
  have K11 := bel_then K10 b11
  have Z11 := b11.size
  have Y11 := K11.size
  clear Cx
  replace Bx := Bx.next b11
  replace M3 := M3.next b11
  replace M5 := M5.next b11
  replace M10 := M10.next b11
  clear b11
  have Cx := Bx.cell
  go_wp2_with fail
  refine (heldLogRecordS_any _ _ _ _ _ _ M5.sees (by omega) (by omega) (by omega)).mono ?_
  rintro e w12 ⟨rfl, b12⟩
  have K12 := bel_then K11 b12
  have Z12 := b12.size
  have Y12 := K12.size
  clear Cx
  replace Bx := Bx.next b12
  replace M3 := M3.next b12
  replace M5 := M5.next b12
  replace M10 := M10.next b12
  clear b12
  have Cx := Bx.cell
  go_wp2_with fail
  go_ret
  exact ⟨rfl, K12⟩

end Go.Proofs.YtjangfhelagjnaaDoor
