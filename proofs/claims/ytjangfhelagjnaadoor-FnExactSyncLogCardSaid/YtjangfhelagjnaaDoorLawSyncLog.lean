/- The walk of the law FnExactSyncLog. -/
import Derived.Test.YtjangfhelagjnaaDoorSyncL
namespace Go.Proofs.YtjangfhelagjnaaDoor
open Go.RowKit

set_option maxRecDepth 100000 in
set_option maxHeartbeats 2000000 in
theorem FnExactSyncLog_any (x : Log) (w : World) (hkx : x.upto 9223372036854775807) (hg : Gl w) :
    Calls Tryd.prog 7 #[.agg #[.string x.durable, .string x.pending, .int .i64 x.count]] w fun e w' => e = .returned (.bool true) ∧ Below w.heap.size w w' := by
  have K0 := Below.refl w.heap.size w
  go_enter Tryd.func7, Tryd.ntmps7
  go_wp2_with fail
  replace K0 : Below w.heap.size w (w.alloc (.cells #[.string x.durable, .string x.pending, .int .i64 x.count] 36)) := ((Below.refl w.heap.size w).alloc (by simp) (.cells #[.string x.durable, .string x.pending, .int .i64 x.count] 36))
  have Bx : Blk (w.alloc (.cells #[.string x.durable, .string x.pending, .int .i64 x.count] 36)) (w.heap.size) 36 [.string x.durable, .string x.pending, .int .i64 x.count] := (Blk.at_ (by simp))
  have Y0 : w.heap.size + 1 ≤ (w.alloc (.cells #[.string x.durable, .string x.pending, .int .i64 x.count] 36)).heap.size := by simp
  generalize (w.alloc (.cells #[.string x.durable, .string x.pending, .int .i64 x.count] 36)) = w0 at *
  have Cx := Bx.cell
  go_wp2_with fail
  refine (szLog_any x _ _ hkx (by omega) (by omega)).mono ?_
  rintro e w1 ⟨lx, rfl, b1, rfl | ⟨px, qx, hux⟩⟩
  · go_wp2_with fail
    go_ret
    exact ⟨rfl, bel_then K0 b1⟩
  have K1 := bel_then K0 b1
  have Z1 := b1.size
  have Y1 := K1.size
  clear Cx
  replace Bx := Bx.next b1
  clear b1
  have Cx := Bx.cell
  go_wp2_with fail
  refine (toLog_any _ _ _ _).mono ?_
  rintro e w2 ⟨rfl, b2⟩
  have K2 := bel_then K1 b2
  have Z2 := b2.size
  have Y2 := K2.size
  clear Cx
  replace Bx := Bx.next b2
  clear b2
  have Cx := Bx.cell
  go_wp2_with fail
  refine (specSyncLog_any x _ hux).mono ?_
  generalize hRe : syncL x = R at *
  have HR := Lib.hid hRe
  clear hRe
  rintro e w3 ⟨rfl, b3⟩
  have K3 := bel_then K2 b3
  have Z3 := b3.size
  have Y3 := K3.size
  clear Cx
  replace Bx := Bx.next b3
  clear b3
  have Cx := Bx.cell
  have l4_0 : w.heap.size < w3.heap.size := by omega
  go_wp2_with fail
  have b4 : Below w3.heap.size w3 (w3.alloc (.cells #[.string R.1.durable, .string R.1.pending, .int .i64 R.1.count] 31)) := (Below.refl _ _).alloc (Nat.le_refl _) _
  have BR0 : Blk (w3.alloc (.cells #[.string R.1.durable, .string R.1.pending, .int .i64 R.1.count] 31)) w3.heap.size 31 [.string R.1.durable, .string R.1.pending, .int .i64 R.1.count] := Blk.at_ rfl
  have K4 := bel_then K3 b4
  have Z4 := b4.size
  have Y4 := K4.size
  clear Cx
  replace Bx := Bx.next b4
  clear b4
  have Cx := Bx.cell
  have V4 : w3.heap.size + 1 ≤ (w3.alloc (.cells #[.string R.1.durable, .string R.1.pending, .int .i64 R.1.count] 31)).heap.size := by simp
  generalize (w3.alloc (.cells #[.string R.1.durable, .string R.1.pending, .int .i64 R.1.count] 31)) = w4 at *
  have CR0 := BR0.cell
  go_wp2_with fail
  refine (toLog_any _ _ _ _).mono ?_
  rintro e w5 ⟨rfl, b5⟩
  have K5 := bel_then K4 b5
  have Z5 := b5.size
  have Y5 := K5.size
  clear Cx CR0
  replace Bx := Bx.next b5
  replace BR0 := BR0.next b5
  clear b5
  have Cx := Bx.cell
  have CR0 := BR0.cell
  go_wp2_with fail
  refine (SyncLog_any x _ hux (hg.next K5)).mono ?_
  rw [HR.out]
  rintro e w6 ⟨rfl, b6⟩
  have K6 := bel_then K5 b6
  have Z6 := b6.size
  have Y6 := K6.size
  clear Cx CR0
  replace Bx := Bx.next b6
  replace BR0 := BR0.next b6
  clear b6
  have Cx := Bx.cell
  have CR0 := BR0.cell
  have l7_0 : w.heap.size < w6.heap.size := by omega
  have l7_1 : w3.heap.size < w6.heap.size := by omega
  go_wp2_with fail
  have b7 : Below w6.heap.size w6 (w6.alloc (.cells #[.string R.1.durable, .string R.1.pending, .int .i64 R.1.count] 31)) := (Below.refl _ _).alloc (Nat.le_refl _) _
  have BR1 : Blk (w6.alloc (.cells #[.string R.1.durable, .string R.1.pending, .int .i64 R.1.count] 31)) w6.heap.size 31 [.string R.1.durable, .string R.1.pending, .int .i64 R.1.count] := Blk.at_ rfl
  have K7 := bel_then K6 b7
  have Z7 := b7.size
  have Y7 := K7.size
  clear Cx CR0
  replace Bx := Bx.next b7
  replace BR0 := BR0.next b7
  clear b7
  have Cx := Bx.cell
  have CR0 := BR0.cell
  have V7 : w6.heap.size + 1 ≤ (w6.alloc (.cells #[.string R.1.durable, .string R.1.pending, .int .i64 R.1.count] 31)).heap.size := by simp
  generalize (w6.alloc (.cells #[.string R.1.durable, .string R.1.pending, .int .i64 R.1.count] 31)) = w7 at *
  have CR1 := BR1.cell
  go_wp2_with fail
  refine (eqLog_any _ _ _ _).mono ?_
  rintro e w8 ⟨rfl, b8⟩
  have K8 := bel_then K7 b8
  have Z8 := b8.size
  have Y8 := K8.size
  clear Cx CR0 CR1
  replace Bx := Bx.next b8
  replace BR0 := BR0.next b8
  replace BR1 := BR1.next b8
  clear b8
  have Cx := Bx.cell
  have CR0 := BR0.cell
  have CR1 := BR1.cell
  go_wp2_with fail
  go_ret
  exact ⟨rfl, K8⟩

end Go.Proofs.YtjangfhelagjnaaDoor
