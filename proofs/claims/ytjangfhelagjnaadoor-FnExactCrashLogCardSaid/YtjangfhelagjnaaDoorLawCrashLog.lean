/- The walk of the law FnExactCrashLog. -/
import Derived.Test.YtjangfhelagjnaaDoorCrashL
namespace Go.Proofs.YtjangfhelagjnaaDoor
open Go.RowKit

set_option maxRecDepth 100000 in
set_option maxHeartbeats 2000000 in
theorem FnExactCrashLog_any (x : Log) (k : Int) (t : Bool) (w : World) (hkx : x.upto 9223372036854775807) (hg : Gl w) :
    Calls Tryd.prog 6 #[.agg #[.string x.durable, .string x.pending, .int .i64 x.count], .int .i64 k, .bool t] w fun e w' => e = .returned (.bool true) ∧ Below w.heap.size w w' := by
  have K0 := Below.refl w.heap.size w
  go_enter Tryd.func6, Tryd.ntmps6
  go_wp2_with fail
  replace K0 : Below w.heap.size w (w.alloc (.cells #[.string x.durable, .string x.pending, .int .i64 x.count] 36)) := ((Below.refl w.heap.size w).alloc (by simp) (.cells #[.string x.durable, .string x.pending, .int .i64 x.count] 36))
  have Bx : Blk (w.alloc (.cells #[.string x.durable, .string x.pending, .int .i64 x.count] 36)) (w.heap.size) 36 [.string x.durable, .string x.pending, .int .i64 x.count] := (Blk.at_ (by simp))
  have Y0 : w.heap.size + 1 ≤ (w.alloc (.cells #[.string x.durable, .string x.pending, .int .i64 x.count] 36)).heap.size := by simp
  generalize (w.alloc (.cells #[.string x.durable, .string x.pending, .int .i64 x.count] 36)) = w0 at *
  have Cx := Bx.cell
  go_wp2_with fail
  refine (szLog_any x _ _ hkx (by omega) (by omega)).mono ?_
  rintro e w1 ⟨lx, rfl, b1, rfl | ⟨px, qx, hux⟩⟩
  · go_wp2_with fail
    go_ret
    exact ⟨rfl, bel_then K0 b1⟩
  have K1 := bel_then K0 b1
  have Z1 := b1.size
  have Y1 := K1.size
  clear Cx
  replace Bx := Bx.next b1
  clear b1
  have Cx := Bx.cell
  go_wp2_with fail
  refine (toLog_any _ _ _ _).mono ?_
  rintro e w2 ⟨rfl, b2⟩
  have K2 := bel_then K1 b2
  have Z2 := b2.size
  have Y2 := K2.size
  clear Cx
  replace Bx := Bx.next b2
  clear b2
  have Cx := Bx.cell
  go_wp2_with fail
  refine (specCrashLog_any x k t _ hux).mono ?_
  generalize hRe : crashL x k t = R at *
  have HR := Lib.hid hRe
  clear hRe
  rintro e w3 ⟨rfl, b3⟩
  have K3 := bel_then K2 b3
  have Z3 := b3.size
  have Y3 := K3.size
  clear Cx
  replace Bx := Bx.next b3
  clear b3
  have Cx := Bx.cell
  go_wp2_with fail
  refine (toLog_any _ _ _ _).mono ?_
  rintro e w4 ⟨rfl, b4⟩
  have K4 := bel_then K3 b4
  have Z4 := b4.size
  have Y4 := K4.size
  clear Cx
  replace Bx := Bx.next b4
  clear b4
  have Cx := Bx.cell
  go_wp2_with fail
  refine (CrashLog_any x k t _ hux (hg.next K4)).mono ?_
  rw [HR.out]
  rintro e w5 ⟨rfl, b5⟩
  have K5 := bel_then K4 b5
  have Z5 := b5.size
  have Y5 := K5.size
  clear Cx
  replace Bx := Bx.next b5
  clear b5
  have Cx := Bx.cell
  go_wp2_with fail
  go_ret
  exact ⟨rfl, K5⟩

end Go.Proofs.YtjangfhelagjnaaDoor
