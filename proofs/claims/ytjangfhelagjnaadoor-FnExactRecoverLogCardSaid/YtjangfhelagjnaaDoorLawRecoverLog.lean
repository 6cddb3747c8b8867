/- The walk of the law FnExactRecoverLog. -/
import Derived.Test.YtjangfhelagjnaaDoorRecov
namespace Go.Proofs.YtjangfhelagjnaaDoor
open Go.RowKit

set_option maxRecDepth 100000 in
set_option maxHeartbeats 2000000 in
theorem FnExactRecoverLog_any (s : ByteArray) (w : World) (hs : s.size ≤ 9223372036854775807) (hg : Gl w) :
    Calls Tryd.prog 4 #[.string s] w fun e w' => e = .returned (.bool true) ∧ Below w.heap.size w w' := by
  by_cases hbig : s.size ≤ 1048576
  · go_enter Tryd.func4, Tryd.ntmps4
    go_wp2_with fail
    refine (specRecoverLog_any s _ hs).mono ?_
    rintro e w1 ⟨rfl, b1⟩
    go_wp2_with fail
    have K1 : Below w.heap.size w (w1.alloc (.cells #[.string (recovL s).1.durable, .string (recovL s).1.pending, .int .i64 (recovL s).1.count] 31)) := bel_then b1 ((Below.refl _ _).alloc (Nat.le_refl _) _)
    have B1 : Blk (w1.alloc (.cells #[.string (recovL s).1.durable, .string (recovL s).1.pending, .int .i64 (recovL s).1.count] 31)) w1.heap.size 31 [.string (recovL s).1.durable, .string (recovL s).1.pending, .int .i64 (recovL s).1.count] := Blk.at_ rfl
    refine (RecoverLog_any s _ hs (hg.next K1)).mono ?_
    generalize recovL s = R at *
    rintro e w2 ⟨rfl, b2⟩
    have K2 : Below w.heap.size w (w2.alloc (.cells #[.string R.1.durable, .string R.1.pending, .int .i64 R.1.count] 31)) := bel_then (bel_then K1 b2) ((Below.refl _ _).alloc (Nat.le_refl _) _)
    have B2 : Blk (w2.alloc (.cells #[.string R.1.durable, .string R.1.pending, .int .i64 R.1.count] 31)) w1.heap.size 31 [.string R.1.durable, .string R.1.pending, .int .i64 R.1.count] := (B1.next b2).alloc _
    have C2 : Blk (w2.alloc (.cells #[.string R.1.durable, .string R.1.pending, .int .i64 R.1.count] 31)) w2.heap.size 31 [.string R.1.durable, .string R.1.pending, .int .i64 R.1.count] := Blk.at_ rfl
    have c1 := B2.cell
    have c2 := C2.cell
    go_wp2_with fail
    refine (eqLog_any _ _ _ _).mono ?_
    rintro e w4 ⟨rfl, b4⟩
    go_wp2_with fail
    go_ret
    exact ⟨rfl, bel_then K2 b4⟩
  · have hbig' : (1048576 : Int) < (s.size : Int) := by omega
    go_enter Tryd.func4, Tryd.ntmps4
    go_wp2_with fail
    go_ret
    exact ⟨rfl, Below.refl _ _⟩

end Go.Proofs.YtjangfhelagjnaaDoor
