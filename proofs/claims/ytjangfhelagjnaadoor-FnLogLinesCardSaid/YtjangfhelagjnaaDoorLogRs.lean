/- LogRecords, as the program and as the reference have it. -/
import Derived.Test.YtjangfhelagjnaaDoorIsVal
import Derived.Test.YtjangfhelagjnaaDoorLogS
namespace Go.Proofs.YtjangfhelagjnaaDoor
open Go.RowKit

def recsL (l : Log) : List LogRecord × Bool := if validL l then ((allR (l.durable ++ l.pending)).l, true) else ([], false)
theorem recsL_len (l : Log) : (recsL l).1.length ≤ 60 := by
  unfold recsL
  split
  · exact (allR_ok _).len
  · exact Nat.zero_le _
/-- A list of records and a word. -/
def GivesRB (w : World) (R : List LogRecord × Bool) (e : Ending) (w' : World) : Prop := ∃ (A : Option Addr) (c : Nat), e = .returned (.tuple #[.slice A R.1.length c, .bool R.2]) ∧ w'.ownsRow w.heap.size 27 2 (.slice A R.1.length c) R.1.length (R.1.flatMap LogRecord.enc) ∧ Below w.heap.size w w'

set_option maxRecDepth 100000 in
set_option maxHeartbeats 1000000 in
theorem LogRecords_any (l : Log) (w : World) (hs : l.upto 1048576) (hg : Gl w) :
    Calls Tryd.prog 31 #[.agg #[.string l.durable, .string l.pending, .int .i64 l.count]] w (GivesRB w (recsL l)) := by
  have ⟨h1, h2⟩ := hs
  have zs : (l.durable ++ l.pending).size = l.durable.size + l.pending.size := ByteArray.size_append
  have fs : ¬ 9223372036854775807 < l.durable.size + l.pending.size := by omega
  have K0 : Below w.heap.size w (w.alloc (.cells #[.string l.durable, .string l.pending, .int .i64 l.count] 31)) := (Below.refl _ _).alloc (Nat.le_refl _) _
  have B0 : Blk (w.alloc (.cells #[.string l.durable, .string l.pending, .int .i64 l.count] 31)) w.heap.size 31 [.string l.durable, .string l.pending, .int .i64 l.count] := Blk.at_ rfl
  cases hv : validL l
  · have HR := Lib.hid (show recsL l = ([], false) by simp [recsL, hv])
    have HV := Lib.hid hv
    clear hv
    go_enter Tryd.func31, Tryd.ntmps31
    go_wp2_with fail
    refine (IsValidLog_any l _ hs (hg.next K0)).mono ?_
    rintro e w1 ⟨rfl, b1⟩
    rw [HV.out]
    have K1 := bel_then K0 b1
    go_wp2_with fail
    go_ret2
    rw [HR.out]
    exact ⟨none, 0, rfl, World.ownsRow_nil _ _ _ _, K1⟩
  · have HR := Lib.hid (show recsL l = ((allR (l.durable ++ l.pending)).l, true) by simp [recsL, hv])
    have HV := Lib.hid hv
    clear hv
    go_enter Tryd.func31, Tryd.ntmps31
    go_wp2_with fail
    refine (IsValidLog_any l _ hs (hg.next K0)).mono ?_
    rintro e w1 ⟨rfl, b1⟩
    rw [HV.out]
    have K1 := bel_then K0 b1
    have B1 := B0.next b1
    have c1 := B1.cell
    go_wp2_with fail
    refine (readRecords_any (l.durable ++ l.pending) _ (by omega) (hg.next K1)).mono ?_
    rintro e w2 ⟨A, B, c, d, rfl, hA, hB, b2⟩
    have K2 := bel_then K1 b2
    go_wp2_with fail
    go_ret2
    rw [HR.out]
    exact ⟨_, _, rfl, own_base hA K1.size, K2⟩

set_option maxRecDepth 100000 in
set_option maxHeartbeats 1000000 in
theorem specLogRecords_any (l : Log) (w : World) (hs : l.upto 1048576) :
    Calls Tryd.prog 30 #[.agg #[.string l.durable, .string l.pending, .int .i64 l.count]] w (GivesRB w (recsL l)) := by
  have ⟨h1, h2⟩ := hs
  have zs : (l.durable ++ l.pending).size = l.durable.size + l.pending.size := ByteArray.size_append
  have fs : ¬ 9223372036854775807 < l.durable.size + l.pending.size := by omega
  have K0 : Below w.heap.size w (w.alloc (.cells #[.string l.durable, .string l.pending, .int .i64 l.count] 31)) := (Below.refl _ _).alloc (Nat.le_refl _) _
  have B0 : Blk (w.alloc (.cells #[.string l.durable, .string l.pending, .int .i64 l.count] 31)) w.heap.size 31 [.string l.durable, .string l.pending, .int .i64 l.count] := Blk.at_ rfl
  cases hv : validL l
  · have HR := Lib.hid (show recsL l = ([], false) by simp [recsL, hv])
    have HV := Lib.hid hv
    clear hv
    go_enter Tryd.func30, Tryd.ntmps30
    go_wp2_with fail
    refine (l27Log_any l _ hs).mono ?_
    rintro e w1 ⟨rfl, b1⟩
    rw [HV.out]
    have K1 := bel_then K0 b1
    go_wp2_with fail
    go_ret2
    rw [HR.out]
    exact ⟨_, 0, rfl, own_base (own_empty w1 _ _) K1.size, bel_then K1 ((Below.refl _ _).alloc (Nat.le_refl _) _)⟩
  · have HR := Lib.hid (show recsL l = ((allR (l.durable ++ l.pending)).l, true) by simp [recsL, hv])
    have HV := Lib.hid hv
    clear hv
    go_enter Tryd.func30, Tryd.ntmps30
    go_wp2_with fail
    refine (l27Log_any l _ hs).mono ?_
    rintro e w1 ⟨rfl, b1⟩
    rw [HV.out]
    have K1 := bel_then K0 b1
    have B1 := B0.next b1
    have c1 := B1.cell
    go_wp2_with fail
    refine (l27Open_any (l.durable ++ l.pending) _ (by omega)).mono ?_
    rintro e w2 ⟨A, c, rfl, hA, b2⟩
    have K2 := bel_then K1 b2
    go_wp2_with fail
    go_ret2
    rw [HR.out]
    exact ⟨_, _, rfl, own_base hA K1.size, K2⟩

end Go.Proofs.YtjangfhelagjnaaDoor
