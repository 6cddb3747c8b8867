/- SyncLog, as the program and as the reference have it. -/
import Derived.Test.YtjangfhelagjnaaDoorIsVal
namespace Go.Proofs.YtjangfhelagjnaaDoor
open Go.RowKit

theorem bel_set3 {B g : Nat} {a w : World} (h : Below B a w) (hg : B ≤ g) (u v x : Value) : Below B a (((w.setCell ⟨g, 0, none⟩ u).setCell ⟨g, 1, none⟩ v).setCell ⟨g, 2, none⟩ x) :=
  ((h.setCell (p := ⟨g, 0, none⟩) hg _).setCell (p := ⟨g, 1, none⟩) hg _).setCell (p := ⟨g, 2, none⟩) hg _
def syncL (l : Log) : Log × Bool := if validL l then (⟨l.durable ++ l.pending, ⟨#[]⟩, l.count⟩, true) else (⟨⟨#[]⟩, ⟨#[]⟩, 0⟩, false)
/-- A log and a word. -/
def GivesLB (w : World) (R : Log × Bool) (e : Ending) (w' : World) : Prop := e = .returned (.tuple #[.agg #[.string R.1.durable, .string R.1.pending, .int .i64 R.1.count], .bool R.2]) ∧ Below w.heap.size w w'

set_option maxRecDepth 100000 in
set_option maxHeartbeats 1000000 in
theorem SyncLog_any (l : Log) (w : World) (hs : l.upto 1048576) (hg : Gl w) :
    Calls Tryd.prog 27 #[.agg #[.string l.durable, .string l.pending, .int .i64 l.count]] w (GivesLB w (syncL l)) := by
  have ⟨h1, h2⟩ := hs
  have zs : (l.durable ++ l.pending).size = l.durable.size + l.pending.size := ByteArray.size_append
  have fs : ¬ 9223372036854775807 < l.durable.size + l.pending.size := by omega
  have K0 : Below w.heap.size w ((w.alloc (.cells #[.string l.durable, .string l.pending, .int .i64 l.count] 31)).alloc (.cells #[.string ⟨#[]⟩, .string ⟨#[]⟩, .int .i64 0] 31)) := ((Below.refl _ _).alloc (Nat.le_refl _) _).alloc (by simp) _
  have B0 : Blk ((w.alloc (.cells #[.string l.durable, .string l.pending, .int .i64 l.count] 31)).alloc (.cells #[.string ⟨#[]⟩, .string ⟨#[]⟩, .int .i64 0] 31)) w.heap.size 31 [.string l.durable, .string l.pending, .int .i64 l.count] := (Blk.at_ rfl).alloc _
  have R0 : Blk ((w.alloc (.cells #[.string l.durable, .string l.pending, .int .i64 l.count] 31)).alloc (.cells #[.string ⟨#[]⟩, .string ⟨#[]⟩, .int .i64 0] 31)) (w.heap.size + 1) 31 [.string ⟨#[]⟩, .string ⟨#[]⟩, .int .i64 0] := Blk.at_ (by simp)
  cases hv : validL l
  · have HR := Lib.hid (show syncL l = (⟨⟨#[]⟩, ⟨#[]⟩, 0⟩, false) by simp [syncL, hv])
    have HV := Lib.hid hv
    clear hv
    go_enter Tryd.func27, Tryd.ntmps27
    go_wp2_with fail
    refine (IsValidLog_any l _ hs (hg.next K0)).mono ?_
    rintro e w1 ⟨rfl, b1⟩
    rw [HV.out]
    have K1 := bel_then K0 b1
    have R1 := R0.next b1
    have r1 := R1.cell
    have r1f := R1.frozen
    go_wp2_with fail
    refine bodyPost_ret (v := .tuple #[.agg #[.string ⟨#[]⟩, .string ⟨#[]⟩, .int .i64 0], .bool false]) (by simp [results, Tryd.results27, go_sem, r1]) rfl ?_
    rw [HR.out]
    exact ⟨rfl, bel_set3 K1 (Nat.le_succ _) _ _ _⟩
  · have HR := Lib.hid (show syncL l = (⟨l.durable ++ l.pending, ⟨#[]⟩, l.count⟩, true) by simp [syncL, hv])
    have HV := Lib.hid hv
    clear hv
    go_enter Tryd.func27, Tryd.ntmps27
    go_wp2_with fail
    refine (IsValidLog_any l _ hs (hg.next K0)).mono ?_
    rintro e w1 ⟨rfl, b1⟩
    rw [HV.out]
    have K1 := bel_then K0 b1
    have B1 := B0.next b1
    have c1 := B1.cell
    have R1 := R0.next b1
    have r1 := R1.cell
    have r1f := R1.frozen
    go_wp2_with fail
    refine bodyPost_ret (v := .tuple #[.agg #[.string (l.durable ++ l.pending), .string ⟨#[]⟩, .int .i64 l.count], .bool true]) (by simp [results, Tryd.results27, go_sem, r1]) rfl ?_
    rw [HR.out]
    exact ⟨rfl, bel_set3 K1 (Nat.le_succ _) _ _ _⟩

set_option maxRecDepth 100000 in
set_option maxHeartbeats 1000000 in
theorem specSyncLog_any (l : Log) (w : World) (hs : l.upto 1048576) :
    Calls Tryd.prog 26 #[.agg #[.string l.durable, .string l.pending, .int .i64 l.count]] w (GivesLB w (syncL l)) := by
  have ⟨h1, h2⟩ := hs
  have zs : (l.durable ++ l.pending).size = l.durable.size + l.pending.size := ByteArray.size_append
  have fs : ¬ 9223372036854775807 < l.durable.size + l.pending.size := by omega
  have K0 : Below w.heap.size w ((w.alloc (.cells #[.string l.durable, .string l.pending, .int .i64 l.count] 31)).alloc (.cells #[.string ⟨#[]⟩, .string ⟨#[]⟩, .int .i64 0] 31)) := ((Below.refl _ _).alloc (Nat.le_refl _) _).alloc (by simp) _
  have B0 : Blk ((w.alloc (.cells #[.string l.durable, .string l.pending, .int .i64 l.count] 31)).alloc (.cells #[.string ⟨#[]⟩, .string ⟨#[]⟩, .int .i64 0] 31)) w.heap.size 31 [.string l.durable, .string l.pending, .int .i64 l.count] := (Blk.at_ rfl).alloc _
  have R0 : Blk ((w.alloc (.cells #[.string l.durable, .string l.pending, .int .i64 l.count] 31)).alloc (.cells #[.string ⟨#[]⟩, .string ⟨#[]⟩, .int .i64 0] 31)) (w.heap.size + 1) 31 [.string ⟨#[]⟩, .string ⟨#[]⟩, .int .i64 0] := Blk.at_ (by simp)
  cases hv : validL l
  · have HR := Lib.hid (show syncL l = (⟨⟨#[]⟩, ⟨#[]⟩, 0⟩, false) by simp [syncL, hv])
    have HV := Lib.hid hv
    clear hv
    go_enter Tryd.func26, Tryd.ntmps26
    go_wp2_with fail
    refine (l27Log_any l _ hs).mono ?_
    rintro e w1 ⟨rfl, b1⟩
    rw [HV.out]
    have K1 := bel_then K0 b1
    have R1 := R0.next b1
    have r1 := R1.cell
    have r1f := R1.frozen
    go_wp2_with fail
    refine bodyPost_ret (v := .tuple #[.agg #[.string ⟨#[]⟩, .string ⟨#[]⟩, .int .i64 0], .bool false]) (by simp [results, Tryd.results26, go_sem, r1]) rfl ?_
    rw [HR.out]
    exact ⟨rfl, bel_set3 K1 (Nat.le_succ _) _ _ _⟩
  · have HR := Lib.hid (show syncL l = (⟨l.durable ++ l.pending, ⟨#[]⟩, l.count⟩, true) by simp [syncL, hv])
    have HV := Lib.hid hv
    clear hv
    go_enter Tryd.func26, Tryd.ntmps26
    go_wp2_with fail
    refine (l27Log_any l _ hs).mono ?_
    rintro e w1 ⟨rfl, b1⟩
    rw [HV.out]
    have K1 := bel_then K0 b1
    have B1 := B0.next b1
    have c1 := B1.cell
    have R1 := R0.next b1
    have r1 := R1.cell
    have r1f := R1.frozen
    go_wp2_with fail
    refine bodyPost_ret (v := .tuple #[.agg #[.string (l.durable ++ l.pending), .string ⟨#[]⟩, .int .i64 l.count], .bool true]) (by simp [results, Tryd.results26, go_sem, r1]) rfl ?_
    rw [HR.out]
    exact ⟨rfl, bel_set3 K1 (Nat.le_succ _) _ _ _⟩

end Go.Proofs.YtjangfhelagjnaaDoor
