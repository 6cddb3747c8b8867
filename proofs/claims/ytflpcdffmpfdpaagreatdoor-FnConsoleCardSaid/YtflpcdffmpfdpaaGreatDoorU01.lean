/- Joined texts of this proof: LogT, Read, LogL, SyncL. -/
import Derived.Test.YtflpcdffmpfdpaaGreatDoorB02
import Derived.Test.YtflpcdffmpfdpaaGreatDoorB18
import Derived.Test.YtflpcdffmpfdpaaGreatDoorB13
import Derived.Test.YtflpcdffmpfdpaaGreatDoorB20
import Derived.Test.YtflpcdffmpfdpaaGreatDoorB11
import Derived.Test.YtflpcdffmpfdpaaGreatDoorB19
set_option maxRecDepth 100000
set_option maxHeartbeats 8000000
namespace Go.Proofs.YtflpcdffmpfdpaaGreatDoor
open Go.RowKit
theorem LogRecord.upto_mono {m n : Nat} {x : LogRecord} (h : x.upto m) (hm : m ≤ n) : x.upto n := by unfold LogRecord.upto at *; omega
theorem okR_of {k : Nat} {e : LogRecord} {line : ByteArray} (h : jgb e = true) (hl : jck k e = line ++ ⟨#[10]⟩) : okR k line = some e := by
  have h1 := (jju h hl).1
  unfold okR
  rw [h1, if_pos ⟨h, hl⟩]
theorem Log.upto_mono {m n : Nat} {x : Log} (h : x.upto m) (hm : m ≤ n) : x.upto n := by unfold Log.upto at *; omega
def jr2 (l : Log) : Log × Bool := if ja9 l then (⟨l.durable ++ l.pending, ⟨#[]⟩, l.count⟩, true) else (⟨⟨#[]⟩, ⟨#[]⟩, 0⟩, false)
def jtv (w : World) (R : Log × Bool) (e : Ending) (w' : World) : Prop := e = .returned (.tuple #[.agg #[.string R.1.durable, .string R.1.pending, .int .i64 R.1.count], .bool R.2]) ∧ Below w.heap.size w w'
theorem jrc (l : Log) (w : World) (hs : l.upto 1048576) :
    Calls Tryz.prog 190 #[.agg #[l.durable, l.pending, l.count]] w (jtv w (jr2 l)) := by
  have ⟨h1, h2⟩ := hs
  have zs : (l.durable ++ l.pending).size = l.durable.size + l.pending.size := ByteArray.size_append
  have fs : ¬ 9223372036854775807 < l.durable.size + l.pending.size := by omega
  have K0 := nB2 w (.cells #[l.durable, l.pending, l.count] 33) (.cells #[.string ⟨#[]⟩, .string ⟨#[]⟩, .int .i64 0] 33)
  have B0 := nPa w [l.durable, l.pending, l.count] 33 (.cells #[.string ⟨#[]⟩, .string ⟨#[]⟩, .int .i64 0] 33)
  have R0 := nQ w (.cells #[l.durable, l.pending, l.count] 33) [.string ⟨#[]⟩, .string ⟨#[]⟩, .int .i64 0] 33
  cases hv : ja9 l
  · have HR := Lib.hid (show jr2 l = (⟨⟨#[]⟩, ⟨#[]⟩, 0⟩, false) by simp [jr2, hv])
    have HV := Lib.hid hv
    clear hv
    go_enter Tryz.func190, Tryz.ntmps190
    go_wp2_with fail
    refine (jed l _ hs).mono ?_
    rintro e w1 ⟨rfl, b1⟩
    rw [HV.out]
    have K1 := jaa K0 b1
    have R1 := R0.next b1
    have r1 := R1.cell
    have r1f := R1.frozen
    go_wp2_with fail
    refine bodyPost_ret (v := .tuple #[.agg #[.string ⟨#[]⟩, .string ⟨#[]⟩, .int .i64 0], .bool false]) (by simp [results, Tryz.results190, go_sem, r1]) rfl ?_
    rw [HR.out]
    exact ⟨rfl, jdj K1 (Nat.le_succ _) _ _ _⟩
  · have HR := Lib.hid (show jr2 l = (⟨l.durable ++ l.pending, ⟨#[]⟩, l.count⟩, true) by simp [jr2, hv])
    have HV := Lib.hid hv
    clear hv
    go_enter Tryz.func190, Tryz.ntmps190
    go_wp2_with fail
    refine (jed l _ hs).mono ?_
    rintro e w1 ⟨rfl, b1⟩
    rw [HV.out]
    have K1 := jaa K0 b1
    have B1 := B0.next b1
    have c1 := B1.cell
    have R1 := R0.next b1
    have r1 := R1.cell
    have r1f := R1.frozen
    go_wp2_with fail
    refine bodyPost_ret (v := .tuple #[.agg #[.string (l.durable ++ l.pending), .string ⟨#[]⟩, l.count], .bool true]) (by simp [results, Tryz.results190, go_sem, r1]) rfl ?_
    rw [HR.out]
    exact ⟨rfl, jdj K1 (Nat.le_succ _) _ _ _⟩
end Go.Proofs.YtflpcdffmpfdpaaGreatDoor
