/- Joined texts of this proof: Help1, LogT, LogL, SyncL, Nest, CardT, EntT. -/
import Derived.Test.YtflpcdffmpfdpaaGreatDoorChecked
import Derived.Test.YtflpcdffmpfdpaaGreatDoorB01
import Derived.Test.YtflpcdffmpfdpaaGreatDoorB02
import Derived.Test.YtflpcdffmpfdpaaGreatDoorB20
import Derived.Test.YtflpcdffmpfdpaaGreatDoorB11
set_option maxRecDepth 100000
set_option maxHeartbeats 8000000
namespace Go.Proofs.YtflpcdffmpfdpaaGreatDoor
open Go.RowKit
def marks (k : Int) (n : Nat) : List Int := (List.range n).map fun i : Nat => k + (i : Int)
theorem LogRecord.upto_mono {m n : Nat} {x : LogRecord} (h : x.upto m) (hm : m ≤ n) : x.upto n := by unfold LogRecord.upto at *; omega
theorem Log.upto_mono {m n : Nat} {x : Log} (h : x.upto m) (hm : m ≤ n) : x.upto n := by unfold Log.upto at *; omega
def jsd (l : Log) : Log × Bool := if ja9 l then (⟨l.durable ++ l.pending, ⟨#[]⟩, l.count⟩, true) else (⟨⟨#[]⟩, ⟨#[]⟩, 0⟩, false)
def jts (w : World) (R : Log × Bool) (e : Ending) (w' : World) : Prop := e = .returned (.tuple #[.agg #[.string R.1.durable, .string R.1.pending, .int .i64 R.1.count], .bool R.2]) ∧ Below w.heap.size w w'
theorem jrj (l : Log) (w : World) (hs : l.upto 1048576) :
    Calls Tryz.prog 190 #[.agg #[l.durable, l.pending, l.count]] w (jts w (jsd l)) := by
  have ⟨h1, h2⟩ := hs
  have zs : (l.durable ++ l.pending).size = l.durable.size + l.pending.size := ByteArray.size_append
  have fs : ¬ 9223372036854775807 < l.durable.size + l.pending.size := by omega
  have K0 := nB2 w (.cells #[l.durable, l.pending, l.count] 33) (.cells #[.string ⟨#[]⟩, .string ⟨#[]⟩, .int .i64 0] 33)
  have B0 := nPa w [l.durable, l.pending, l.count] 33 (.cells #[.string ⟨#[]⟩, .string ⟨#[]⟩, .int .i64 0] 33)
  have R0 := nQ w (.cells #[l.durable, l.pending, l.count] 33) [.string ⟨#[]⟩, .string ⟨#[]⟩, .int .i64 0] 33
  cases hv : ja9 l
  · have HR := Lib.hid (show jsd l = (⟨⟨#[]⟩, ⟨#[]⟩, 0⟩, false) by simp [jsd, hv])
    have HV := Lib.hid hv
    clear hv
    go_enter Tryz.func190, Tryz.ntmps190
    go_wp2_with fail
    refine (jed l _ hs).mono ?_
    rintro e w1 ⟨rfl, b1⟩
    rw [HV.out]
    have K1 := jaa K0 b1
    have R1 := R0.next b1
    have r1 := R1.cell
    have r1f := R1.frozen
    go_wp2_with fail
    refine bodyPost_ret (v := .tuple #[.agg #[.string ⟨#[]⟩, .string ⟨#[]⟩, .int .i64 0], .bool false]) (by simp [results, Tryz.results190, go_sem, r1]) rfl ?_
    rw [HR.out]
    exact ⟨rfl, jdj K1 (Nat.le_succ _) _ _ _⟩
  · have HR := Lib.hid (show jsd l = (⟨l.durable ++ l.pending, ⟨#[]⟩, l.count⟩, true) by simp [jsd, hv])
    have HV := Lib.hid hv
    clear hv
    go_enter Tryz.func190, Tryz.ntmps190
    go_wp2_with fail
    refine (jed l _ hs).mono ?_
    rintro e w1 ⟨rfl, b1⟩
    rw [HV.out]
    have K1 := jaa K0 b1
    have B1 := B0.next b1
    have c1 := B1.cell
    have R1 := R0.next b1
    have r1 := R1.cell
    have r1f := R1.frozen
    go_wp2_with fail
    refine bodyPost_ret (v := .tuple #[.agg #[.string (l.durable ++ l.pending), .string ⟨#[]⟩, l.count], .bool true]) (by simp [results, Tryz.results190, go_sem, r1]) rfl ?_
    rw [HR.out]
    exact ⟨rfl, jdj K1 (Nat.le_succ _) _ _ _⟩
section
variable {α : Type} {sh : Sh α} {w w' : World} {lo s n c t ti : Nat} {A : Option Addr} {xs : List α} {S T : Nat → Prop}
end
def wtN {α : Type} (wt : α → Nat) : List α → Nat
  | [] => 0
  | x :: l => wt x + wtN wt l
section
variable {α : Type} {sh : Sh α} {w w' : World} {lo s n c t ti : Nat} {A : Option Addr} {xs : List α} {S T : Nat → Prop} {rs : List (Hd α)}
end
def Card.wt (x : Card) : Nat := x.punches.length * 2 + 3
def Entrant.wt (x : Entrant) : Nat := x.punches.length * 2 + 4
end Go.Proofs.YtflpcdffmpfdpaaGreatDoor
