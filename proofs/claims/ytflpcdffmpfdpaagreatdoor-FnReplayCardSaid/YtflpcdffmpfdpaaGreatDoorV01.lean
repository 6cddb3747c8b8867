/- Joined texts of this proof: Help1, LogT, Enc, Read, LogL, Recov, SyncL, Nest, CardT, EntT. -/
import Derived.Test.YtflpcdffmpfdpaaGreatDoorChecked
import Derived.Test.YtflpcdffmpfdpaaGreatDoorB01
import Derived.Test.YtflpcdffmpfdpaaGreatDoorB02
import Derived.Test.YtflpcdffmpfdpaaGreatDoorB12
import Derived.Test.YtflpcdffmpfdpaaGreatDoorB18
import Derived.Test.YtflpcdffmpfdpaaGreatDoorB13
import Derived.Test.YtflpcdffmpfdpaaGreatDoorB19
import Derived.Test.YtflpcdffmpfdpaaGreatDoorB20
import Derived.Test.YtflpcdffmpfdpaaGreatDoorB11
set_option maxRecDepth 100000
set_option maxHeartbeats 8000000
namespace Go.Proofs.YtflpcdffmpfdpaaGreatDoor
open Go.RowKit
def marks (k : Int) (n : Nat) : List Int := (List.range n).map fun i : Nat => k + (i : Int)
theorem LogRecord.upto_mono {m n : Nat} {x : LogRecord} (h : x.upto m) (hm : m ≤ n) : x.upto n := by unfold LogRecord.upto at *; omega
def ju1 (w : World) (R : ByteArray × Bool) (e : Ending) (w' : World) : Prop := e = .returned (.tuple #[.string R.1, .bool R.2]) ∧ Below w.heap.size w w'
theorem okR_of {k : Nat} {e : LogRecord} {line : ByteArray} (h : jgb e = true) (hl : jck k e = line ++ ⟨#[10]⟩) : okR k line = some e := by
  have h1 := (jju h hl).1
  unfold okR
  rw [h1, if_pos ⟨h, hl⟩]
theorem Log.upto_mono {m n : Nat} {x : Log} (h : x.upto m) (hm : m ≤ n) : x.upto n := by unfold Log.upto at *; omega
def jr1 (s : ByteArray) : Log × Int × Bool :=
  if s.size ≤ 30000 then (⟨s.extract 0 (allR s).at_, ⟨#[]⟩, ((allR s).l.length : Int)⟩, ((allR s).at_ : Int), true) else (⟨⟨#[]⟩, ⟨#[]⟩, 0⟩, 0, false)
def jsr (w : World) (R : Log × Int × Bool) (e : Ending) (w' : World) : Prop := e = .returned (.tuple #[.agg #[.string R.1.durable, .string R.1.pending, .int .i64 R.1.count], .int .i64 R.2.1, .bool R.2.2]) ∧ Below w.heap.size w w'
theorem jsl (s : ByteArray) (w : World) (hs : s.size ≤ 9223372036854775807) (hg : Gl w) :
    Calls Tryz.prog 31 #[.string s] w (jsr w (jr1 s)) := by
  have K0 := nB w (.cells #[.string ⟨#[]⟩, .string ⟨#[]⟩, .int .i64 0] 33)
  have B0 := nP w [.string ⟨#[]⟩, .string ⟨#[]⟩, .int .i64 0] 33
  by_cases h3 : s.size ≤ 30000
  · have HR := Lib.hid (show jr1 s = (⟨s.extract 0 (allR s).at_, ⟨#[]⟩, ((allR s).l.length : Int)⟩, ((allR s).at_ : Int), true) from if_pos h3)
    have hat := (jkd s).at_
    have hln := (jkd s).len
    go_enter Tryz.func31, Tryz.ntmps31
    go_wp2_with fail
    refine (jhz s _ (by omega) (hg.next K0)).mono ?_
    rintro e w1 ⟨A, B, c, d, rfl, hA, hB, b1⟩
    have K1 := jaa K0 b1
    have B1 := B0.next b1
    have b1c := B1.cell
    have b1f := B1.frozen
    have hs2 : Sees w1 0 1 B ((allR s).l.length + 1) (jqn (allR s).ends) := .of_own (jax hB (Nat.zero_le _))
    obtain ⟨gb, off, rfl, h1, _, h2⟩ := hs2.at' (by omega)
    have x1 := h2 (allR s).l.length _ (jor (jkd s).last)
    generalize allR s = x at *
    go_wp2_with fail
    refine bodyPost_ret (v := .tuple #[.agg #[.string (s.extract 0 x.at_), .string ⟨#[]⟩, (x.l.length : Int)], .int .i64 (x.at_ : Int), .bool true]) (by simp [results, Tryz.results31, go_sem, b1c]) rfl ?_
    rw [HR.out]
    exact ⟨rfl, ((K1.setCell (p := ⟨w.heap.size, 0, none⟩) (Nat.le_refl _) _).setCell (p := ⟨w.heap.size, 1, none⟩) (Nat.le_refl _) _).setCell (p := ⟨w.heap.size, 2, none⟩) (Nat.le_refl _) _⟩
  · have HR := Lib.hid (show jr1 s = (⟨⟨#[]⟩, ⟨#[]⟩, 0⟩, 0, false) from if_neg h3)
    go_enter Tryz.func31, Tryz.ntmps31
    go_wp2_with fail
    refine bodyPost_ret (v := .tuple #[.agg #[.string ⟨#[]⟩, .string ⟨#[]⟩, .int .i64 0], .int .i64 0, .bool false]) (by simp [results, Tryz.results31, go_sem, B0.cell]) rfl ?_
    rw [HR.out]
    exact ⟨rfl, K0⟩
def js4 (l : Log) : Log × Bool := if ja9 l then (⟨l.durable ++ l.pending, ⟨#[]⟩, l.count⟩, true) else (⟨⟨#[]⟩, ⟨#[]⟩, 0⟩, false)
def jvw (w : World) (R : Log × Bool) (e : Ending) (w' : World) : Prop := e = .returned (.tuple #[.agg #[.string R.1.durable, .string R.1.pending, .int .i64 R.1.count], .bool R.2]) ∧ Below w.heap.size w w'
theorem jrq (l : Log) (w : World) (hs : l.upto 1048576) :
    Calls Tryz.prog 190 #[.agg #[l.durable, l.pending, l.count]] w (jvw w (js4 l)) := by
  have ⟨h1, h2⟩ := hs
  have zs : (l.durable ++ l.pending).size = l.durable.size + l.pending.size := ByteArray.size_append
  have fs : ¬ 9223372036854775807 < l.durable.size + l.pending.size := by omega
  have K0 := nB2 w (.cells #[l.durable, l.pending, l.count] 33) (.cells #[.string ⟨#[]⟩, .string ⟨#[]⟩, .int .i64 0] 33)
  have B0 := nPa w [l.durable, l.pending, l.count] 33 (.cells #[.string ⟨#[]⟩, .string ⟨#[]⟩, .int .i64 0] 33)
  have R0 := nQ w (.cells #[l.durable, l.pending, l.count] 33) [.string ⟨#[]⟩, .string ⟨#[]⟩, .int .i64 0] 33
  cases hv : ja9 l
  · have HR := Lib.hid (show js4 l = (⟨⟨#[]⟩, ⟨#[]⟩, 0⟩, false) by simp [js4, hv])
    have HV := Lib.hid hv
    clear hv
    go_enter Tryz.func190, Tryz.ntmps190
    go_wp2_with fail
    refine (jed l _ hs).mono ?_
    rintro e w1 ⟨rfl, b1⟩
    rw [HV.out]
    have K1 := jaa K0 b1
    have R1 := R0.next b1
    have r1 := R1.cell
    have r1f := R1.frozen
    go_wp2_with fail
    refine bodyPost_ret (v := .tuple #[.agg #[.string ⟨#[]⟩, .string ⟨#[]⟩, .int .i64 0], .bool false]) (by simp [results, Tryz.results190, go_sem, r1]) rfl ?_
    rw [HR.out]
    exact ⟨rfl, jdj K1 (Nat.le_succ _) _ _ _⟩
  · have HR := Lib.hid (show js4 l = (⟨l.durable ++ l.pending, ⟨#[]⟩, l.count⟩, true) by simp [js4, hv])
    have HV := Lib.hid hv
    clear hv
    go_enter Tryz.func190, Tryz.ntmps190
    go_wp2_with fail
    refine (jed l _ hs).mono ?_
    rintro e w1 ⟨rfl, b1⟩
    rw [HV.out]
    have K1 := jaa K0 b1
    have B1 := B0.next b1
    have c1 := B1.cell
    have R1 := R0.next b1
    have r1 := R1.cell
    have r1f := R1.frozen
    go_wp2_with fail
    refine bodyPost_ret (v := .tuple #[.agg #[.string (l.durable ++ l.pending), .string ⟨#[]⟩, l.count], .bool true]) (by simp [results, Tryz.results190, go_sem, r1]) rfl ?_
    rw [HR.out]
    exact ⟨rfl, jdj K1 (Nat.le_succ _) _ _ _⟩
section
variable {α : Type} {sh : Sh α} {w w' : World} {lo s n c t ti : Nat} {A : Option Addr} {xs : List α} {S T : Nat → Prop}
end
def wtN {α : Type} (wt : α → Nat) : List α → Nat
  | [] => 0
  | x :: l => wt x + wtN wt l
section
variable {α : Type} {sh : Sh α} {w w' : World} {lo s n c t ti : Nat} {A : Option Addr} {xs : List α} {S T : Nat → Prop} {rs : List (Hd α)}
end
def Card.wt (x : Card) : Nat := x.punches.length * 2 + 3
def Entrant.wt (x : Entrant) : Nat := x.punches.length * 2 + 4
end Go.Proofs.YtflpcdffmpfdpaaGreatDoor
