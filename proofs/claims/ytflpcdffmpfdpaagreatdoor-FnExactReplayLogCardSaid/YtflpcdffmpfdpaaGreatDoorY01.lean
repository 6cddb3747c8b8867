/- Joined texts of this proof: Help1, Nest, CardT, EntT, LogL. -/
import Derived.Test.YtflpcdffmpfdpaaGreatDoorChecked
import Derived.Test.YtflpcdffmpfdpaaGreatDoorB01
import Derived.Test.YtflpcdffmpfdpaaGreatDoorB02
set_option maxRecDepth 100000
set_option maxHeartbeats 8000000
namespace Go.Proofs.YtflpcdffmpfdpaaGreatDoor
open Go.RowKit
def marks (k : Int) (n : Nat) : List Int := (List.range n).map fun i : Nat => k + (i : Int)
section
variable {α : Type} {sh : Sh α} {w w' : World} {lo s n c t ti : Nat} {A : Option Addr} {xs : List α} {S T : Nat → Prop}
end
def wtN {α : Type} (wt : α → Nat) : List α → Nat
  | [] => 0
  | x :: l => wt x + wtN wt l
section
variable {α : Type} {sh : Sh α} {w w' : World} {lo s n c t ti : Nat} {A : Option Addr} {xs : List α} {S T : Nat → Prop} {rs : List (Hd α)}
end
def Card.wt (x : Card) : Nat := x.punches.length * 2 + 3
def Entrant.wt (x : Entrant) : Nat := x.punches.length * 2 + 4
theorem jrt (a0 : ByteArray) (a1 : ByteArray) (a2 : Int) (w : World) : Calls Tryz.prog 33 #[.agg #[a0, a1, a2]] w fun e w' => e = .returned (.agg #[a0, a1, a2]) ∧ Below w.heap.size w w' := by
  go_enter Tryz.func33, Tryz.ntmps33
  go_wp2
  exact bodyPost_ret (v := .agg #[a0, a1, a2]) (by simp [results, Tryz.results33, go_sem]) rfl ⟨rfl, (((Below.refl _ _).alloc (Nat.le_refl _) _).alloc (by simp) _).alloc (by simp; omega) _⟩
theorem jr6 (x : Log) (left : Int) (w : World) (hx : x.upto 9223372036854775807) (hl : 0 ≤ left) (hl' : left ≤ 1048576) :
    Calls Tryz.prog 32 #[.agg #[x.durable, x.pending, x.count], .int .i64 left] w fun e w' => ∃ l : Int, e = .returned (.int .i64 l) ∧ Below w.heap.size w w' ∧ (l = -1 ∨ 0 ≤ l ∧ l ≤ left ∧ x.upto 1048576) := by
  unfold Log.upto at *
  go_enter Tryz.func32, Tryz.ntmps32
  go_wp2
  all_goals go_ret
  all_goals refine ⟨_, rfl, (Below.refl _ _).alloc (Nat.le_refl _) _, ?_⟩
  all_goals first | exact .inl rfl | (right; omega) | (right; simp only; omega)
end Go.Proofs.YtflpcdffmpfdpaaGreatDoor
