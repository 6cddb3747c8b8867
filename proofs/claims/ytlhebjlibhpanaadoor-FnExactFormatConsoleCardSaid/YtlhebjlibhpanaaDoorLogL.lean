/- The law's own helpers over Log: printed by flats.py. -/
import Derived.Test.YtlhebjlibhpanaaDoorText
namespace Go.Proofs.YtlhebjlibhpanaaDoor
open Go.RowKit

structure Log where
  durable : ByteArray
  pending : ByteArray
  count : Int
deriving DecidableEq
def Log.enc (x : Log) : List Value := [.string x.durable, .string x.pending, .int .i64 x.count]
/-- its strings are no longer than m -/
def Log.upto (m : Nat) (x : Log) : Prop := x.durable.size ≤ m ∧ x.pending.size ≤ m
theorem Log.upto_mono {m n : Nat} {x : Log} (h : x.upto m) (hm : m ≤ n) : x.upto n := by unfold Log.upto at *; omega
theorem info_impl_Log : (Tryd.prog.info? 34).map (fun i => (i.zero, i.size, i.bytes)) = some (some (.agg #[.string ⟨#[]⟩, .string ⟨#[]⟩, .int .i64 0]), 3, 40) := by kernel_rfl
def Log.mark (k : Int) : Log := ⟨markT (k), markT (k + 1), k + 1 + 1⟩

theorem toLog_any (a0 : ByteArray) (a1 : ByteArray) (a2 : Int) (w : World) : Calls Tryd.prog 16 #[.agg #[.string a0, .string a1, .int .i64 a2]] w fun e w' => e = .returned (.agg #[.string a0, .string a1, .int .i64 a2]) ∧ Below w.heap.size w w' := by
  go_enter Tryd.func16, Tryd.ntmps16
  go_wp2
  exact bodyPost_ret (v := .agg #[.string a0, .string a1, .int .i64 a2]) (by simp [results, Tryd.results16, go_sem]) rfl ⟨rfl, (((Below.refl _ _).alloc (Nat.le_refl _) _).alloc (by simp) _).alloc (by simp; omega) _⟩

theorem eqLog_any (a0 : ByteArray) (a1 : ByteArray) (a2 : Int) (w : World) : Calls Tryd.prog 20 #[.agg #[.string a0, .string a1, .int .i64 a2], .agg #[.string a0, .string a1, .int .i64 a2]] w fun e w' => e = .returned (.bool true) ∧ Below w.heap.size w w' := by
  go_enter Tryd.func20, Tryd.ntmps20
  go_wp2
  go_ret
  exact ⟨rfl, ((Below.refl _ _).alloc (Nat.le_refl _) _).alloc (by simp) _⟩

theorem szLog_any (x : Log) (left : Int) (w : World) (hx : x.upto 9223372036854775807) (hl : 0 ≤ left) (hl' : left ≤ 1048576) :
    Calls Tryd.prog 13 #[.agg #[.string x.durable, .string x.pending, .int .i64 x.count], .int .i64 left] w fun e w' => ∃ l : Int, e = .returned (.int .i64 l) ∧ Below w.heap.size w w' ∧ (l = -1 ∨ 0 ≤ l ∧ l ≤ left ∧ x.upto 1048576) := by
  unfold Log.upto at *
  go_enter Tryd.func13, Tryd.ntmps13
  go_wp2
  all_goals go_ret
  all_goals refine ⟨_, rfl, (Below.refl _ _).alloc (Nat.le_refl _) _, ?_⟩
  all_goals first | exact .inl rfl | (right; omega) | (right; simp only; omega)

end Go.Proofs.YtlhebjlibhpanaaDoor
