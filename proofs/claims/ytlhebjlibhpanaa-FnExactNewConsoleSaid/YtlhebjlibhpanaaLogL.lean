/- The law's own helpers over Log: printed by flats.py. -/
import Derived.Test.YtlhebjlibhpanaaText
namespace Go.Proofs.Ytlhebjlibhpanaa
open Go.RowKit

structure Log where
  durable : ByteArray
  pending : ByteArray
  count : Int
deriving DecidableEq
def Log.enc (x : Log) : List Value := [.string x.durable, .string x.pending, .int .i64 x.count]
/-- its strings are no longer than m -/
def Log.upto (m : Nat) (x : Log) : Prop := x.durable.size ≤ m ∧ x.pending.size ≤ m
theorem Log.upto_mono {m n : Nat} {x : Log} (h : x.upto m) (hm : m ≤ n) : x.upto n := by unfold Log.upto at *; omega
theorem info_impl_Log : (Try.prog.info? 26).map (fun i => (i.zero, i.size, i.bytes)) = some (some (.agg #[.string ⟨#[]⟩, .string ⟨#[]⟩, .int .i64 0]), 3, 40) := by kernel_rfl
def Log.mark (k : Int) : Log := ⟨markT (k), markT (k + 1), k + 1 + 1⟩

theorem eqLog_any (a0 : ByteArray) (a1 : ByteArray) (a2 : Int) (w : World) : Calls Try.prog 12 #[.agg #[.string a0, .string a1, .int .i64 a2], .agg #[.string a0, .string a1, .int .i64 a2]] w fun e w' => e = .returned (.bool true) ∧ Below w.heap.size w w' := by
  go_enter Try.func12, Try.ntmps12
  go_wp2
  go_ret
  exact ⟨rfl, ((Below.refl _ _).alloc (Nat.le_refl _) _).alloc (by simp) _⟩

end Go.Proofs.Ytlhebjlibhpanaa
