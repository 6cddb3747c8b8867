/- The law's own helpers over LogRecord: printed by flats.py. -/
import Derived.Test.YtjangfhelagjnaaDoorText
namespace Go.Proofs.YtjangfhelagjnaaDoor
open Go.RowKit

structure LogRecord where
  command : ByteArray
  reply : ByteArray
deriving DecidableEq
def LogRecord.enc (x : LogRecord) : List Value := [.string x.command, .string x.reply]
/-- its strings are no longer than m -/
def LogRecord.upto (m : Nat) (x : LogRecord) : Prop := x.command.size ≤ m ∧ x.reply.size ≤ m
theorem LogRecord.upto_mono {m n : Nat} {x : LogRecord} (h : x.upto m) (hm : m ≤ n) : x.upto n := by unfold LogRecord.upto at *; omega
theorem info_impl_LogRecord : (Tryd.prog.info? 27).map (fun i => (i.zero, i.size, i.bytes)) = some (some (.agg #[.string ⟨#[]⟩, .string ⟨#[]⟩]), 2, 32) := by kernel_rfl
def LogRecord.mark (k : Int) : LogRecord := ⟨markT (k), markT (k + 1)⟩

theorem toLogRecord_any (a0 : ByteArray) (a1 : ByteArray) (w : World) : Calls Tryd.prog 15 #[.agg #[.string a0, .string a1]] w fun e w' => e = .returned (.agg #[.string a0, .string a1]) ∧ Below w.heap.size w w' := by
  go_enter Tryd.func15, Tryd.ntmps15
  go_wp2
  exact bodyPost_ret (v := .agg #[.string a0, .string a1]) (by simp [results, Tryd.results15, go_sem]) rfl ⟨rfl, (((Below.refl _ _).alloc (Nat.le_refl _) _).alloc (by simp) _).alloc (by simp; omega) _⟩

theorem szLogRecord_any (x : LogRecord) (left : Int) (w : World) (hx : x.upto 9223372036854775807) (hl : 0 ≤ left) (hl' : left ≤ 1048576) :
    Calls Tryd.prog 13 #[.agg #[.string x.command, .string x.reply], .int .i64 left] w fun e w' => ∃ l : Int, e = .returned (.int .i64 l) ∧ Below w.heap.size w w' ∧ (l = -1 ∨ 0 ≤ l ∧ l ≤ left ∧ x.upto 1048576) := by
  unfold LogRecord.upto at *
  go_enter Tryd.func13, Tryd.ntmps13
  go_wp2
  all_goals go_ret
  all_goals refine ⟨_, rfl, (Below.refl _ _).alloc (Nat.le_refl _) _, ?_⟩
  all_goals first | exact .inl rfl | (right; omega) | (right; simp only; omega)

end Go.Proofs.YtjangfhelagjnaaDoor
