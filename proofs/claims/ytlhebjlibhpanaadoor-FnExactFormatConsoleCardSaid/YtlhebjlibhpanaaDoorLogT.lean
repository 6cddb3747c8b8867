/- The law's own helpers over LogRecord: printed by flats.py. -/
import Derived.Test.YtlhebjlibhpanaaDoorText
namespace Go.Proofs.YtlhebjlibhpanaaDoor
open Go.RowKit

structure LogRecord where
  command : ByteArray
  reply : ByteArray
deriving DecidableEq
def LogRecord.enc (x : LogRecord) : List Value := [.string x.command, .string x.reply]
/-- its strings are no longer than m -/
def LogRecord.upto (m : Nat) (x : LogRecord) : Prop := x.command.size ≤ m ∧ x.reply.size ≤ m
theorem LogRecord.upto_mono {m n : Nat} {x : LogRecord} (h : x.upto m) (hm : m ≤ n) : x.upto n := by unfold LogRecord.upto at *; omega
theorem info_impl_LogRecord : (Tryd.prog.info? 83).map (fun i => (i.zero, i.size, i.bytes)) = some (some (.agg #[.string ⟨#[]⟩, .string ⟨#[]⟩]), 2, 32) := by kernel_rfl
def LogRecord.mark (k : Int) : LogRecord := ⟨markT (k), markT (k + 1)⟩

end Go.Proofs.YtlhebjlibhpanaaDoor
