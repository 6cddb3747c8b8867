/- The law's own helpers over lines: printed by flats.py. -/
import Derived.Test.YtbcblmbpjecilaaGreatDoorText
namespace Go.Proofs.YtbcblmbpjecilaaGreatDoor
open Go.RowKit

structure ReportLine where
  name : ByteArray
  club : ByteArray
  status : Int
  time : Int
deriving DecidableEq
def ReportLine.enc (x : ReportLine) : List Value := [.string x.name, .string x.club, .int .i64 x.status, .int .i64 x.time]
/-- its strings are no longer than m -/
def ReportLine.upto (m : Nat) (x : ReportLine) : Prop := x.name.size ≤ m ∧ x.club.size ≤ m
theorem ReportLine.upto_mono {m n : Nat} {x : ReportLine} (h : x.upto m) (hm : m ≤ n) : x.upto n := by unfold ReportLine.upto at *; omega
theorem info_impl_ReportLine : (Tryz.prog.info? 41).map (fun i => (i.zero, i.size, i.bytes)) = some (some (.agg #[.string ⟨#[]⟩, .string ⟨#[]⟩, .int .i64 0, .int .i64 0]), 4, 48) := by kernel_rfl
def ReportLine.mark (k : Int) : ReportLine := ⟨markT (k), markT (k + 1), k + 1 + 1, k + 1 + 1 + 1⟩

end Go.Proofs.YtbcblmbpjecilaaGreatDoor
