/- The law's own helpers over []int and []Missing. -/
import Derived.Test.YtlhebjlibhpanaaDoorBase
import Derived.Test.YtlhebjlibhpanaaDoorChecked
namespace Go.Proofs.YtlhebjlibhpanaaDoor
open Go.RowKit

theorem info_int : (Tryd.prog.info? 3).map (fun i => (i.zero, i.size, i.bytes)) = some (some (.int .i64 0), 1, 8) := by kernel_rfl

/-- The numbers from k on, n of them. -/
def marks (k : Int) (n : Nat) : List Int := (List.range n).map fun i : Nat => k + (i : Int)
theorem marks_length (k : Int) (n : Nat) : (marks k n).length = n := by simp [marks]
theorem marks_get (k : Int) (n i : Nat) (h : i < (marks k n).length) : (marks k n)[i] = k + i := by simp [marks]

end Go.Proofs.YtlhebjlibhpanaaDoor
