/- Small helpers of the laws. -/
import Derived.Test.YtbcblmbpjecilaaDoorOwn
namespace Go.Proofs.YtbcblmbpjecilaaDoor
open Go.RowKit

theorem rBig_any (A : Option Addr) (n c : Nat) (w : World) (hn : n ≤ 9223372036854775807) : Calls Tryd.prog 19 #[.slice A n c] w fun e w' => e = .returned (.bool (decide (65536 < n))) ∧ w = w' := by
  go_enter Tryd.func19, Tryd.ntmps19
  go_wp2_with fail
  go_ret
  exact ⟨ret_bool (by simp; omega), rfl⟩
end Go.Proofs.YtbcblmbpjecilaaDoor
