/- The laws' bound on a code. -/
import Derived.Test.YtjangfhelagjnaaDoorS0
namespace Go.Proofs.YtjangfhelagjnaaDoor
open Go.RowKit

theorem vBig_any (A : Option Addr) (m c : Nat) (w : World) (hm : m ≤ 9223372036854775807) : Calls Tryd.prog 35 #[.slice A m c] w fun e w' => e = .returned (.bool (decide (65536 < m))) ∧ w = w' := by
  by_cases h : 65536 < m
  · have h' : (65536 : Int) < (m : Int) := by omega
    have hd := Lib.hid (decide_eq_true h)
    go_enter Tryd.func35, Tryd.ntmps35
    go_wp2_with fail
    go_ret
    exact ⟨ret_bool (a := true) hd.out.symm, rfl⟩
  · have h' : ¬ (65536 : Int) < (m : Int) := by omega
    go_enter Tryd.func35, Tryd.ntmps35
    go_wp2_with fail
    go_ret
    exact ⟨rfl, rfl⟩

end Go.Proofs.YtjangfhelagjnaaDoor
