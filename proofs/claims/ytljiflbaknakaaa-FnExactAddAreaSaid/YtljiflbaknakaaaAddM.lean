/- The law's mark of one area. -/
import Derived.Test.YtljiflbaknakaaaAreaM
import Derived.Test.YtljiflbaknakaaaAddS
namespace Go.Proofs.Ytljiflbaknakaaa
open Go.RowKit

theorem markArea_any (S : Nat → Prop) (A : Option Addr) (n c : Nat) (x : Area) (k0 : Int) (w : World) (h : Mine w S 3 1 A n c (ints x.cells)) (h0 : 0 ≤ k0) (h1 : k0 ≤ 1000000000) (hn : n ≤ 1048576) :
    Calls Try.prog 49 #[.agg #[.int .i64 x.id, .slice A n c, .int .i64 x.first, .int .i64 x.last], .int .i64 k0] w fun e w' => e = .returned (.int .i64 (k0 + n)) ∧ Mine w' S 3 1 A n c (ints (marks k0 n)) ∧ Only S w w' := by
  go_enter Try.func49, Try.ntmps49
  go_wp2_with fail
  have K0 : Below w.heap.size w (w.alloc (.cells #[.int .i64 x.id, .slice A n c, .int .i64 x.first, .int .i64 x.last] 62)) := (Below.refl _ _).alloc (Nat.le_refl _) _
  refine (markIntS_any _ _ _ _ _ _ _ _ (h.next K0) h0 (by omega) (by omega)).mono ?_
  rintro e w1 ⟨rfl, M1, q1⟩
  go_wp2_with fail
  go_ret
  exact ⟨rfl, M1, (Only.of_below K0).trans q1⟩

end Go.Proofs.Ytljiflbaknakaaa
