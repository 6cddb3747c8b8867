/- The law's own helpers over races and consoles. -/
import Derived.Test.YtlhebjlibhpanaaDoorEntM
import Derived.Test.YtlhebjlibhpanaaDoorLogL
namespace Go.Proofs.YtlhebjlibhpanaaDoor
open Go.RowKit


theorem eqRace_any (t : Int) (b : Bool) (A B : Option Addr) (n n' c c' lo lo' : Nat) (xs ys : List Entrant) (w : World) (hx : SeesN entrantSh w lo A n xs) (hy : SeesN entrantSh w lo' B n' ys) (he : xs = ys) (hn : n ≤ 1048576) (hi : ∀ x ∈ xs, x.cnt ≤ 1048576) :
    Calls Tryd.prog 19 #[.agg #[.int .i64 t, .bool b, .slice A n c], .agg #[.int .i64 t, .bool b, .slice B n' c']] w fun e w' => e = .returned (.bool true) ∧ Below w.heap.size w w' := by
  have e1 : (t != t) = false := bne_self_eq_false t
  have e2 : (b != b) = false := bne_self_eq_false b
  go_enter Tryd.func19, Tryd.ntmps19
  go_wp2_with fail
  have K0 : Below w.heap.size w _ := ((Below.refl w.heap.size w).alloc (Nat.le_refl _) (.cells #[.int .i64 t, .bool b, .slice A n c] 33)).alloc (by simp) (.cells #[.int .i64 t, .bool b, .slice B n' c'] 33)
  refine (eqEntrantS_any _ _ _ _ c c' _ _ xs ys _ (hx.next K0) (hy.next K0) he (by omega) hi).mono ?_
  rintro e w1 ⟨rfl, b1⟩
  go_wp2_with fail
  go_ret
  exact ⟨rfl, bel_then K0 b1⟩

theorem eqConsole_any (t : Int) (b : Bool) (l : Log) (A B : Option Addr) (n n' c c' lo lo' : Nat) (xs ys : List Entrant) (w : World) (hx : SeesN entrantSh w lo A n xs) (hy : SeesN entrantSh w lo' B n' ys) (he : xs = ys) (hn : n ≤ 1048576) (hi : ∀ x ∈ xs, x.cnt ≤ 1048576) :
    Calls Tryd.prog 9 #[.agg #[.int .i64 t, .bool b, .slice A n c, .string l.durable, .string l.pending, .int .i64 l.count], .agg #[.int .i64 t, .bool b, .slice B n' c', .string l.durable, .string l.pending, .int .i64 l.count]] w fun e w' => e = .returned (.bool true) ∧ Below w.heap.size w w' := by
  have e1 : (t != t) = false := bne_self_eq_false t
  have e2 : (b != b) = false := bne_self_eq_false b
  go_enter Tryd.func9, Tryd.ntmps9
  go_wp2_with fail
  have K0 : Below w.heap.size w _ := ((Below.refl w.heap.size w).alloc (Nat.le_refl _) (.cells #[.int .i64 t, .bool b, .slice A n c, .string l.durable, .string l.pending, .int .i64 l.count] 36)).alloc (by simp) (.cells #[.int .i64 t, .bool b, .slice B n' c', .string l.durable, .string l.pending, .int .i64 l.count] 36)
  refine (eqRace_any t b A B n n' c c' _ _ xs ys _ (hx.next K0) (hy.next K0) he hn hi).mono ?_
  rintro e w1 ⟨rfl, b1⟩
  have K1 := bel_then K0 b1
  have P1 : Blk w1 w.heap.size 36 [.int .i64 t, .bool b, .slice A n c, .string l.durable, .string l.pending, .int .i64 l.count] := ((Blk.at_ rfl).alloc _).next b1
  have P2 : Blk w1 (w.heap.size + 1) 36 [.int .i64 t, .bool b, .slice B n' c', .string l.durable, .string l.pending, .int .i64 l.count] := (Blk.at_ (by simp)).next b1
  have p1 := P1.cell
  have p2 := P2.cell
  go_wp2_with fail
  refine (eqLog_any l.durable l.pending l.count _).mono ?_
  rintro e w2 ⟨rfl, b2⟩
  go_wp2_with fail
  go_ret
  exact ⟨rfl, bel_then K1 b2⟩

end Go.Proofs.YtlhebjlibhpanaaDoor
