/- IsValidConsole, as the program and as the reference have it. -/
import Derived.Test.YtlhebjlibhpanaaDoorRaceG
import Derived.Test.YtlhebjlibhpanaaDoorIsVal
namespace Go.Proofs.YtlhebjlibhpanaaDoor
open Go.RowKit


set_option maxRecDepth 100000 in
theorem IsValidConsole_any (t : Int) (b : Bool) (l : Log) (A : Option Addr) (n c : Nat) (xs : List Entrant) (w : World) (hx : SeesN entrantSh w 0 A n xs) (hn : n ≤ 1048576) (hi : ∀ x ∈ xs, x.cnt ≤ 1048576) (hs : l.upto 1048576) (hg : Gl w) :
    Calls Tryd.prog 8 #[.agg #[.int .i64 t, .bool b, .slice A n c, .string l.durable, .string l.pending, .int .i64 l.count]] w fun e w' => e = .returned (.bool (raceB t b xs && validL l)) ∧ Below w.heap.size w w' := by
  go_enter Tryd.func8, Tryd.ntmps8
  go_wp2_with fail
  have K0 : Below w.heap.size w (w.alloc (.cells #[.int .i64 t, .bool b, .slice A n c, .string l.durable, .string l.pending, .int .i64 l.count] 36)) := (Below.refl w.heap.size w).alloc (Nat.le_refl _) _
  have B0 : Blk (w.alloc (.cells #[.int .i64 t, .bool b, .slice A n c, .string l.durable, .string l.pending, .int .i64 l.count] 36)) w.heap.size 36 [.int .i64 t, .bool b, .slice A n c, .string l.durable, .string l.pending, .int .i64 l.count] := Blk.at_ rfl
  refine (IsRace_any t b A n c _ xs _ (hx.next K0) hn hi).mono ?_
  cases hr : raceB t b xs
  · have HR := Lib.hid hr
    clear hr
    rintro e w1 ⟨rfl, b1⟩
    go_wp2_with fail
    go_ret
    exact ⟨ret_bool (by rw [HR.out]; rfl), bel_then K0 b1⟩
  · have HR := Lib.hid hr
    clear hr
    rintro e w1 ⟨rfl, b1⟩
    have K1 := bel_then K0 b1
    replace B0 := B0.next b1
    have cm := B0.cell
    go_wp2_with fail
    refine (IsValidLog_any l w1 hs ((hg.next K0).next b1)).mono ?_
    rintro e w2 ⟨rfl, b2⟩
    go_wp2_with fail
    go_ret
    exact ⟨ret_bool (by rw [HR.out]; exact (Bool.true_and _).symm), bel_then K1 b2⟩

set_option maxRecDepth 100000 in
theorem l28Good_any (t : Int) (b : Bool) (l : Log) (A : Option Addr) (n c : Nat) (xs : List Entrant) (w : World) (hx : SeesN entrantSh w 0 A n xs) (hn : n ≤ 1048576) (hi : ∀ x ∈ xs, x.cnt ≤ 1048576) (hs : l.upto 1048576) :
    Calls Tryd.prog 14 #[.agg #[.int .i64 t, .bool b, .slice A n c, .string l.durable, .string l.pending, .int .i64 l.count]] w fun e w' => e = .returned (.bool (raceB t b xs && validL l)) ∧ Below w.heap.size w w' := by
  go_enter Tryd.func14, Tryd.ntmps14
  go_wp2_with fail
  have K0 : Below w.heap.size w (w.alloc (.cells #[.int .i64 t, .bool b, .slice A n c, .string l.durable, .string l.pending, .int .i64 l.count] 36)) := (Below.refl w.heap.size w).alloc (Nat.le_refl _) _
  have B0 : Blk (w.alloc (.cells #[.int .i64 t, .bool b, .slice A n c, .string l.durable, .string l.pending, .int .i64 l.count] 36)) w.heap.size 36 [.int .i64 t, .bool b, .slice A n c, .string l.durable, .string l.pending, .int .i64 l.count] := Blk.at_ rfl
  refine (l21Good_any t b A n c _ xs _ (hx.next K0) hn hi).mono ?_
  cases hr : raceB t b xs
  · have HR := Lib.hid hr
    clear hr
    rintro e w1 ⟨rfl, b1⟩
    go_wp2_with fail
    go_ret
    exact ⟨ret_bool (by rw [HR.out]; rfl), bel_then K0 b1⟩
  · have HR := Lib.hid hr
    clear hr
    rintro e w1 ⟨rfl, b1⟩
    have K1 := bel_then K0 b1
    replace B0 := B0.next b1
    have cm := B0.cell
    go_wp2_with fail
    refine (l27Log_any l w1 hs).mono ?_
    rintro e w2 ⟨rfl, b2⟩
    go_wp2_with fail
    go_ret
    exact ⟨ret_bool (by rw [HR.out]; exact (Bool.true_and _).symm), bel_then K1 b2⟩

theorem specIsValidConsole_any (t : Int) (b : Bool) (l : Log) (A : Option Addr) (n c : Nat) (xs : List Entrant) (w : World) (hx : SeesN entrantSh w 0 A n xs) (hn : n ≤ 1048576) (hi : ∀ x ∈ xs, x.cnt ≤ 1048576) (hs : l.upto 1048576) :
    Calls Tryd.prog 6 #[.agg #[.int .i64 t, .bool b, .slice A n c, .string l.durable, .string l.pending, .int .i64 l.count]] w fun e w' => e = .returned (.bool (raceB t b xs && validL l)) ∧ Below w.heap.size w w' := by
  go_enter Tryd.func6, Tryd.ntmps6
  go_wp2_with fail
  have K0 : Below w.heap.size w (w.alloc (.cells #[.int .i64 t, .bool b, .slice A n c, .string l.durable, .string l.pending, .int .i64 l.count] 36)) := (Below.refl w.heap.size w).alloc (Nat.le_refl _) _
  refine (l28Good_any t b l A n c xs _ (hx.next K0) hn hi hs).mono ?_
  rintro e w1 ⟨rfl, b1⟩
  go_wp2_with fail
  go_ret
  exact ⟨rfl, bel_then K0 b1⟩

end Go.Proofs.YtlhebjlibhpanaaDoor
