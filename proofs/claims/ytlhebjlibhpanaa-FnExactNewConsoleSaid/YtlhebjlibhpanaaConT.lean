/- The law's own helpers over races and consoles. -/
import Derived.Test.YtlhebjlibhpanaaEntM
import Derived.Test.YtlhebjlibhpanaaLogL
namespace Go.Proofs.Ytlhebjlibhpanaa
open Go.RowKit


theorem eqRace_any (t : Int) (b : Bool) (A B : Option Addr) (n n' c c' lo lo' : Nat) (xs ys : List Entrant) (w : World) (hx : SeesN entrantSh w lo A n xs) (hy : SeesN entrantSh w lo' B n' ys) (he : xs = ys) (hn : n ≤ 1048576) (hi : ∀ x ∈ xs, x.cnt ≤ 1048576) :
    Calls Try.prog 11 #[.agg #[.int .i64 t, .bool b, .slice A n c], .agg #[.int .i64 t, .bool b, .slice B n' c']] w fun e w' => e = .returned (.bool true) ∧ Below w.heap.size w w' := by
  have e1 : (t != t) = false := bne_self_eq_false t
  have e2 : (b != b) = false := bne_self_eq_false b
  go_enter Try.func11, Try.ntmps11
  go_wp2_with fail
  have K0 : Below w.heap.size w _ := ((Below.refl w.heap.size w).alloc (Nat.le_refl _) (.cells #[.int .i64 t, .bool b, .slice A n c] 24)).alloc (by simp) (.cells #[.int .i64 t, .bool b, .slice B n' c'] 24)
  refine (eqEntrantS_any _ _ _ _ c c' _ _ xs ys _ (hx.next K0) (hy.next K0) he (by omega) hi).mono ?_
  rintro e w1 ⟨rfl, b1⟩
  go_wp2_with fail
  go_ret
  exact ⟨rfl, bel_then K0 b1⟩

theorem eqConsole_any (t : Int) (b : Bool) (l : Log) (A B : Option Addr) (n n' c c' lo lo' : Nat) (xs ys : List Entrant) (w : World) (hx : SeesN entrantSh w lo A n xs) (hy : SeesN entrantSh w lo' B n' ys) (he : xs = ys) (hn : n ≤ 1048576) (hi : ∀ x ∈ xs, x.cnt ≤ 1048576) :
    Calls Try.prog 6 #[.agg #[.int .i64 t, .bool b, .slice A n c, .string l.durable, .string l.pending, .int .i64 l.count], .agg #[.int .i64 t, .bool b, .slice B n' c', .string l.durable, .string l.pending, .int .i64 l.count]] w fun e w' => e = .returned (.bool true) ∧ Below w.heap.size w w' := by
  have e1 : (t != t) = false := bne_self_eq_false t
  have e2 : (b != b) = false := bne_self_eq_false b
  go_enter Try.func6, Try.ntmps6
  go_wp2_with fail
  have K0 : Below w.heap.size w _ := ((Below.refl w.heap.size w).alloc (Nat.le_refl _) (.cells #[.int .i64 t, .bool b, .slice A n c, .string l.durable, .string l.pending, .int .i64 l.count] 28)).alloc (by simp) (.cells #[.int .i64 t, .bool b, .slice B n' c', .string l.durable, .string l.pending, .int .i64 l.count] 28)
  refine (eqRace_any t b A B n n' c c' _ _ xs ys _ (hx.next K0) (hy.next K0) he hn hi).mono ?_
  rintro e w1 ⟨rfl, b1⟩
  have K1 := bel_then K0 b1
  have P1 : Blk w1 w.heap.size 28 [.int .i64 t, .bool b, .slice A n c, .string l.durable, .string l.pending, .int .i64 l.count] := ((Blk.at_ rfl).alloc _).next b1
  have P2 : Blk w1 (w.heap.size + 1) 28 [.int .i64 t, .bool b, .slice B n' c', .string l.durable, .string l.pending, .int .i64 l.count] := (Blk.at_ (by simp)).next b1
  have p1 := P1.cell
  have p2 := P2.cell
  go_wp2_with fail
  refine (eqLog_any l.durable l.pending l.count _).mono ?_
  rintro e w2 ⟨rfl, b2⟩
  go_wp2_with fail
  go_ret
  exact ⟨rfl, bel_then K1 b2⟩

theorem markRace_any (S : Nat → Prop) (t : Int) (b : Bool) (A : Option Addr) (n c : Nat) (xs : List Entrant) (k0 : Int) (w : World) (hM : MineN entrantSh w S 47 51 A n c xs) (h0 : 0 ≤ k0) (h1 : k0 + wtN Entrant.wt xs ≤ 1000000000) (hn : n ≤ 1048576) :
    Calls Try.prog 13 #[.agg #[.int .i64 t, .bool b, .slice A n c], .int .i64 k0] w fun e w' => e = .returned (.int .i64 (k0 + wtN Entrant.wt xs)) ∧ MineN entrantSh w' S 47 51 A n c (marksN Entrant.mark Entrant.wt k0 xs) ∧ Only S w w' := by
  go_enter Try.func13, Try.ntmps13
  go_wp2_with fail
  have K0 : Below w.heap.size w (w.alloc (.cells #[.int .i64 t, .bool b, .slice A n c] 24)) := (Below.refl _ _).alloc (Nat.le_refl _) _
  refine (markEntrantS_any S n c A xs k0 _ (hM.next K0) h0 h1 hn).mono ?_
  rintro e w1 ⟨rfl, M1, q1⟩
  go_wp2_with fail
  go_ret
  exact ⟨rfl, M1, (Only.of_below K0).trans q1⟩

theorem markConsole_any (S : Nat → Prop) (t : Int) (b : Bool) (l : Log) (A : Option Addr) (n c : Nat) (xs : List Entrant) (k0 : Int) (w : World) (hM : MineN entrantSh w S 47 51 A n c xs) (h0 : 0 ≤ k0) (h1 : k0 + wtN Entrant.wt xs ≤ 1000000000) (hn : n ≤ 1048576) :
    Calls Try.prog 7 #[.agg #[.int .i64 t, .bool b, .slice A n c, .string l.durable, .string l.pending, .int .i64 l.count], .int .i64 k0] w fun e w' => e = .returned (.int .i64 (k0 + wtN Entrant.wt xs)) ∧ MineN entrantSh w' S 47 51 A n c (marksN Entrant.mark Entrant.wt k0 xs) ∧ Only S w w' := by
  go_enter Try.func7, Try.ntmps7
  go_wp2_with fail
  have K0 : Below w.heap.size w (w.alloc (.cells #[.int .i64 t, .bool b, .slice A n c, .string l.durable, .string l.pending, .int .i64 l.count] 28)) := (Below.refl _ _).alloc (Nat.le_refl _) _
  refine (markRace_any S t b A n c xs k0 _ (hM.next K0) h0 h1 hn).mono ?_
  rintro e w1 ⟨rfl, M1, q1⟩
  go_wp2_with fail
  go_ret
  exact ⟨rfl, M1, (Only.of_below K0).trans q1⟩

theorem heldRace_any (t : Int) (b : Bool) (lo n c : Nat) (A : Option Addr) (xs : List Entrant) (k0 : Int) (w : World) (hx : SeesN entrantSh w lo A n (marksN Entrant.mark Entrant.wt k0 xs)) (h0 : 0 ≤ k0) (h1 : k0 + wtN Entrant.wt xs ≤ 1000000000) (hn : n ≤ 1048576) :
    Calls Try.prog 14 #[.agg #[.int .i64 t, .bool b, .slice A n c], .int .i64 k0] w fun e w' => e = .returned (.int .i64 (k0 + wtN Entrant.wt xs)) ∧ Below w.heap.size w w' := by
  go_enter Try.func14, Try.ntmps14
  go_wp2_with fail
  have K0 : Below w.heap.size w (w.alloc (.cells #[.int .i64 t, .bool b, .slice A n c] 24)) := (Below.refl _ _).alloc (Nat.le_refl _) _
  refine (heldEntrantS_any lo n c A xs k0 _ (hx.next K0) h0 h1 hn).mono ?_
  rintro e w1 ⟨rfl, q1⟩
  have hnn : ¬ (k0 + (wtN Entrant.wt xs : Int) < 0) := by omega
  have K1 := bel_quiet K0 q1
  obtain ⟨q, hq⟩ : ∃ q, (k0 + (wtN Entrant.wt xs : Int)) = q := ⟨_, rfl⟩
  have HQ := Lib.hid hq
  rw [hq] at hnn ⊢
  clear hq
  go_wp2_with fail
  go_ret
  exact ⟨by rw [HQ.out]; rfl, K1⟩

theorem heldConsole_any (t : Int) (b : Bool) (l : Log) (lo n c : Nat) (A : Option Addr) (xs : List Entrant) (k0 : Int) (w : World) (hx : SeesN entrantSh w lo A n (marksN Entrant.mark Entrant.wt k0 xs)) (h0 : 0 ≤ k0) (h1 : k0 + wtN Entrant.wt xs ≤ 1000000000) (hn : n ≤ 1048576) :
    Calls Try.prog 8 #[.agg #[.int .i64 t, .bool b, .slice A n c, .string l.durable, .string l.pending, .int .i64 l.count], .int .i64 k0] w fun e w' => e = .returned (.int .i64 (k0 + wtN Entrant.wt xs)) ∧ Below w.heap.size w w' := by
  go_enter Try.func8, Try.ntmps8
  go_wp2_with fail
  have K0 : Below w.heap.size w (w.alloc (.cells #[.int .i64 t, .bool b, .slice A n c, .string l.durable, .string l.pending, .int .i64 l.count] 28)) := (Below.refl _ _).alloc (Nat.le_refl _) _
  refine (heldRace_any t b lo n c A xs k0 _ (hx.next K0) h0 h1 hn).mono ?_
  rintro e w1 ⟨rfl, q1⟩
  have hnn : ¬ (k0 + (wtN Entrant.wt xs : Int) < 0) := by omega
  have K1 := bel_then K0 q1
  obtain ⟨q, hq⟩ : ∃ q, (k0 + (wtN Entrant.wt xs : Int)) = q := ⟨_, rfl⟩
  have HQ := Lib.hid hq
  rw [hq] at hnn ⊢
  clear hq
  go_wp2_with fail
  go_ret
  exact ⟨by rw [HQ.out]; rfl, K1⟩

end Go.Proofs.Ytlhebjlibhpanaa
