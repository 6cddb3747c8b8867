/- Joined texts of this proof: ConT. -/
import Derived.Test.YtflpcdffmpfdpaaGreatDoorB02
import Derived.Test.YtflpcdffmpfdpaaGreatDoorT01
set_option maxRecDepth 100000
set_option maxHeartbeats 8000000
namespace Go.Proofs.YtflpcdffmpfdpaaGreatDoor
open Go.RowKit
theorem jsc (t : Int) (b : Bool) (A B : Option Addr) (n n' c c' lo lo' : Nat) (xs ys : List Entrant) (w : World) (hx : SeesN entrantSh w lo A n xs) (hy : SeesN entrantSh w lo' B n' ys) (he : xs = ys) (hn : n ≤ 1048576) (hi : ∀ x ∈ xs, x.cnt ≤ 1048576) :
    Calls Tryz.prog 51 #[.agg #[t, b, .slice A n c], .agg #[t, b, .slice B n' c']] w fun e w' => e = .returned (.bool true) ∧ Below w.heap.size w w' := by
  have e1 : (t != t) = false := bne_self_eq_false t
  have e2 : (b != b) = false := bne_self_eq_false b
  go_enter Tryz.func51, Tryz.ntmps51
  go_wp2_with fail
  have K0 : Below w.heap.size w _ := ((Below.refl w.heap.size w).alloc (Nat.le_refl _) (.cells #[t, b, .slice A n c] 32)).alloc (by simp) (.cells #[t, b, .slice B n' c'] 32)
  refine (jrh _ _ _ _ c c' _ _ xs ys _ (hx.next K0) (hy.next K0) he (by omega) hi).mono ?_
  rintro e w1 ⟨rfl, b1⟩
  go_wp2_with fail
  go_ret
  exact ⟨rfl, jaa K0 b1⟩
theorem jqz (t : Int) (b : Bool) (l : Log) (A B : Option Addr) (n n' c c' lo lo' : Nat) (xs ys : List Entrant) (w : World) (hx : SeesN entrantSh w lo A n xs) (hy : SeesN entrantSh w lo' B n' ys) (he : xs = ys) (hn : n ≤ 1048576) (hi : ∀ x ∈ xs, x.cnt ≤ 1048576) :
    Calls Tryz.prog 13 #[.agg #[t, b, .slice A n c, l.durable, l.pending, l.count], .agg #[t, b, .slice B n' c', l.durable, l.pending, l.count]] w fun e w' => e = .returned (.bool true) ∧ Below w.heap.size w w' := by
  have e1 : (t != t) = false := bne_self_eq_false t
  have e2 : (b != b) = false := bne_self_eq_false b
  go_enter Tryz.func13, Tryz.ntmps13
  go_wp2_with fail
  have K0 : Below w.heap.size w _ := ((Below.refl w.heap.size w).alloc (Nat.le_refl _) (.cells #[t, b, .slice A n c, l.durable, l.pending, l.count] 35)).alloc (by simp) (.cells #[t, b, .slice B n' c', l.durable, l.pending, l.count] 35)
  refine (jsc t b A B n n' c c' _ _ xs ys _ (hx.next K0) (hy.next K0) he hn hi).mono ?_
  rintro e w1 ⟨rfl, b1⟩
  have K1 := jaa K0 b1
  have P1 : Blk w1 w.heap.size 35 [.int .i64 t, .bool b, .slice A n c, .string l.durable, .string l.pending, .int .i64 l.count] := ((Blk.at_ rfl).alloc _).next b1
  have P2 : Blk w1 (w.heap.size + 1) 35 [.int .i64 t, .bool b, .slice B n' c', .string l.durable, .string l.pending, .int .i64 l.count] := (Blk.at_ (by simp)).next b1
  have p1 := P1.cell
  have p2 := P2.cell
  go_wp2_with fail
  refine (jsm l.durable l.pending l.count _).mono ?_
  rintro e w2 ⟨rfl, b2⟩
  go_wp2_with fail
  go_ret
  exact ⟨rfl, jaa K1 b2⟩
theorem jry (S : Nat → Prop) (t : Int) (b : Bool) (A : Option Addr) (n c : Nat) (xs : List Entrant) (k0 : Int) (w : World) (hM : MineN entrantSh w S 108 188 A n c xs) (h0 : 0 ≤ k0) (h1 : k0 + wtN Entrant.wt xs ≤ 1000000000) (hn : n ≤ 1048576) :
    Calls Tryz.prog 53 #[.agg #[t, b, .slice A n c], .int .i64 k0] w fun e w' => e = .returned (.int .i64 (k0 + wtN Entrant.wt xs)) ∧ MineN entrantSh w' S 108 188 A n c (jqw Entrant.mark Entrant.wt k0 xs) ∧ Only S w w' := by
  go_enter Tryz.func53, Tryz.ntmps53
  go_wp2_with fail
  have K0 := nB w (.cells #[t, b, .slice A n c] 32)
  refine (jra S n c A xs k0 _ (hM.next K0) h0 h1 hn).mono ?_
  rintro e w1 ⟨rfl, M1, q1⟩
  go_wp2_with fail
  go_ret
  exact ⟨rfl, M1, (Only.of_below K0).trans q1⟩
theorem jq6 (S : Nat → Prop) (t : Int) (b : Bool) (l : Log) (A : Option Addr) (n c : Nat) (xs : List Entrant) (k0 : Int) (w : World) (hM : MineN entrantSh w S 108 188 A n c xs) (h0 : 0 ≤ k0) (h1 : k0 + wtN Entrant.wt xs ≤ 1000000000) (hn : n ≤ 1048576) :
    Calls Tryz.prog 14 #[.agg #[t, b, .slice A n c, l.durable, l.pending, l.count], .int .i64 k0] w fun e w' => e = .returned (.int .i64 (k0 + wtN Entrant.wt xs)) ∧ MineN entrantSh w' S 108 188 A n c (jqw Entrant.mark Entrant.wt k0 xs) ∧ Only S w w' := by
  go_enter Tryz.func14, Tryz.ntmps14
  go_wp2_with fail
  have K0 := nB w (.cells #[t, b, .slice A n c, l.durable, l.pending, l.count] 35)
  refine (jry S t b A n c xs k0 _ (hM.next K0) h0 h1 hn).mono ?_
  rintro e w1 ⟨rfl, M1, q1⟩
  go_wp2_with fail
  go_ret
  exact ⟨rfl, M1, (Only.of_below K0).trans q1⟩
theorem jrx (t : Int) (b : Bool) (lo n c : Nat) (A : Option Addr) (xs : List Entrant) (k0 : Int) (w : World) (hx : SeesN entrantSh w lo A n (jqw Entrant.mark Entrant.wt k0 xs)) (h0 : 0 ≤ k0) (h1 : k0 + wtN Entrant.wt xs ≤ 1000000000) (hn : n ≤ 1048576) :
    Calls Tryz.prog 54 #[.agg #[t, b, .slice A n c], .int .i64 k0] w fun e w' => e = .returned (.int .i64 (k0 + wtN Entrant.wt xs)) ∧ Below w.heap.size w w' := by
  go_enter Tryz.func54, Tryz.ntmps54
  go_wp2_with fail
  have K0 := nB w (.cells #[t, b, .slice A n c] 32)
  refine (jq9 lo n c A xs k0 _ (hx.next K0) h0 h1 hn).mono ?_
  rintro e w1 ⟨rfl, q1⟩
  have hnn : ¬ (k0 + (wtN Entrant.wt xs : Int) < 0) := by omega
  have K1 := ja3 K0 q1
  obtain ⟨q, hq⟩ : ∃ q, (k0 + (wtN Entrant.wt xs : Int)) = q := ⟨_, rfl⟩
  have HQ := Lib.hid hq
  rw [hq] at hnn ⊢
  clear hq
  go_wp2_with fail
  go_ret
  exact ⟨by rw [HQ.out]; rfl, K1⟩
theorem jq5 (t : Int) (b : Bool) (l : Log) (lo n c : Nat) (A : Option Addr) (xs : List Entrant) (k0 : Int) (w : World) (hx : SeesN entrantSh w lo A n (jqw Entrant.mark Entrant.wt k0 xs)) (h0 : 0 ≤ k0) (h1 : k0 + wtN Entrant.wt xs ≤ 1000000000) (hn : n ≤ 1048576) :
    Calls Tryz.prog 15 #[.agg #[t, b, .slice A n c, l.durable, l.pending, l.count], .int .i64 k0] w fun e w' => e = .returned (.int .i64 (k0 + wtN Entrant.wt xs)) ∧ Below w.heap.size w w' := by
  go_enter Tryz.func15, Tryz.ntmps15
  go_wp2_with fail
  have K0 := nB w (.cells #[t, b, .slice A n c, l.durable, l.pending, l.count] 35)
  refine (jrx t b lo n c A xs k0 _ (hx.next K0) h0 h1 hn).mono ?_
  rintro e w1 ⟨rfl, q1⟩
  have hnn : ¬ (k0 + (wtN Entrant.wt xs : Int) < 0) := by omega
  have K1 := jaa K0 q1
  obtain ⟨q, hq⟩ : ∃ q, (k0 + (wtN Entrant.wt xs : Int)) = q := ⟨_, rfl⟩
  have HQ := Lib.hid hq
  rw [hq] at hnn ⊢
  clear hq
  go_wp2_with fail
  go_ret
  exact ⟨by rw [HQ.out]; rfl, K1⟩
end Go.Proofs.YtflpcdffmpfdpaaGreatDoor
