/- The law's copies of races and consoles, and how many things there are. -/
import Derived.Test.YtlhebjlibhpanaaDoorEntZ
import Derived.Test.YtlhebjlibhpanaaDoorConT
namespace Go.Proofs.YtlhebjlibhpanaaDoor
open Go.RowKit


theorem szRace_any (t : Int) (b : Bool) (A : Option Addr) (n c : Nat) (xs : List Entrant) (left : Int) (w : World) (hx : SeesN entrantSh w 0 A n xs) (hk : ∀ x ∈ xs, x.cnt ≤ 9223372036854775807) (hn : n ≤ 9223372036854775807) (hl : 0 ≤ left) (hl' : left ≤ 1048576) :
    Calls Tryd.prog 12 #[.agg #[.int .i64 t, .bool b, .slice A n c], .int .i64 left] w fun e w' => ∃ q : Int, e = .returned (.int .i64 q) ∧ Below w.heap.size w w' ∧ (q = -1 ∨ 0 ≤ q ∧ q = left - n - wtN Entrant.cnt xs) := by
  go_enter Tryd.func12, Tryd.ntmps12
  go_wp2_with fail
  have K0 : Below w.heap.size w _ := (Below.refl w.heap.size w).alloc (Nat.le_refl _) (.cells #[.int .i64 t, .bool b, .slice A n c] 24)
  refine (szEntrantS_any A n c xs left _ (hx.next K0) hk hn hl hl').mono ?_
  rintro e w1 ⟨q, rfl, b1, rfl | ⟨h1, h2⟩⟩
  · go_wp2_with fail
    go_ret
    exact ⟨_, rfl, bel_then K0 b1, .inl rfl⟩
  · have H2 := Lib.hid h2
    clear h2
    go_wp2_with fail
    go_ret
    exact ⟨_, rfl, bel_then K0 b1, .inr ⟨h1, H2.out⟩⟩

theorem szConsole_any (t : Int) (b : Bool) (l : Log) (A : Option Addr) (n c : Nat) (xs : List Entrant) (left : Int) (w : World) (hx : SeesN entrantSh w 0 A n xs) (hk : ∀ x ∈ xs, x.cnt ≤ 9223372036854775807) (hn : n ≤ 9223372036854775807) (hu : l.upto 9223372036854775807) (hl : 0 ≤ left) (hl' : left ≤ 1048576) :
    Calls Tryd.prog 5 #[.agg #[.int .i64 t, .bool b, .slice A n c, .string l.durable, .string l.pending, .int .i64 l.count], .int .i64 left] w fun e w' => ∃ q : Int, e = .returned (.int .i64 q) ∧ Below w.heap.size w w' ∧ (q = -1 ∨ 0 ≤ q ∧ n ≤ 1048576 ∧ wtN Entrant.cnt xs ≤ 1048576 ∧ l.upto 1048576) := by
  go_enter Tryd.func5, Tryd.ntmps5
  go_wp2_with fail
  have K0 : Below w.heap.size w (w.alloc (.cells #[.int .i64 t, .bool b, .slice A n c, .string l.durable, .string l.pending, .int .i64 l.count] 28)) := (Below.refl w.heap.size w).alloc (Nat.le_refl _) _
  have B0 : Blk (w.alloc (.cells #[.int .i64 t, .bool b, .slice A n c, .string l.durable, .string l.pending, .int .i64 l.count] 28)) w.heap.size 28 [.int .i64 t, .bool b, .slice A n c, .string l.durable, .string l.pending, .int .i64 l.count] := Blk.at_ rfl
  refine (szRace_any t b A n c xs left _ (hx.next K0) hk hn hl hl').mono ?_
  rintro e w1 ⟨q, rfl, b1, rfl | ⟨h1, h2⟩⟩
  · go_wp2_with fail
    go_ret
    exact ⟨_, rfl, bel_then K0 b1, .inl rfl⟩
  · have hq : q ≤ 1048576 := by omega
    have H2 := Lib.hid (show n ≤ 1048576 ∧ wtN Entrant.cnt xs ≤ 1048576 by omega)
    clear h2
    have K1 := bel_then K0 b1
    replace B0 := B0.next b1
    have cm := B0.cell
    go_wp2_with fail
    refine (szLog_any l q w1 hu h1 hq).mono ?_
    rintro e w2 ⟨p, rfl, b2, rfl | ⟨h3, h4, h5⟩⟩
    · go_wp2_with fail
      go_ret
      exact ⟨_, rfl, bel_then K1 b2, .inl rfl⟩
    · have H5 := Lib.hid h5
      clear h5
      go_wp2_with fail
      go_ret
      exact ⟨_, rfl, bel_then K1 b2, .inr ⟨h3, H2.out.1, H2.out.2, H5.out⟩⟩

set_option maxRecDepth 100000 in
theorem toRace_any (t : Int) (b : Bool) (A : Option Addr) (n c : Nat) (xs : List Entrant) (w : World) (hx : SeesN entrantSh w 0 A n xs) (hn : n ≤ 1048576) (hi : ∀ x ∈ xs, x.cnt ≤ 1048576) :
    Calls Tryd.prog 15 #[.agg #[.int .i64 t, .bool b, .slice A n c]] w fun e w' => ∃ A1, e = .returned (.agg #[.int .i64 t, .bool b, .slice A1 n n]) ∧ MineN entrantSh w' (In (w.heap.size + 1) w'.heap.size) 56 80 A1 n n xs ∧ Below w.heap.size w w' := by
  go_enter Tryd.func15, Tryd.ntmps15
  go_wp2_with fail
  have K0 : Below w.heap.size w _ := (((Below.refl w.heap.size w).alloc (Nat.le_refl _) (.cells #[.int .i64 t, .bool b, .slice A n c] 24)).alloc (by simp) (.cells #[.int .i64 0, .bool false, .slice none 0 0] 33)).alloc (by simp; omega) (.cells #[.int .i64 t, .bool b, .slice none 0 0] 33)
  refine (toEntrantS_any A n c xs _ (hx.next K0) hn hi).mono ?_
  rintro e w1 ⟨A1, rfl, M0, b1⟩
  have K1 := bel_then K0 b1
  have z1 : w.heap.size + 1 + 1 + 1 ≤ w1.heap.size := by have := b1.size; simpa using this
  have R1 : Blk w1 (w.heap.size + 1) 33 [.int .i64 0, .bool false, .slice none 0 0] := ((Blk.at_ (by simp)).alloc _).next b1
  have L1 : Blk w1 (w.heap.size + 1 + 1) 33 [.int .i64 t, .bool b, .slice none 0 0] := (Blk.at_ (by simp)).next b1
  have P1 : Blk w1 w.heap.size 24 [.int .i64 t, .bool b, .slice A n c] := (((Blk.at_ rfl).alloc _).alloc _).next b1
  have p1 := P1.cell
  have l1 := L1.cell
  have lf1 := L1.frozen
  have r1 := R1.cell
  have rf1 := R1.frozen
  go_wp2_with fail
  have RF := ((((R1.far (p := ⟨w.heap.size + 1 + 1, 2, none⟩) (by simp) (.slice A1 n n)).set_ 0 (.int .i64 t)).set_ 1 (.bool b)).set_ 2 (.slice A1 n n))
  have O3 := (((((Only.refl (fun b => b = w.heap.size + 1 ∨ b = w.heap.size + 1 + 1) w1).setCell (p := ⟨w.heap.size + 1 + 1, 2, none⟩) (.inr rfl) (.slice A1 n n)).setCell (p := ⟨w.heap.size + 1, 0, none⟩) (.inl rfl) (.int .i64 t)).setCell (p := ⟨w.heap.size + 1, 1, none⟩) (.inl rfl) (.bool b)).setCell (p := ⟨w.heap.size + 1, 2, none⟩) (.inl rfl) (.slice A1 n n))
  have M1 := M0.only O3 (fun b h1 h2 => by have := h1.1; simp at this; rcases h2 with h2 | h2 <;> omega)
  have zF := O3.size
  refine bodyPost_ret (results_cell_row rfl _ _ (w.heap.size + 1) _ _ (0, 0) _ rfl RF Tryd.underlying33 rfl (by kernel_rfl)) rfl ⟨A1, rfl, M1.wide ?_, ?_⟩
  · intro b hb
    have h1 := hb.1
    have h2 := hb.2
    simp at h1
    exact ⟨by omega, by omega⟩
  · exact K1.trans (O3.below (fun k hk => by rcases hk with hk | hk <;> omega) (by omega))

set_option maxRecDepth 100000 in
set_option maxHeartbeats 1000000 in
theorem toConsole_any (t : Int) (b : Bool) (l : Log) (A : Option Addr) (n c : Nat) (xs : List Entrant) (w : World) (hx : SeesN entrantSh w 0 A n xs) (hn : n ≤ 1048576) (hi : ∀ x ∈ xs, x.cnt ≤ 1048576) :
    Calls Tryd.prog 7 #[.agg #[.int .i64 t, .bool b, .slice A n c, .string l.durable, .string l.pending, .int .i64 l.count]] w fun e w' => ∃ A1, e = .returned (.agg #[.int .i64 t, .bool b, .slice A1 n n, .string l.durable, .string l.pending, .int .i64 l.count]) ∧ MineN entrantSh w' (In (w.heap.size + 1) w'.heap.size) 56 80 A1 n n xs ∧ Below w.heap.size w w' := by
  go_enter Tryd.func7, Tryd.ntmps7
  go_wp2_with fail
  have K0 : Below w.heap.size w _ := (((Below.refl w.heap.size w).alloc (Nat.le_refl _) (.cells #[.int .i64 t, .bool b, .slice A n c, .string l.durable, .string l.pending, .int .i64 l.count] 28)).alloc (by simp) (.cells #[.int .i64 0, .bool false, .slice none 0 0, .string ⟨#[]⟩, .string ⟨#[]⟩, .int .i64 0] 36)).alloc (by simp; omega) (.cells #[.int .i64 0, .bool false, .slice none 0 0, .string ⟨#[]⟩, .string ⟨#[]⟩, .int .i64 0] 36)
  refine (toRace_any t b A n c xs _ (hx.next K0) hn hi).mono ?_
  rintro e w1 ⟨A1, rfl, M0, b1⟩
  have K1 := bel_then K0 b1
  have z1 : w.heap.size + 1 + 1 + 1 ≤ w1.heap.size := by have := b1.size; simpa using this
  have R1 : Blk w1 (w.heap.size + 1) 36 [.int .i64 0, .bool false, .slice none 0 0, .string ⟨#[]⟩, .string ⟨#[]⟩, .int .i64 0] := ((Blk.at_ (by simp)).alloc _).next b1
  have L1 : Blk w1 (w.heap.size + 1 + 1) 36 [.int .i64 0, .bool false, .slice none 0 0, .string ⟨#[]⟩, .string ⟨#[]⟩, .int .i64 0] := (Blk.at_ (by simp)).next b1
  have P1 : Blk w1 w.heap.size 28 [.int .i64 t, .bool b, .slice A n c, .string l.durable, .string l.pending, .int .i64 l.count] := (((Blk.at_ rfl).alloc _).alloc _).next b1
  replace M0 := M0.wide (T := In (w.heap.size + 1 + 1 + 1) w1.heap.size) (fun b hb => by have h1 := hb.1; have h2 := hb.2; simp at h1; exact ⟨by omega, h2⟩)
  have p1 := P1.cell
  have l1 := L1.cell
  have lf1 := L1.frozen
  clear K0 b1
  go_wp2_with fail
  have O2 := ((((Only.refl (fun b => b = w.heap.size + 1 + 1) w1).setCell (p := ⟨w.heap.size + 1 + 1, 0, none⟩) rfl (.int .i64 t)).setCell (p := ⟨w.heap.size + 1 + 1, 1, none⟩) rfl (.bool b)).setCell (p := ⟨w.heap.size + 1 + 1, 2, none⟩) rfl (.slice A1 n n))
  have L2 := (((L1.set_ 0 (.int .i64 t)).set_ 1 (.bool b)).set_ 2 (.slice A1 n n))
  have R2 := R1.only O2 (fun (h : _ = _) => by omega)
  have P2 := P1.only O2 (fun (h : _ = _) => by omega)
  have M2 := M0.only O2 (fun b h1 (h2 : b = _) => by have := h1.1; omega)
  have K2 := K1.trans (O2.below (fun k (hk : k = w.heap.size + 1 + 1) => by omega) (by omega))
  have z2 := O2.size
  clear O2 L1 R1 P1 M0 K1 p1 l1 lf1
  generalize (((w1.setCell ⟨w.heap.size + 1 + 1, 0, none⟩ (.int .i64 t)).setCell ⟨w.heap.size + 1 + 1, 1, none⟩ (.bool b)).setCell ⟨w.heap.size + 1 + 1, 2, none⟩ (.slice A1 n n)) = w2 at *
  refine (toLog_any l.durable l.pending l.count w2).mono ?_
  rintro e w3 ⟨rfl, b2⟩
  have z3 := b2.size
  replace K2 := bel_then K2 b2
  replace L2 := L2.next b2
  replace R2 := R2.next b2
  replace M2 := M2.next b2
  replace P2 := P2.next b2
  have p1 := P2.cell
  have l1 := L2.cell
  have lf1 := L2.frozen
  have r1 := R2.cell
  have rf1 := R2.frozen
  clear b2
  go_wp2_with fail
  have RF := (((((((((R2.far (p := ⟨w.heap.size + 1 + 1, 3, none⟩) (by simp) (.string l.durable)).far (p := ⟨w.heap.size + 1 + 1, 4, none⟩) (by simp) (.string l.pending)).far (p := ⟨w.heap.size + 1 + 1, 5, none⟩) (by simp) (.int .i64 l.count)).set_ 0 (.int .i64 t)).set_ 1 (.bool b)).set_ 2 (.slice A1 n n)).set_ 3 (.string l.durable)).set_ 4 (.string l.pending)).set_ 5 (.int .i64 l.count))
  have O3 := ((((((((((Only.refl (fun b => b = w.heap.size + 1 ∨ b = w.heap.size + 1 + 1) w3).setCell (p := ⟨w.heap.size + 1 + 1, 3, none⟩) (.inr rfl) (.string l.durable)).setCell (p := ⟨w.heap.size + 1 + 1, 4, none⟩) (.inr rfl) (.string l.pending)).setCell (p := ⟨w.heap.size + 1 + 1, 5, none⟩) (.inr rfl) (.int .i64 l.count)).setCell (p := ⟨w.heap.size + 1, 0, none⟩) (.inl rfl) (.int .i64 t)).setCell (p := ⟨w.heap.size + 1, 1, none⟩) (.inl rfl) (.bool b)).setCell (p := ⟨w.heap.size + 1, 2, none⟩) (.inl rfl) (.slice A1 n n)).setCell (p := ⟨w.heap.size + 1, 3, none⟩) (.inl rfl) (.string l.durable)).setCell (p := ⟨w.heap.size + 1, 4, none⟩) (.inl rfl) (.string l.pending)).setCell (p := ⟨w.heap.size + 1, 5, none⟩) (.inl rfl) (.int .i64 l.count))
  have M1 := M2.only O3 (fun b h1 h2 => by have := h1.1; rcases h2 with h2 | h2 <;> omega)
  have zF := O3.size
  refine bodyPost_ret (results_cell_row rfl _ _ (w.heap.size + 1) _ _ (0, 0) _ rfl RF Tryd.underlying36 rfl (by kernel_rfl)) rfl ⟨A1, rfl, M1.wide ?_, ?_⟩
  · intro b hb
    have h1 := hb.1
    have h2 := hb.2
    exact ⟨by omega, by omega⟩
  · exact K2.trans (O3.below (fun k hk => by rcases hk with hk | hk <;> omega) (by omega))

end Go.Proofs.YtlhebjlibhpanaaDoor
