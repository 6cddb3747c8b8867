/- The law's own helpers over Map. -/
import Derived.Test.YtljiflbaknakaaaHelp1
namespace Go.Proofs.Ytljiflbaknakaaa
open Go.RowKit

structure MapV where
  width : Int
  height : Int
  rise : List Int
  cost : List Int
  deriving DecidableEq
structure SeesMap (w : World) (A1 : Option Addr) (n1 : Nat) (A2 : Option Addr) (n2 : Nat) (m : MapV) : Prop where
  f1 : Sees w 0 1 A1 n1 (ints m.rise)
  f2 : Sees w 0 1 A2 n2 (ints m.cost)
structure MineMap (w : World) (S : Nat → Prop) (A1 : Option Addr) (n1 c1 : Nat) (A2 : Option Addr) (n2 c2 : Nat) (m : MapV) : Prop where
  f1 : Mine w S 3 1 A1 n1 c1 (ints m.rise)
  f2 : Mine w S 3 1 A2 n2 c2 (ints m.cost)
  apart : ∀ b, OwnB A1 b → OwnB A2 b → False
section
variable {w w' : World} {S T : Nat → Prop} {A1 A2 : Option Addr} {n1 n2 c1 c2 : Nat} {m : MapV}
theorem SeesMap.below {C : Nat} (h : SeesMap w A1 n1 A2 n2 m) (hk : Below C w w') (hC : w.heap.size ≤ C) : SeesMap w' A1 n1 A2 n2 m := ⟨h.f1.below hk hC, h.f2.below hk hC⟩
theorem SeesMap.next (h : SeesMap w A1 n1 A2 n2 m) (hb : Below w.heap.size w w') : SeesMap w' A1 n1 A2 n2 m := ⟨h.f1.next hb, h.f2.next hb⟩
theorem MineMap.next (h : MineMap w S A1 n1 c1 A2 n2 c2 m) (hb : Below w.heap.size w w') : MineMap w' S A1 n1 c1 A2 n2 c2 m := ⟨h.f1.next hb, h.f2.next hb, h.apart⟩
theorem MineMap.only (h : MineMap w S A1 n1 c1 A2 n2 c2 m) (ho : Only T w w') (hS : ∀ b, S b → T b → False) : MineMap w' S A1 n1 c1 A2 n2 c2 m := ⟨h.f1.only ho hS, h.f2.only ho hS, h.apart⟩
theorem MineMap.sees (h : MineMap w S A1 n1 c1 A2 n2 c2 m) : SeesMap w A1 n1 A2 n2 m := ⟨h.f1.sees, h.f2.sees⟩
end

theorem szMap_any (x y : Int) (A1 A2 : Option Addr) (n1 n2 c1 c2 : Nat) (left : Int) (w : World) (hn : n1 ≤ 9223372036854775807 ∧ n2 ≤ 9223372036854775807) (hl : 0 ≤ left) (hl' : left ≤ 1048576) :
    Calls Try.prog 14 #[.agg #[.int .i64 x, .int .i64 y, .slice A1 n1 c1, .slice A2 n2 c2], .int .i64 left] w fun e w' => ∃ l : Int, e = .returned (.int .i64 l) ∧ Below w.heap.size w w' ∧ (l = -1 ∨ 0 ≤ l ∧ l ≤ left ∧ (n1 : Int) ≤ left ∧ (n2 : Int) ≤ left) := by
  go_enter Try.func14, Try.ntmps14
  go_wp2_with fail
  refine (szIntS_any _ _ _ _ _ hn.1 hl hl').mono ?_
  rintro e w' ⟨l1, rfl, rfl, rfl | h1⟩
  · go_wp2_with fail
    go_ret
    exact ⟨_, rfl, (Below.refl _ _).alloc (Nat.le_refl _) _, .inl rfl⟩
  · go_wp2_with fail
    refine (szIntS_any _ _ _ _ _ hn.2 (by omega) (by omega)).mono ?_
    rintro e w' ⟨l2, rfl, rfl, rfl | h2⟩
    · go_wp2_with fail
      go_ret
      exact ⟨_, rfl, (Below.refl _ _).alloc (Nat.le_refl _) _, .inl rfl⟩
    · go_wp2_with fail
      go_ret
      exact ⟨_, rfl, (Below.refl _ _).alloc (Nat.le_refl _) _, .inr (by omega)⟩

theorem eqMap_any (A1 A2 B1 B2 : Option Addr) (n1 n2 c1 c2 l1 l2 d1 d2 : Nat) (m m' : MapV) (w : World) (h : SeesMap w A1 n1 A2 n2 m) (h' : SeesMap w B1 l1 B2 l2 m') (he : m = m') (hn : n1 ≤ 1048576 ∧ n2 ≤ 1048576) :
    Calls Try.prog 20 #[.agg #[.int .i64 m.width, .int .i64 m.height, .slice A1 n1 c1, .slice A2 n2 c2], .agg #[.int .i64 m'.width, .int .i64 m'.height, .slice B1 l1 d1, .slice B2 l2 d2]] w fun e w' => e = .returned (.bool true) ∧ Below w.heap.size w w' := by
  subst he
  go_enter Try.func20, Try.ntmps20
  go_wp2_with fail
  have K0 : Below w.heap.size w _ := ((Below.refl w.heap.size w).alloc (Nat.le_refl _) (.cells #[.int .i64 m.width, .int .i64 m.height, .slice A1 n1 c1, .slice A2 n2 c2] 29)).alloc (by simp) (.cells #[.int .i64 m.width, .int .i64 m.height, .slice B1 l1 d1, .slice B2 l2 d2] 29)
  refine (eqIntS_any _ _ _ _ _ _ _ _ _ _ _ (h.f1.next K0) (h'.f1.next K0) rfl (by omega)).mono ?_
  rintro e w1 ⟨rfl, q1, rfl⟩
  have K1 := bel_drewN K0 q1
  go_wp2_with fail
  refine (eqIntS_any _ _ _ _ _ _ _ _ _ _ _ (h.f2.next K1) (h'.f2.next K1) rfl (by omega)).mono ?_
  rintro e w2 ⟨rfl, q2⟩
  go_wp2_with fail
  go_ret
  exact ⟨rfl, bel_quiet K1 q2⟩

set_option maxRecDepth 100000 in
theorem toMap_any (A1 A2 : Option Addr) (n1 n2 c1 c2 : Nat) (m : MapV) (w : World) (h : SeesMap w A1 n1 A2 n2 m) (hn : n1 ≤ 1048576 ∧ n2 ≤ 1048576) :
    Calls Try.prog 17 #[.agg #[.int .i64 m.width, .int .i64 m.height, .slice A1 n1 c1, .slice A2 n2 c2]] w fun e w' => ∃ B1 B2, e = .returned (.agg #[.int .i64 m.width, .int .i64 m.height, .slice B1 n1 n1, .slice B2 n2 n2]) ∧ MineMap w' (In w.heap.size w'.heap.size) B1 n1 n1 B2 n2 n2 m ∧ Below w.heap.size w w' := by
  go_enter Try.func17, Try.ntmps17
  go_wp2_with fail
  have K0 : Below w.heap.size w _ := (((Below.refl w.heap.size w).alloc (Nat.le_refl _) (.cells #[.int .i64 m.width, .int .i64 m.height, .slice A1 n1 c1, .slice A2 n2 c2] 24)).alloc (by simp) (.cells #[.int .i64 0, .int .i64 0, .slice none 0 0, .slice none 0 0] 29)).alloc (by simp; omega) (.cells #[.int .i64 m.width, .int .i64 m.height, .slice none 0 0, .slice none 0 0] 29)
  refine (toIntS_any _ _ _ _ _ (h.f1.next K0) hn.1).mono ?_
  rintro e w1 ⟨B1, rfl, o1, b1⟩
  have K1 := bel_then K0 b1
  have z1 : w.heap.size + 1 + 1 + 1 ≤ w1.heap.size := by have := b1.size; simpa using this
  have R1 : Blk w1 (w.heap.size + 1) 29 [.int .i64 0, .int .i64 0, .slice none 0 0, .slice none 0 0] := ((Blk.at_ (by simp)).alloc _).next b1
  have L1 : Blk w1 (w.heap.size + 1 + 1) 29 [.int .i64 m.width, .int .i64 m.height, .slice none 0 0, .slice none 0 0] := (Blk.at_ (by simp)).next b1
  have P1 : Blk w1 w.heap.size 24 [.int .i64 m.width, .int .i64 m.height, .slice A1 n1 c1, .slice A2 n2 c2] := (((Blk.at_ rfl).alloc _).alloc _).next b1
  have p1 := P1.cell
  have l1 := L1.cell
  have lf1 := L1.frozen
  go_wp2_with fail
  have K2 : Below w.heap.size w (w1.setCell ⟨w.heap.size + 1 + 1, 2, none⟩ (.slice B1 n1 n1)) := K1.setCell (by simp; omega) _
  refine (toIntS_any _ _ _ _ _ (h.f2.next K2) hn.2).mono ?_
  rintro e w2 ⟨B2, rfl, o2, b2⟩
  have K3 := bel_then K2 b2
  have z2 : w1.heap.size ≤ w2.heap.size := by have := b2.size; simpa using this
  have R2 := (R1.far (p := ⟨w.heap.size + 1 + 1, 2, none⟩) (by simp) (.slice B1 n1 n1)).next b2
  have L2 : Blk w2 (w.heap.size + 1 + 1) 29 [.int .i64 m.width, .int .i64 m.height, .slice B1 n1 n1, .slice none 0 0] := (L1.set_ 2 (.slice B1 n1 n1)).next b2
  clear p1 l1 lf1
  have l2 := L2.cell
  have lf2 := L2.frozen
  have r2 := R2.cell
  have rf2 := R2.frozen
  go_wp2_with fail
  have RF := ((((R2.far (p := ⟨w.heap.size + 1 + 1, 3, none⟩) (by simp) (.slice B2 n2 n2)).set_ 0 (.int .i64 m.width)).set_ 1 (.int .i64 m.height)).set_ 2 (.slice B1 n1 n1)).set_ 3 (.slice B2 n2 n2)
  have O3 := ((((((Only.refl (fun b => b = w.heap.size + 1 ∨ b = w.heap.size + 1 + 1) w2).setCell (p := ⟨w.heap.size + 1 + 1, 3, none⟩) (.inr rfl) (.slice B2 n2 n2)).setCell (p := ⟨w.heap.size + 1, 0, none⟩) (.inl rfl) (.int .i64 m.width)).setCell (p := ⟨w.heap.size + 1, 1, none⟩) (.inl rfl) (.int .i64 m.height)).setCell (p := ⟨w.heap.size + 1, 2, none⟩) (.inl rfl) (.slice B1 n1 n1)).setCell (p := ⟨w.heap.size + 1, 3, none⟩) (.inl rfl) (.slice B2 n2 n2))
  have O2 := (((Only.refl (fun b => b = w.heap.size + 1 ∨ b = w.heap.size + 1 + 1) w1).setCell (p := ⟨w.heap.size + 1 + 1, 2, none⟩) (.inr rfl) (.slice B1 n1 n1)).then_ b2).trans O3
  have M1 := (Mine.of o1).only O2 (fun b h1 h2 => by have := h1.1; simp at this; rcases h2 with h2 | h2 <;> omega)
  have M2 := (Mine.of o2).only O3 (fun b h1 h2 => by have := h1.1; simp at this; rcases h2 with h2 | h2 <;> omega)
  have zF := O3.size
  refine bodyPost_ret (results_cell_row rfl _ _ (w.heap.size + 1) _ _ (0, 0) _ rfl RF Try.underlying29 rfl (by kernel_rfl)) rfl ⟨B1, B2, rfl, ⟨M1.wide ?_, M2.wide ?_, ?_⟩, ?_⟩
  · intro b hb
    have h1 := hb.1
    have h2 := hb.2
    simp at h1
    exact ⟨by omega, by omega⟩
  · intro b hb
    have h1 := hb.1
    have h2 := hb.2
    simp at h1
    exact ⟨by omega, by omega⟩
  · intro b h1 h2
    have h3 := (M1.top b h1).2
    have h4 := (M2.top b h2).1
    simp at h4
    omega
  · exact K3.trans (O3.below (fun k hk => by rcases hk with hk | hk <;> omega) (by omega))

set_option maxRecDepth 100000 in
theorem markMap_any (S : Nat → Prop) (A1 A2 : Option Addr) (n1 n2 c1 c2 : Nat) (m : MapV) (k0 : Int) (w : World) (h : MineMap w S A1 n1 c1 A2 n2 c2 m) (h0 : 0 ≤ k0) (h1 : k0 ≤ 1000000000) (hn : n1 ≤ 1048576 ∧ n2 ≤ 1048576) :
    Calls Try.prog 25 #[.agg #[.int .i64 m.width, .int .i64 m.height, .slice A1 n1 c1, .slice A2 n2 c2], .int .i64 k0] w fun e w' => e = .returned (.int .i64 (k0 + n1 + n2)) ∧ MineMap w' S A1 n1 c1 A2 n2 c2 ⟨m.width, m.height, marks k0 n1, marks (k0 + n1) n2⟩ ∧ Only S w w' := by
  go_enter Try.func25, Try.ntmps25
  go_wp2_with fail
  have K0 : Below w.heap.size w _ := (Below.refl w.heap.size w).alloc (Nat.le_refl _) (.cells #[.int .i64 m.width, .int .i64 m.height, .slice A1 n1 c1, .slice A2 n2 c2] 29)
  refine (markIntS_any _ _ _ _ _ _ _ _ (h.f1.next K0).exact_ h0 (by omega) (by omega)).mono ?_
  rintro e w1 ⟨rfl, M1, q1⟩
  have P1 : Blk w1 w.heap.size 29 [.int .i64 m.width, .int .i64 m.height, .slice A1 n1 c1, .slice A2 n2 c2] := (Blk.at_ rfl).only q1 (fun hb => by have := h.f1.lt _ hb; omega)
  have p1 := P1.cell
  go_wp2_with fail
  refine (markIntS_any _ _ _ _ _ _ _ _ ((h.f2.exact_.next K0).only q1 (fun b hb ha => h.apart b ha hb)) (by omega) (by omega) (by omega)).mono ?_
  rintro e w2 ⟨rfl, M2, q2⟩
  go_wp2_with fail
  go_ret
  exact ⟨rfl, ⟨(M1.only q2 (fun b ha hb => h.apart b ha hb)).wide h.f1.top, M2.wide h.f2.top, h.apart⟩, ((Only.of_below K0).trans (q1.mono h.f1.top)).trans (q2.mono h.f2.top)⟩

end Go.Proofs.Ytljiflbaknakaaa
