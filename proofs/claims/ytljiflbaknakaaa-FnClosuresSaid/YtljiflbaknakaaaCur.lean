/- The reference's cursor over a code: what its draws return and what they leave. -/
import Derived.Test.YtljiflbaknakaaaBoxed
import Derived.Test.YtljiflbaknakaaaOwn
import Derived.Laws.BitsAllLaws
namespace Go.Proofs.Ytljiflbaknakaaa
open Go.RowKit

/-- The code's bytes: seen, in a block that is older than block g. -/
def CodeAt (w : World) (g : Nat) (A : Option Addr) (m : Nat) : Prop :=
  0 < m → ∃ b off, A = some ⟨b, off, none⟩ ∧ b < g ∧ ∀ j, j < m → ∃ u : Int, w.cell? ⟨b, off + j, none⟩ = some (.int .u8 u) ∧ 0 ≤ u ∧ u ≤ 255
theorem CodeAt.only {w w' : World} {g m : Nat} {A : Option Addr} (h : CodeAt w g A m) (hg : g < w.heap.size) {S : Nat → Prop} (ho : Only S w w') (hS : ∀ b, S b → g ≤ b) : CodeAt w' g A m := fun hm => by
  obtain ⟨b, off, h1, h2, h4⟩ := h hm
  refine ⟨b, off, h1, h2, fun j hj => ?_⟩
  obtain ⟨u, h5, h6⟩ := h4 j hj
  exact ⟨u, (cell_only ho (fun hb => by have := hS b hb; omega) (by omega)).trans h5, h6⟩
/-- Block g is a cursor that has been drawn from at most n times. -/
structure Cur (w : World) (g n : Nat) : Prop where
  ex : ∃ (A : Option Addr) (m c p : Nat) (s : Int), Blk w g 101 [.slice A m c, .int .i64 (p : Int), .int .u64 s] ∧ p ≤ n ∧ m ≤ 1000000 ∧ CodeAt w g A m
theorem Cur.more {w : World} {g n n' : Nat} (h : Cur w g n) (hn : n ≤ n') : Cur w g n' := by
  obtain ⟨A, m, c, p, s, h1, h2, h3⟩ := h.ex
  exact ⟨A, m, c, p, s, h1, by omega, h3⟩
theorem Cur.lt {w : World} {g n : Nat} (h : Cur w g n) : g < w.heap.size := by
  obtain ⟨A, m, c, p, s, h1, _⟩ := h.ex
  exact h1.lt
theorem Cur.next {w w' : World} {g n : Nat} (h : Cur w g n) (hb : Below w.heap.size w w') : Cur w' g n := by
  obtain ⟨A, m, c, p, s, h1, h2, h3, h4⟩ := h.ex
  exact ⟨A, m, c, p, s, h1.next hb, h2, h3, CodeAt.only h4 h1.lt (S := fun _ => False) (.of_below hb) (fun _ h => h.elim)⟩
/-- A number from 0 to hi, drawn. -/
def Drawn (w : World) (g n hi : Nat) (e : Ending) (w' : World) : Prop := ∃ r : Nat, e = .returned (.int .i64 (r : Int)) ∧ r ≤ hi ∧ Cur w' g n ∧ Only (fun b => b = g) w w'

theorem cur_step {w : World} {g n m c p : Nat} {A : Option Addr} {s : Int} (hB : Blk w g 101 [.slice A m c, .int .i64 (p : Int), .int .u64 s]) (hC : CodeAt w g A m) (hp : p ≤ n) (hm : m ≤ 1000000) (q q' : Nat) (s' : Int) :
    Cur ((((w.drewN q).setCell ⟨g, 1, none⟩ (.int .i64 ((p : Int) + 1))).setCell ⟨g, 2, none⟩ (.int .u64 s')).drewN q') g (n + 1) ∧ Only (fun b => b = g) w ((((w.drewN q).setCell ⟨g, 1, none⟩ (.int .i64 ((p : Int) + 1))).setCell ⟨g, 2, none⟩ (.int .u64 s')).drewN q') := by
  have ho : Only (fun b => b = g) w ((((w.drewN q).setCell ⟨g, 1, none⟩ (.int .i64 ((p : Int) + 1))).setCell ⟨g, 2, none⟩ (.int .u64 s')).drewN q') :=
    (only_set (only_set ((Only.refl _ _).quiet (Quiet.mk w q)) 1 _) 2 _).quiet (Quiet.mk _ q')
  refine ⟨⟨A, m, c, p + 1, s', ?_, by omega, hm, CodeAt.only hC hB.lt ho (fun b (hb : b = g) => by omega)⟩, ho⟩
  exact ((hB.drewN q).set_ 1 (.int .i64 ((p : Int) + 1))).set_ 2 (.int .u64 s')
theorem draw_byte (x : Int) : ∃ r : Nat, wrap64 (bits .and .u64 (IntKind.u64.wrap x / 1099511627776) 255) = (r : Int) ∧ r ≤ 255 := by
  have h0 : IntKind.u64.wrap x = x % 18446744073709551616 := by simp [IntKind.wrap, IntKind.bits, IntKind.signed]
  have h1 : 0 ≤ x % 18446744073709551616 := by omega
  have h2 : x % 18446744073709551616 < 18446744073709551616 := by omega
  rw [h0]
  generalize x % 18446744073709551616 = y at *
  have h3 : 0 ≤ y / 1099511627776 := by omega
  have h4 : y / 1099511627776 < 18446744073709551616 := by omega
  rw [u64_and _ _ h3 h4 (by decide) (by decide)]
  have h5 : (y / 1099511627776).toNat &&& (255 : Int).toNat ≤ 255 := Nat.and_le_right
  refine ⟨_, ?_, h5⟩
  generalize (y / 1099511627776).toNat &&& (255 : Int).toNat = r at *
  unfold wrap64
  omega

set_option maxRecDepth 100000 in
set_option maxHeartbeats 1000000 in
theorem next_any (g n : Nat) (w : World) (h : Cur w g n) (hn : n ≤ 1000000) :
    Calls Try.prog 115 #[.pointer (some ⟨g, 0, none⟩)] w (Drawn w g (n + 1) 255) := by
  obtain ⟨A, m, c, p, s, hB, hp, hm, hC⟩ := h.ex
  by_cases hlt : p < m
  · obtain ⟨b, off, rfl, hbg, hcell⟩ := hC (by omega)
    have hne : b ≠ g := by omega
    have hb : b < w.heap.size := by have := hB.lt; omega
    obtain ⟨u, hu, u0, u1⟩ := hcell p hlt
    have c0 := hB.cell
    have z0 := hB.frozen
    have hz : ¬ ((p : Int) < 0) := by omega
    have hle : (p : Int) + 1 ≤ (m : Int) := by omega
    have HC := Lib.hid hC
    clear hcell hC
    go_enter Try.func115, Try.ntmps115
    go_wp2_with fail
    go_quiet (fail)
    go_wp2_with fail
    go_quiet (fail)
    go_wp2_with fail
    go_quiet (fail)
    go_wp2_with fail
    go_ret
    exact ⟨u.toNat, ret_int (by omega), by omega, cur_step hB HC.out hp hm _ _ _⟩
  · have c0 := hB.cell
    have z0 := hB.frozen
    have hle : ¬ (p : Int) + 1 ≤ (m : Int) := by omega
    have hlt' : ¬ (p : Int) < (m : Int) := by omega
    have HC := Lib.hid hC
    clear hC hlt
    go_enter Try.func115, Try.ntmps115
    go_wp2_with fail
    go_quiet (fail)
    go_wp2_with fail
    go_quiet (fail)
    go_wp2_with fail
    go_ret
    obtain ⟨r, hr, hr'⟩ := draw_byte (IntKind.u64.wrap (IntKind.u64.wrap (s * 6364136223846793005)) + 938938)
    exact ⟨r, ret_int hr, hr', cur_step hB HC.out hp hm _ _ _⟩

set_option maxHeartbeats 1000000 in
/-- pick: a number below n (0 if n is at most 1). -/
theorem pick_any (k : Int) (g n : Nat) (w : World) (h : Cur w g n) (hn : n ≤ 999000) (h0 : 1 ≤ k) (h1 : k ≤ 1000000000) :
    Calls Try.prog 96 #[.pointer (some ⟨g, 0, none⟩), .int .i64 k] w (Drawn w g (n + 2) (k.toNat - 1)) := by
  by_cases hk : k ≤ 1
  · go_enter Try.func96, Try.ntmps96
    go_wp2_with fail
    go_ret
    exact ⟨0, rfl, Nat.zero_le _, h.more (by omega), Only.refl _ _⟩
  · go_enter Try.func96, Try.ntmps96
    go_wp2_with fail
    refine (next_any g n w h (by omega)).mono ?_
    rintro e w1 ⟨r, rfl, hr, c1, o1⟩
    have e1 : (r : Int) % k < k := Int.emod_lt_of_pos _ (by omega)
    have e0 : 0 ≤ (r : Int) % k := Int.emod_nonneg _ (by omega)
    by_cases hk2 : 200 < k
    · go_wp2_with fail
      refine (next_any g (n + 1) w1 c1 (by omega)).mono ?_
      rintro e w2 ⟨r2, rfl, hr2, c2, o2⟩
      have f1 : ((r : Int) * 256 + (r2 : Int)) % k < k := Int.emod_lt_of_pos _ (by omega)
      have f0 : 0 ≤ ((r : Int) * 256 + (r2 : Int)) % k := Int.emod_nonneg _ (by omega)
      go_wp2_with fail
      go_ret
      exact ⟨(((r : Int) * 256 + (r2 : Int)) % k).toNat, ret_int (by omega), by omega, c2, o1.trans o2⟩
    · go_wp2_with fail
      go_ret
      exact ⟨((r : Int) % k).toNat, ret_int (by omega), by omega, c1.more (by omega), o1⟩

end Go.Proofs.Ytljiflbaknakaaa
