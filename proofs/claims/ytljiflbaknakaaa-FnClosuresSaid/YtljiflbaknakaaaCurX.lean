/- Words on the cursor: codes, new cursors, what is kept. -/
import Derived.Test.YtljiflbaknakaaaCur2
namespace Go.Proofs.Ytljiflbaknakaaa
open Go.RowKit

theorem only_new {S : Nat → Prop} {a w : World} (h : Only S a w) {p : Addr} (hp : a.heap.size ≤ p.block) (u : Value) : Only S a (w.setCell p u) :=
  ⟨h.os, h.tape, h.output, by simpa [World.setCell] using h.size, fun k hk hS => (Below.heap_setCell _ _ _ _ (fun e => by omega)).trans (h.block k hk hS)⟩
/-- A new block. -/
theorem only_alloc {S : Nat → Prop} {a w : World} (h : Only S a w) (o : Obj) : Only S a (w.alloc o) := h.then_ ((Below.refl _ _).alloc (Nat.le_refl _) o)
theorem Cur.keep {w w' : World} {g n : Nat} {S : Nat → Prop} (h : Cur w g n) (ho : Only S w w') (hg : ¬ S g) (hS : ∀ b, S b → g ≤ b) : Cur w' g n := by
  obtain ⟨A, m, c, p, s, h1, h2, h3, h4⟩ := h.ex
  exact ⟨A, m, c, p, s, h1.only ho hg, h2, h3, CodeAt.only h4 h1.lt ho hS⟩
/-- A code: bytes that are seen. -/
def CodeIn (w : World) (A : Option Addr) (m : Nat) : Prop :=
  0 < m → ∃ b off, A = some ⟨b, off, none⟩ ∧ b < w.heap.size ∧ ∀ j, j < m → ∃ u : Int, w.cell? ⟨b, off + j, none⟩ = some (.int .u8 u) ∧ 0 ≤ u ∧ u ≤ 255
/-- A new cursor, some blocks behind the code. -/
theorem cur_new {w w' : World} {A : Option Addr} {m c g : Nat} (h : CodeIn w A m) (hm : m ≤ 1000000) (hb : Below w.heap.size w w') (hg : w.heap.size ≤ g) (hB : Blk w' g 101 [.slice A m c, .int .i64 0, .int .u64 0]) : Cur w' g 0 :=
  ⟨⟨A, m, c, 0, 0, hB, Nat.le_refl _, hm, fun h0 => by
    obtain ⟨b, off, h1, h2, h3⟩ := h h0
    refine ⟨b, off, h1, by omega, fun j hj => ?_⟩
    obtain ⟨u, h4, h5⟩ := h3 j hj
    exact ⟨u, (hb.cell (p := ⟨b, off + j, none⟩) h2).trans h4, h5⟩⟩⟩
theorem CodeIn.next {w w' : World} {A : Option Addr} {m : Nat} (h : CodeIn w A m) (hb : Below w.heap.size w w') : CodeIn w' A m := fun h0 => by
  obtain ⟨b, off, h1, h2, h3⟩ := h h0
  refine ⟨b, off, h1, Nat.lt_of_lt_of_le h2 hb.size, fun j hj => ?_⟩
  obtain ⟨u, h4, h5⟩ := h3 j hj
  exact ⟨u, (hb.cell (p := ⟨b, off + j, none⟩) h2).trans h4, h5⟩
/-- among over a piece of a list -/
theorem among_cut (g n b m c : Nat) (t : TypeId) (L : List Int) (w : World) (hB : Blk w b t (ints L)) (hne : b ≠ g) (h : Cur w g n) (hn : n ≤ 999000) (hL : m ≤ L.length) (h0 : 1 ≤ m) (h1 : m ≤ 1000) :
    Calls Try.prog 99 #[.pointer (some ⟨g, 0, none⟩), .slice (some ⟨b, 0, none⟩) m c] w (DrawnI w g (n + 2) (· ∈ L)) := by
  have HL := Lib.hid hL
  clear hL
  go_enter Try.func99, Try.ntmps99
  go_wp2_with fail
  refine (pick_any m g n w h hn (by omega) (by omega)).mono ?_
  rintro e w1 ⟨r, rfl, hr, c1, o1⟩
  have hr1 : r < m := by simp at hr; omega
  have hr2 : (r : Int) < (m : Int) := by omega
  have hr3 : r < L.length := Nat.lt_of_lt_of_le hr1 HL.out
  have hc : w1.cell? ⟨b, r, none⟩ = some (.int .i64 L[r]) := by
    rw [(hB.only o1 hne).cell r]
    exact ints_get L r hr3
  clear hr
  go_wp2_with fail
  go_ret
  exact ⟨_, rfl, List.getElem_mem hr3, c1, o1⟩

end Go.Proofs.Ytljiflbaknakaaa
