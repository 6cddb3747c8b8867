/- How the laws' own structs read. -/
import Derived.Test.YtjcmlloglnkbfaaOpen
import Derived.Test.YtjcmlloglnkbfaaHelp2
import Derived.Test.YtjcmlloglnkbfaaMap
namespace Go.Proofs.Ytjcmlloglnkbfaa
open Go.ChangeShapes Go.WideShapes Go.ChangeAt Go.RowKit Go.Deep
theorem ownKnob_none : ownKnob Try.prog.godebug = none := by kernel_rfl
theorem laidOut_true : laidOutB Try.prog = true := by kernel_rfl
section
variable {H : Type} {enc : TypeId × Value → H} {w : World} {base : Nat} {spare : Nat → Bool} {held : Bool}
theorem cellsOf_int : Try.prog.cellsOf 3 = 1 := by kernel_rfl
theorem cellsOf_Missing : Try.prog.cellsOf 26 = 4 := by kernel_rfl
instance : Inhabited Missing := ⟨⟨0, 0, 0, 0⟩⟩
theorem open_Missing (n : Nat) (cs : List Value) (x : DataW H × List MemPlace) (h : DataW.trod enc Try.prog w base spare held n 26 cs = some x) : ∃ d : Missing, cs = d.enc := by
  obtain ⟨hl, m, hf⟩ := struct_fields Try.underlying26 (by kernel_rfl) (by kernel_rfl) h
  obtain ⟨v0, _, h0, t0⟩ := hf 0 _ rfl
  obtain ⟨v1, _, h1, t1⟩ := hf 1 _ rfl
  obtain ⟨v2, _, h2, t2⟩ := hf 2 _ rfl
  obtain ⟨v3, _, h3, t3⟩ := hf 3 _ rfl
  obtain ⟨a0, rfl, _⟩ := cell_int Try.underlying3 t0
  obtain ⟨a1, rfl, _⟩ := cell_int Try.underlying3 t1
  obtain ⟨a2, rfl, _⟩ := cell_int Try.underlying3 t2
  obtain ⟨a3, rfl, _⟩ := cell_int Try.underlying3 t3
  exact ⟨⟨a0, a1, a2, a3⟩, list4 hl h0 h1 h2 h3⟩
theorem cellsOf_Sector : Try.prog.cellsOf 89 = 2 := by kernel_rfl
instance : Inhabited Sector := ⟨⟨0, 0⟩⟩
theorem open_Sector (n : Nat) (cs : List Value) (x : DataW H × List MemPlace) (h : DataW.trod enc Try.prog w base spare held n 89 cs = some x) : ∃ d : Sector, cs = d.enc := by
  obtain ⟨hl, m, hf⟩ := struct_fields Try.underlying89 (by kernel_rfl) (by kernel_rfl) h
  obtain ⟨v0, _, h0, t0⟩ := hf 0 _ rfl
  obtain ⟨v1, _, h1, t1⟩ := hf 1 _ rfl
  obtain ⟨a0, rfl, _⟩ := cell_int Try.underlying3 t0
  obtain ⟨a1, rfl, _⟩ := cell_int Try.underlying3 t1
  exact ⟨⟨a0, a1⟩, list2 hl h0 h1⟩
theorem open_Map (n : Nat) (cs : List Value) (x : DataW H × List MemPlace) (h : DataW.trod enc Try.prog w 0 spare held n 24 cs = some x) :
    ∃ (A B : Option Addr) (n l c d : Nat) (m : MapV), cs = [.int .i64 m.width, .int .i64 m.height, .slice A n c, .slice B l d] ∧ (n ≤ 9223372036854775807 ∧ l ≤ 9223372036854775807) ∧ SeesMap w A n B l m := by
  obtain ⟨hl, k, hf⟩ := struct_fields Try.underlying24 (by kernel_rfl) (by kernel_rfl) h
  obtain ⟨v0, _, h0, t0⟩ := hf 0 _ rfl
  obtain ⟨v1, _, h1, t1⟩ := hf 1 _ rfl
  obtain ⟨v2, _, h2, t2⟩ := hf 2 _ rfl
  obtain ⟨v3, _, h3, t3⟩ := hf 3 _ rfl
  obtain ⟨a0, rfl, _⟩ := cell_int Try.underlying3 t0
  obtain ⟨a1, rfl, _⟩ := cell_int Try.underlying3 t1
  obtain ⟨A, n, c, xs, e2, hn, hs⟩ := open_ints_enc Try.underlying22 Try.underlying3 cellsOf_int t2
  obtain ⟨B, l, d, ys, e3, hn', hs'⟩ := open_ints_enc Try.underlying22 Try.underlying3 cellsOf_int t3
  simp only [List.cons.injEq, and_true] at e2 e3
  subst e2 e3
  exact ⟨A, B, n, l, c, d, ⟨a0, a1, xs, ys⟩, list4 hl h0 h1 h2 h3, ⟨hn, hn'⟩, ⟨hs, hs'⟩⟩
end
end Go.Proofs.Ytjcmlloglnkbfaa
