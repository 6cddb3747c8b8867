/- How the laws' own structs read. -/
import Derived.Test.YtljiflbaknakaaaOpen2
import Derived.Test.YtljiflbaknakaaaAreaT
import Derived.Test.YtljiflbaknakaaaMap
namespace Go.Proofs.Ytljiflbaknakaaa
open Go.ChangeShapes Go.WideShapes Go.ChangeAt Go.RowKit Go.Deep
theorem ownKnob_none : ownKnob Try.prog.godebug = none := by kernel_rfl
theorem laidOut_true : laidOutB Try.prog = true := by kernel_rfl
section
variable {H : Type} {enc : TypeId × Value → H} {w : World} {base : Nat} {spare : Nat → Bool} {held : Bool}
theorem cellsOf_int : Try.prog.cellsOf 3 = 1 := by kernel_rfl
theorem open_Map (n : Nat) (cs : List Value) (x : DataW H × List MemPlace) (h : DataW.trod enc Try.prog w 0 spare held n 24 cs = some x) :
    ∃ (A B : Option Addr) (n l c d : Nat) (m : MapV), cs = [.int .i64 m.width, .int .i64 m.height, .slice A n c, .slice B l d] ∧ (n ≤ 9223372036854775807 ∧ l ≤ 9223372036854775807) ∧ SeesMap w A n B l m := by
  obtain ⟨hl, k, hf⟩ := struct_fields Try.underlying24 (by kernel_rfl) (by kernel_rfl) h
  obtain ⟨v0, _, h0, t0⟩ := hf 0 _ rfl
  obtain ⟨v1, _, h1, t1⟩ := hf 1 _ rfl
  obtain ⟨v2, _, h2, t2⟩ := hf 2 _ rfl
  obtain ⟨v3, _, h3, t3⟩ := hf 3 _ rfl
  obtain ⟨a0, rfl, _⟩ := cell_int Try.underlying3 t0
  obtain ⟨a1, rfl, _⟩ := cell_int Try.underlying3 t1
  obtain ⟨A, n, c, xs, e2, hn, hs⟩ := open_ints_enc Try.underlying22 Try.underlying3 cellsOf_int t2
  obtain ⟨B, l, d, ys, e3, hn', hs'⟩ := open_ints_enc Try.underlying22 Try.underlying3 cellsOf_int t3
  simp only [List.cons.injEq, and_true] at e2 e3
  subst e2 e3
  exact ⟨A, B, n, l, c, d, ⟨a0, a1, xs, ys⟩, list4 hl h0 h1 h2 h3, ⟨hn, hn'⟩, ⟨hs, hs'⟩⟩
theorem cellsOf_Area : Try.prog.cellsOf 59 = 4 := by kernel_rfl
theorem open_Area (n : Nat) (cs : List Value) (x : DataW H × List MemPlace) (h : DataW.trod enc Try.prog w 0 spare held n 59 cs = some x) : ∃ d : Hd Area, cs = areaSh.enc d ∧ (Sees w 0 areaSh.is d.A d.n (areaSh.inner d.x) ∧ d.n ≤ 9223372036854775807) := by
  obtain ⟨hl, m, hf⟩ := struct_fields Try.underlying59 (by kernel_rfl) (by kernel_rfl) h
  obtain ⟨v0, _, h0, t0⟩ := hf 0 _ rfl
  obtain ⟨v1, _, h1, t1⟩ := hf 1 _ rfl
  obtain ⟨v2, _, h2, t2⟩ := hf 2 _ rfl
  obtain ⟨v3, _, h3, t3⟩ := hf 3 _ rfl
  obtain ⟨a0, rfl, _⟩ := cell_int Try.underlying3 t0
  obtain ⟨A, n, c, xs, e1, hn, hs⟩ := open_ints_enc Try.underlying22 Try.underlying3 cellsOf_int t1
  simp only [List.cons.injEq, and_true] at e1
  subst e1
  obtain ⟨a2, rfl, _⟩ := cell_int Try.underlying3 t2
  obtain ⟨a3, rfl, _⟩ := cell_int Try.underlying3 t3
  exact ⟨⟨⟨a0, xs, a2, a3⟩, A, n, c⟩, list4 hl h0 h1 h2 h3, hs, hn⟩
theorem open_AreaS {fuel : Nat} {cs : List Value} {x : DataW H × List MemPlace} (h : DataW.trod enc Try.prog w 0 spare held fuel 25 cs = some x) :
    ∃ (A : Option Addr) (n c : Nat) (ds : List Area), cs = [.slice A n c] ∧ n ≤ 9223372036854775807 ∧ SeesN areaSh w 0 A n ds ∧ ∀ d ∈ ds, d.cnt ≤ 9223372036854775807 := by
  obtain ⟨A, n, c, ds, h1, h2, h3, h4⟩ := open_slice_encP (α := Hd Area) (Q := fun d => Sees w 0 areaSh.is d.A d.n (areaSh.inner d.x) ∧ d.n ≤ 9223372036854775807) ⟨⟨0, [], 0, 0⟩, none, 0, 0⟩ ⟨Sees.nil _ _ _ _, by decide⟩ (E := areaSh.enc) Try.underlying25 cellsOf_Area (by decide) (fun _ => rfl) open_Area h
  refine ⟨A, n, c, ds.map Hd.x, h1, h2, ⟨ds, rfl, h3, fun r hr => (h4 r hr).1⟩, fun d hd => ?_⟩
  obtain ⟨r, hr, rfl⟩ := List.mem_map.1 hd
  have h5 := (h4 r hr).1.icount
  have h6 := (h4 r hr).2
  unfold Area.cnt
  omega
theorem open_AreaV (n : Nat) (cs : List Value) (x : DataW H × List MemPlace) (h : DataW.trod enc Try.prog w 0 spare held n 59 cs = some x) :
    ∃ (A : Option Addr) (n c : Nat) (d : Area), cs = [.int .i64 d.id, .slice A n c, .int .i64 d.first, .int .i64 d.last] ∧ n ≤ 9223372036854775807 ∧ Sees w 0 1 A n (ints d.cells) := by
  obtain ⟨d, h1, h2, h3⟩ := open_Area n cs x h
  exact ⟨d.A, d.n, d.c, d.x, h1, h3, h2⟩
end
end Go.Proofs.Ytljiflbaknakaaa
