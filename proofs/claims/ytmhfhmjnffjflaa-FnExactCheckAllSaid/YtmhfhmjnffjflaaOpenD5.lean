/- How the laws' own structs read. -/
import Derived.Test.YtmhfhmjnffjflaaOpen2
import Derived.Test.YtmhfhmjnffjflaaDeskT
namespace Go.Proofs.Ytmhfhmjnffjflaa
open Go.ChangeShapes Go.WideShapes Go.ChangeAt Go.RowKit Go.Deep
theorem ownKnob_none : ownKnob Try.prog.godebug = none := by kernel_rfl
theorem laidOut_true : laidOutB Try.prog = true := by kernel_rfl
section
variable {H : Type} {enc : TypeId × Value → H} {w : World} {base : Nat} {spare : Nat → Bool} {held : Bool}
theorem cellsOf_int : Try.prog.cellsOf 3 = 1 := by kernel_rfl
theorem cellsOf_Punch : Try.prog.cellsOf 89 = 2 := by kernel_rfl
instance : Inhabited Punch := ⟨⟨0, 0⟩⟩
theorem open_Punch (n : Nat) (cs : List Value) (x : DataW H × List MemPlace) (h : DataW.trod enc Try.prog w base spare held n 89 cs = some x) : ∃ d : Punch, cs = d.enc := by
  obtain ⟨hl, m, hf⟩ := struct_fields Try.underlying89 (by kernel_rfl) (by kernel_rfl) h
  obtain ⟨v0, _, h0, t0⟩ := hf 0 _ rfl
  obtain ⟨v1, _, h1, t1⟩ := hf 1 _ rfl
  obtain ⟨a0, rfl, _⟩ := cell_int Try.underlying3 t0
  obtain ⟨a1, rfl, _⟩ := cell_int Try.underlying3 t1
  exact ⟨⟨a0, a1⟩, list2 hl h0 h1⟩
theorem cellsOf_DeskRow : Try.prog.cellsOf 73 = 3 := by kernel_rfl
instance : Inhabited DeskRow := ⟨⟨0, 0, 0⟩⟩
theorem open_DeskRow (n : Nat) (cs : List Value) (x : DataW H × List MemPlace) (h : DataW.trod enc Try.prog w base spare held n 73 cs = some x) : ∃ d : DeskRow, cs = d.enc := by
  obtain ⟨hl, m, hf⟩ := struct_fields Try.underlying73 (by kernel_rfl) (by kernel_rfl) h
  obtain ⟨v0, _, h0, t0⟩ := hf 0 _ rfl
  obtain ⟨v1, _, h1, t1⟩ := hf 1 _ rfl
  obtain ⟨v2, _, h2, t2⟩ := hf 2 _ rfl
  obtain ⟨a0, rfl, _⟩ := cell_int Try.underlying3 t0
  obtain ⟨a1, rfl, _⟩ := cell_int Try.underlying3 t1
  obtain ⟨a2, rfl, _⟩ := cell_int Try.underlying3 t2
  exact ⟨⟨a0, a1, a2⟩, list3 hl h0 h1 h2⟩
theorem cellsOf_Card : Try.prog.cellsOf 56 = 4 := by kernel_rfl
theorem open_Card (n : Nat) (cs : List Value) (x : DataW H × List MemPlace) (h : DataW.trod enc Try.prog w 0 spare held n 56 cs = some x) : ∃ d : Hd Card, cs = cardSh.enc d ∧ (Sees w 0 cardSh.is d.A d.n (cardSh.inner d.x) ∧ d.n ≤ 9223372036854775807) := by
  obtain ⟨hl, m, hf⟩ := struct_fields Try.underlying56 (by kernel_rfl) (by kernel_rfl) h
  obtain ⟨v0, _, h0, t0⟩ := hf 0 _ rfl
  obtain ⟨v1, _, h1, t1⟩ := hf 1 _ rfl
  obtain ⟨v2, _, h2, t2⟩ := hf 2 _ rfl
  obtain ⟨v3, _, h3, t3⟩ := hf 3 _ rfl
  obtain ⟨a0, rfl, _⟩ := cell_int Try.underlying3 t0
  obtain ⟨a1, rfl, _⟩ := cell_int Try.underlying3 t1
  obtain ⟨a2, rfl, _⟩ := cell_int Try.underlying3 t2
  obtain ⟨A, n, c, xs, e3, hn, hs⟩ := open_slice_enc (α := Punch) (E := Punch.enc) Try.underlying54 cellsOf_Punch (by decide) (fun _ => rfl) open_Punch t3
  simp only [List.cons.injEq, and_true] at e3
  subst e3
  exact ⟨⟨⟨a0, a1, a2, xs⟩, A, n, c⟩, list4 hl h0 h1 h2 h3, hs, hn⟩
theorem open_CardS {fuel : Nat} {cs : List Value} {x : DataW H × List MemPlace} (h : DataW.trod enc Try.prog w 0 spare held fuel 23 cs = some x) :
    ∃ (A : Option Addr) (n c : Nat) (ds : List Card), cs = [.slice A n c] ∧ n ≤ 9223372036854775807 ∧ SeesN cardSh w 0 A n ds ∧ ∀ d ∈ ds, d.cnt ≤ 9223372036854775807 := by
  obtain ⟨A, n, c, ds, h1, h2, h3, h4⟩ := open_slice_encP (α := Hd Card) (Q := fun d => Sees w 0 cardSh.is d.A d.n (cardSh.inner d.x) ∧ d.n ≤ 9223372036854775807) ⟨⟨0, 0, 0, []⟩, none, 0, 0⟩ ⟨Sees.nil _ _ _ _, by decide⟩ (E := cardSh.enc) Try.underlying23 cellsOf_Card (by decide) (fun _ => rfl) open_Card h
  refine ⟨A, n, c, ds.map Hd.x, h1, h2, ⟨ds, rfl, h3, fun r hr => (h4 r hr).1⟩, fun d hd => ?_⟩
  obtain ⟨r, hr, rfl⟩ := List.mem_map.1 hd
  have h5 := (h4 r hr).1.count (by decide) (fun _ => rfl)
  have h6 := (h4 r hr).2
  unfold Card.cnt
  omega
theorem open_Desk (n : Nat) (cs : List Value) (x : DataW H × List MemPlace) (h : DataW.trod enc Try.prog w 0 spare held n 26 cs = some x) :
    ∃ (H : DeskH) (d : DeskV), cs = [.slice H.A0 H.n0 H.c0, .slice H.A1 H.n1 H.c1, .slice H.A2 H.n2 H.c2, .slice H.A3 H.n3 H.c3, .slice H.A4 H.n4 H.c4] ∧ DeskFit 9223372036854775807 H d ∧ SeesDesk w 0 H d := by
  obtain ⟨hl, m, hf⟩ := struct_fields Try.underlying26 (by kernel_rfl) (by kernel_rfl) h
  obtain ⟨v0, _, h0, t0⟩ := hf 0 _ rfl
  obtain ⟨v1, _, h1, t1⟩ := hf 1 _ rfl
  obtain ⟨v2, _, h2, t2⟩ := hf 2 _ rfl
  obtain ⟨v3, _, h3, t3⟩ := hf 3 _ rfl
  obtain ⟨v4, _, h4, t4⟩ := hf 4 _ rfl
  obtain ⟨A0, n0, c0, x0, e0, hn0, hs0⟩ := open_ints_enc Try.underlying22 Try.underlying3 cellsOf_int t0
  simp only [List.cons.injEq, and_true] at e0
  subst e0
  obtain ⟨A1, n1, c1, x1, e1, hn1, hs1⟩ := open_ints_enc Try.underlying22 Try.underlying3 cellsOf_int t1
  simp only [List.cons.injEq, and_true] at e1
  subst e1
  obtain ⟨A2, n2, c2, x2, e2, hn2, hs2, hk2⟩ := open_CardS t2
  simp only [List.cons.injEq, and_true] at e2
  subst e2
  obtain ⟨A3, n3, c3, x3, e3, hn3, hs3⟩ := open_slice_enc (α := DeskRow) (E := DeskRow.enc) Try.underlying24 cellsOf_DeskRow (by decide) (fun _ => rfl) open_DeskRow t3
  simp only [List.cons.injEq, and_true] at e3
  subst e3
  obtain ⟨A4, n4, c4, x4, e4, hn4, hs4, hk4⟩ := open_CardS t4
  simp only [List.cons.injEq, and_true] at e4
  subst e4
  exact ⟨⟨A0, n0, c0, A1, n1, c1, A2, n2, c2, A3, n3, c3, A4, n4, c4⟩, ⟨x0, x1, x2, x3, x4⟩, list5 hl h0 h1 h2 h3 h4, ⟨hn0, hn1, hn2, hk2, hn3, hn4, hk4⟩, ⟨hs0, hs1, hs2, hs3, hs4⟩⟩
end
end Go.Proofs.Ytmhfhmjnffjflaa
