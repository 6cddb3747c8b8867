/- How the laws' own structs read. -/
import Derived.Test.YtlhebjlibhpanaaDoorOpen2
import Derived.Test.YtlhebjlibhpanaaDoorEntT
import Derived.Test.YtlhebjlibhpanaaDoorLogL
import Derived.Test.YtlhebjlibhpanaaDoorOpenP
namespace Go.Proofs.YtlhebjlibhpanaaDoor
open Go.ChangeShapes Go.WideShapes Go.ChangeAt Go.RowKit Go.Deep
theorem ownKnob_none : ownKnob Tryd.prog.godebug = none := by kernel_rfl
theorem laidOut_true : laidOutB Tryd.prog = true := by kernel_rfl
section
variable {H : Type} {enc : TypeId × Value → H} {w : World} {base : Nat} {spare : Nat → Bool} {held : Bool}
theorem cellsOf_int : Tryd.prog.cellsOf 3 = 1 := by kernel_rfl
theorem cellsOf_Punch : Tryd.prog.cellsOf 125 = 2 := by kernel_rfl
instance : Inhabited Punch := ⟨⟨0, 0⟩⟩
theorem open_Punch (n : Nat) (cs : List Value) (x : DataW H × List MemPlace) (h : DataW.trod enc Tryd.prog w base spare held n 125 cs = some x) : ∃ d : Punch, cs = d.enc := by
  obtain ⟨hl, m, hf⟩ := struct_fields Tryd.underlying125 (by kernel_rfl) (by kernel_rfl) h
  obtain ⟨v0, _, h0, t0⟩ := hf 0 _ rfl
  obtain ⟨v1, _, h1, t1⟩ := hf 1 _ rfl
  obtain ⟨a0, rfl, _⟩ := cell_int Tryd.underlying3 t0
  obtain ⟨a1, rfl, _⟩ := cell_int Tryd.underlying3 t1
  exact ⟨⟨a0, a1⟩, list2 hl h0 h1⟩
theorem cellsOf_Log : Tryd.prog.cellsOf 26 = 3 := by kernel_rfl
def zeroLog : Log := ⟨⟨#[]⟩, ⟨#[]⟩, 0⟩
theorem zeroLog_upto : zeroLog.upto 9223372036854775807 := by unfold Log.upto; decide
theorem open_Log (n : Nat) (cs : List Value) (x : DataW H × List MemPlace) (h : DataW.trod enc Tryd.prog w base spare held n 26 cs = some x) : ∃ d : Log, cs = d.enc ∧ d.upto 9223372036854775807 := by
  obtain ⟨hl, m, hf⟩ := struct_fields Tryd.underlying26 (by kernel_rfl) (by kernel_rfl) h
  obtain ⟨v0, _, h0, t0⟩ := hf 0 _ rfl
  obtain ⟨v1, _, h1, t1⟩ := hf 1 _ rfl
  obtain ⟨v2, _, h2, t2⟩ := hf 2 _ rfl
  obtain ⟨a0, rfl, u0⟩ := cell_string Tryd.underlying9 t0
  obtain ⟨a1, rfl, u1⟩ := cell_string Tryd.underlying9 t1
  obtain ⟨a2, rfl, u2⟩ := cell_int Tryd.underlying3 t2
  exact ⟨⟨a0, a1, a2⟩, list3 hl h0 h1 h2, ⟨u0, u1⟩⟩
theorem cellsOf_Card : Tryd.prog.cellsOf 71 = 4 := by kernel_rfl
theorem open_Card (n : Nat) (cs : List Value) (x : DataW H × List MemPlace) (h : DataW.trod enc Tryd.prog w 0 spare held n 71 cs = some x) : ∃ d : Hd Card, cs = cardSh.enc d ∧ (Sees w 0 cardSh.is d.A d.n (cardSh.inner d.x) ∧ d.n ≤ 9223372036854775807) := by
  obtain ⟨hl, m, hf⟩ := struct_fields Tryd.underlying71 (by kernel_rfl) (by kernel_rfl) h
  obtain ⟨v0, _, h0, t0⟩ := hf 0 _ rfl
  obtain ⟨v1, _, h1, t1⟩ := hf 1 _ rfl
  obtain ⟨v2, _, h2, t2⟩ := hf 2 _ rfl
  obtain ⟨v3, _, h3, t3⟩ := hf 3 _ rfl
  obtain ⟨a0, rfl, _⟩ := cell_int Tryd.underlying3 t0
  obtain ⟨a1, rfl, _⟩ := cell_int Tryd.underlying3 t1
  obtain ⟨a2, rfl, _⟩ := cell_int Tryd.underlying3 t2
  obtain ⟨A, n, c, xs, e3, hn, hs⟩ := open_slice_enc (α := Punch) (E := Punch.enc) Tryd.underlying69 cellsOf_Punch (by decide) (fun _ => rfl) open_Punch t3
  simp only [List.cons.injEq, and_true] at e3
  subst e3
  exact ⟨⟨⟨a0, a1, a2, xs⟩, A, n, c⟩, list4 hl h0 h1 h2 h3, hs, hn⟩
theorem cellsOf_Entrant : Tryd.prog.cellsOf 73 = 5 := by kernel_rfl
theorem open_Entrant (n : Nat) (cs : List Value) (x : DataW H × List MemPlace) (h : DataW.trod enc Tryd.prog w 0 spare held n 73 cs = some x) : ∃ d : Hd Entrant, cs = entrantSh.enc d ∧ (Sees w 0 entrantSh.is d.A d.n (entrantSh.inner d.x) ∧ d.n ≤ 9223372036854775807) := by
  obtain ⟨m, us, bs, y0, y1, rfl, hl, h0, h1⟩ := struct_pair (k0 := 1) (k1 := 4) Tryd.underlying73 rfl rfl rfl rfl (by kernel_rfl) (by kernel_rfl) (by kernel_rfl) h
  obtain ⟨d, rfl, hs, hn⟩ := open_Card _ _ _ h1
  obtain ⟨v, rfl⟩ : ∃ v, us = [v] := by
    match us, hl with
    | [v], _ => exact ⟨v, rfl⟩
  obtain ⟨a, rfl, _⟩ := cell_int Tryd.underlying3 h0
  exact ⟨⟨⟨a, d.x.number, d.x.start, d.x.finish, d.x.punches⟩, d.A, d.n, d.c⟩, rfl, hs, hn⟩
theorem open_EntrantS {fuel : Nat} {cs : List Value} {x : DataW H × List MemPlace} (h : DataW.trod enc Tryd.prog w 0 spare held fuel 22 cs = some x) :
    ∃ (A : Option Addr) (n c : Nat) (ds : List Entrant), cs = [.slice A n c] ∧ n ≤ 9223372036854775807 ∧ SeesN entrantSh w 0 A n ds ∧ ∀ d ∈ ds, d.cnt ≤ 9223372036854775807 := by
  obtain ⟨A, n, c, ds, h1, h2, h3, h4⟩ := open_slice_encP (α := Hd Entrant) (Q := fun d => Sees w 0 entrantSh.is d.A d.n (entrantSh.inner d.x) ∧ d.n ≤ 9223372036854775807) ⟨⟨0, 0, 0, 0, []⟩, none, 0, 0⟩ ⟨Sees.nil _ _ _ _, by decide⟩ (E := entrantSh.enc) Tryd.underlying22 cellsOf_Entrant (by decide) (fun _ => rfl) open_Entrant h
  refine ⟨A, n, c, ds.map Hd.x, h1, h2, ⟨ds, rfl, h3, fun r hr => (h4 r hr).1⟩, fun d hd => ?_⟩
  obtain ⟨r, hr, rfl⟩ := List.mem_map.1 hd
  have h5 := (h4 r hr).1.count (by decide) (fun _ => rfl)
  have h6 := (h4 r hr).2
  unfold Entrant.cnt
  omega

theorem open_Race (n : Nat) (cs : List Value) (x : DataW H × List MemPlace) (h : DataW.trod enc Tryd.prog w 0 spare held n 24 cs = some x) :
    ∃ (t : Int) (b : Bool) (A : Option Addr) (n c : Nat) (ds : List Entrant), cs = [.int .i64 t, .bool b, .slice A n c] ∧ n ≤ 9223372036854775807 ∧ SeesN entrantSh w 0 A n ds ∧ ∀ d ∈ ds, d.cnt ≤ 9223372036854775807 := by
  obtain ⟨hl, m, hf⟩ := struct_fields Tryd.underlying24 (by kernel_rfl) (by kernel_rfl) h
  obtain ⟨v0, _, h0, t0⟩ := hf 0 _ rfl
  obtain ⟨v1, _, h1, t1⟩ := hf 1 _ rfl
  obtain ⟨v2, _, h2, t2⟩ := hf 2 _ rfl
  obtain ⟨a0, rfl, _⟩ := cell_int Tryd.underlying3 t0
  obtain ⟨a1, rfl⟩ := cell_bool Tryd.underlying4 t1
  obtain ⟨A, n, c, ds, e2, hn, hs, hk⟩ := open_EntrantS t2
  simp only [List.cons.injEq, and_true] at e2
  subst e2
  exact ⟨a0, a1, A, n, c, ds, list3 hl h0 h1 h2, hn, hs, hk⟩
theorem open_Console (n : Nat) (cs : List Value) (x : DataW H × List MemPlace) (h : DataW.trod enc Tryd.prog w 0 spare held n 28 cs = some x) :
    ∃ (t : Int) (b : Bool) (l : Log) (A : Option Addr) (n c : Nat) (ds : List Entrant), cs = [.int .i64 t, .bool b, .slice A n c, .string l.durable, .string l.pending, .int .i64 l.count] ∧ (n ≤ 9223372036854775807 ∧ (∀ d ∈ ds, d.cnt ≤ 9223372036854775807) ∧ l.upto 9223372036854775807) ∧ SeesN entrantSh w 0 A n ds := by
  obtain ⟨m, us, bs, y0, y1, rfl, -, h0, h1⟩ := struct_pair (k0 := 3) (k1 := 3) Tryd.underlying28 rfl rfl rfl rfl (by kernel_rfl) (by kernel_rfl) (by kernel_rfl) h
  obtain ⟨t, b, A, n, c, ds, rfl, hn, hs, hk⟩ := open_Race _ _ _ h0
  obtain ⟨l, rfl, hu⟩ := open_Log _ _ _ h1
  exact ⟨t, b, l, A, n, c, ds, rfl, ⟨hn, hk, hu⟩, hs⟩
end
end Go.Proofs.YtlhebjlibhpanaaDoor

