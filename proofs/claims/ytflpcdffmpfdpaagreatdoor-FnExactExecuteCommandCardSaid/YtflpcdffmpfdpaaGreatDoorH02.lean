/- Joined texts of this proof: Open, Open2, OpenP, OpenG, DoorK. -/
import Derived.ProofKit
import Derived.OpenShut
import Derived.ShutString
import Derived.ChangeOld
import Derived.Below
import Derived.Lib.SmallJoins
import Derived.Deep.Slices
import Derived.Deep.Fields
import Derived.JoinedTies
import Derived.Deep.DeepHandedRow
import Derived.JoinedCond
import Derived.LaidMore
import Derived.Lib.LaidTab
import Derived.SevenTiedAt
import Derived.Stop.Joined
import Derived.Stop.LaidErr
import Derived.Lay
import Derived.Test.YtflpcdffmpfdpaaGreatDoorRows
import Derived.Test.YtflpcdffmpfdpaaGreatDoorB01
import Derived.Test.YtflpcdffmpfdpaaGreatDoorB02
import Derived.Test.YtflpcdffmpfdpaaGreatDoorB13
import Derived.Test.YtflpcdffmpfdpaaGreatDoorT01
import Derived.Test.YtflpcdffmpfdpaaGreatDoorT02
set_option maxRecDepth 100000
set_option maxHeartbeats 8000000
namespace Go.Proofs.YtflpcdffmpfdpaaGreatDoor
open Go.ChangeShapes Go.WideShapes Go.ChangeAt Go.RowKit Go.Deep

section
variable {H : Type} {enc : TypeId × Value → H} {P : Program} {w : World} {base : Nat} {spare : Nat → Bool} {held : Bool}

theorem jq7 {α : Type} [Inhabited α] {E : α → List Value} {s : Nat} {t e : TypeId} {fuel : Nat} {cs : List Value} {x : DataW H × List MemPlace}
    (ht : P.underlying t = some (.slice e)) (hC : P.cellsOf e = s) (hs : 0 < s) (hlen : ∀ d, (E d).length = s)
    (helem : ∀ n cs x, DataW.trod enc P w base spare held n e cs = some x → ∃ d : α, cs = E d)
    (h : DataW.trod enc P w base spare held fuel t cs = some x) :
    ∃ (A : Option Addr) (n c : Nat) (ds : List α), cs = [.slice A n c] ∧ n ≤ 9223372036854775807 ∧ Sees w base s A n (ds.flatMap E) := by
  rcases open_slice ht h with ⟨hcs, _⟩ | ⟨a, len, cap, m, n, D, Pl, hcs, hb, hl, hm, hmm, hx, hi⟩
  · exact ⟨none, 0, 0, [], hcs, by omega, Sees.nil _ _ _ _⟩
  · have hlm : len ≤ m := by rw [hmm]; split <;> omega
    have hex : ∀ i, i < len → ∃ d : α, ∀ j u, (E d)[j]? = some u → w.cell? (a.add (i * s + j)) = some u := by
      intro i hil
      obtain ⟨cs', hc, ht'⟩ := hi i (by omega)
      obtain ⟨d, rfl⟩ := helem _ _ _ ht'
      obtain ⟨_, hcl, hat⟩ := World.cells?_some hc
      refine ⟨d, fun j u hu => ?_⟩
      have hj : j < (E d).length := (List.getElem?_eq_some_iff.1 hu).1
      rw [← hu, ← hat j (by rw [← hcl]; exact hj), hC, Go.Deep.add_add]
    obtain ⟨f, hf⟩ := choose_lt hex
    have hl2 : ((List.range len).map f).length = len := by simp
    refine ⟨some a, len, cap, (List.range len).map f, hcs, by unfold maxLen at hm; omega, ?_, fun hn => ?_⟩
    · rw [jak _ (fun d _ => hlen d), hl2]
    · obtain ⟨b, off, spot⟩ := a
      have hlie : ∀ j u, (((List.range len).map f).flatMap E)[j]? = some u → w.cell? ((⟨b, off, spot⟩ : Addr).add j) = some u := by
        intro j u hu
        have hj := (List.getElem?_eq_some_iff.1 hu).1
        rw [jak _ (fun d _ => hlen d), hl2] at hj
        have hq : j / s < len := Nat.div_lt_of_lt_mul (by rw [Nat.mul_comm]; exact hj)
        have hr : j % s < s := Nat.mod_lt _ hs
        have hjj : j / s * s + j % s = j := by rw [Nat.mul_comm]; exact Nat.div_add_mod j s
        have h1 := jds (f := E) ((List.range len).map f) (fun d _ => hlen d) (j / s) (j % s) (by rw [hl2]; exact hq) hr
        rw [hjj, hu] at h1
        have h2 := hf (j / s) hq (j % s) u (by simpa using h1.symm)
        rwa [hjj] at h2
      have h0 : 0 < (((List.range len).map f).flatMap E).length := by
        rw [jak _ (fun d _ => hlen d), hl2]
        exact Nat.mul_pos hn hs
      have hc0 := hlie 0 _ (List.getElem?_eq_getElem h0)
      have hsp : spot = none := by simpa [Addr.add] using World.cell?_spot hc0
      subst hsp
      refine ⟨b, off, rfl, hb, by simpa [Addr.add] using World.block_lt_of_cell? w _ hc0, fun j u hu => ?_⟩
      have hadd : (⟨b, off, none⟩ : Addr).add j = ⟨b, off + j, none⟩ := by unfold Addr.add; split <;> simp_all
      have := hlie j u hu
      rwa [hadd] at this

theorem jq0 {t : TypeId} {fs : Array Field} {fuel : Nat} {cs : List Value} {x : DataW H × List MemPlace} (hs : P.underlying t = some (.struct fs)) (hone : oneCellFields P fs = true) (hC : P.cellsOf t = fs.size)
    (h : DataW.trod enc P w base spare held fuel t cs = some x) :
    cs.length = fs.size ∧ ∃ n, ∀ (i : Nat) (f : Field), fs[i]? = some f → ∃ (v : Value) (y : DataW H × List MemPlace), cs[i]? = some v ∧ DataW.trod enc P w base spare held n f.type [v] = some y := by
  obtain ⟨xs, m, _, _, hcl, hl, hf⟩ := DataW.trod_struct hs h
  rw [hC] at hcl
  refine ⟨hcl, m, fun i f hi => ?_⟩
  obtain ⟨ho, hk⟩ := hone_of hone i f hi
  have hil : i < fs.size := (Array.getElem?_eq_some_iff.1 hi).1
  have h1 := hf i f hi
  rw [ho, hk, List.getElem?_eq_getElem (by rw [hl]; exact hil)] at h1
  have hone' : (cs.drop i).take 1 = [cs[i]'(by omega)] := by
    rw [List.drop_eq_getElem_cons (by omega)]
    rfl
  rw [hone'] at h1
  exact ⟨_, _, List.getElem?_eq_getElem (by omega), h1⟩
theorem jq2 {t n : Nat} {v : Value} {y : DataW H × List MemPlace} (ht : P.underlying t = some (.int .i64)) (h : DataW.trod enc P w base spare held n t [v] = some y) : ∃ z : Int, v = .int .i64 z ∧ (Lit.int .i64 z).wf = true := by
  obtain ⟨z, hz, _, hw⟩ := DataW.trod_int ht h
  exact ⟨z, by simpa using hz, hw⟩
theorem jrc {t n : Nat} {v : Value} {y : DataW H × List MemPlace} (ht : P.underlying t = some .string) (h : DataW.trod enc P w base spare held n t [v] = some y) : ∃ z : ByteArray, v = .string z ∧ z.size ≤ maxLen := by
  obtain ⟨z, hz, _, hw⟩ := DataW.trod_string ht h
  exact ⟨z, by simpa using hz, hw⟩
theorem jsk {t n : Nat} {v : Value} {y : DataW H × List MemPlace} (ht : P.underlying t = some .bool) (h : DataW.trod enc P w base spare held n t [v] = some y) : ∃ z : Bool, v = .bool z := by
  obtain ⟨z, hz, _⟩ := DataW.trod_bool ht h
  exact ⟨z, by simpa using hz⟩
end
theorem list2 {α : Type} {l : List α} {a b : α} (hl : l.length = 2) (h0 : l[0]? = some a) (h1 : l[1]? = some b) : l = [a, b] := by
  match l, hl with
  | [_, _], _ => simp_all
theorem list3 {α : Type} {l : List α} {a b c : α} (hl : l.length = 3) (h0 : l[0]? = some a) (h1 : l[1]? = some b) (h2 : l[2]? = some c) : l = [a, b, c] := by
  match l, hl with
  | [_, _, _], _ => simp_all
theorem list4 {α : Type} {l : List α} {a b c d : α} (hl : l.length = 4) (h0 : l[0]? = some a) (h1 : l[1]? = some b) (h2 : l[2]? = some c) (h3 : l[3]? = some d) : l = [a, b, c, d] := by
  match l, hl with
  | [_, _, _, _], _ => simp_all
end Go.Proofs.YtflpcdffmpfdpaaGreatDoor
namespace Go.Proofs.YtflpcdffmpfdpaaGreatDoor
open Go.ChangeShapes Go.WideShapes Go.ChangeAt Go.RowKit Go.Deep

section
variable {H : Type} {enc : TypeId × Value → H} {P : Program} {w : World} {base : Nat} {spare : Nat → Bool} {held : Bool}
theorem jrf {α : Type} {Q : α → Prop} (d0 : α) (h0 : Q d0) {E : α → List Value} {s : Nat} {t e : TypeId} {fuel : Nat} {cs : List Value} {x : DataW H × List MemPlace}
    (ht : P.underlying t = some (.slice e)) (hC : P.cellsOf e = s) (hs : 0 < s) (hlen : ∀ d, (E d).length = s)
    (helem : ∀ n cs x, DataW.trod enc P w base spare held n e cs = some x → ∃ d : α, cs = E d ∧ Q d)
    (h : DataW.trod enc P w base spare held fuel t cs = some x) :
    ∃ (A : Option Addr) (n c : Nat) (ds : List α), cs = [.slice A n c] ∧ n ≤ 9223372036854775807 ∧ Sees w base s A n (ds.flatMap E) ∧ ∀ d ∈ ds, Q d := by
  haveI : Inhabited {d : α // Q d} := ⟨⟨d0, h0⟩⟩
  obtain ⟨A, n, c, ds, h1, h2, h3⟩ := jq7 (α := {d : α // Q d}) (E := fun d => E d.1) ht hC hs (fun d => hlen d.1) (fun n cs x h => by
    obtain ⟨d, hd, hq⟩ := helem n cs x h
    exact ⟨⟨d, hq⟩, hd⟩) h
  refine ⟨A, n, c, ds.map Subtype.val, h1, h2, by rw [List.flatMap_map]; exact h3, fun d hd => ?_⟩
  obtain ⟨x, _, rfl⟩ := List.mem_map.1 hd
  exact x.2
end

end Go.Proofs.YtflpcdffmpfdpaaGreatDoor
namespace Go.Proofs.YtflpcdffmpfdpaaGreatDoor
open Go.ChangeShapes Go.WideShapes Go.ChangeAt Go.RowKit Go.Deep

section
variable {H : Type} {enc : TypeId × Value → H} {P : Program} {w : World} {base : Nat} {spare : Nat → Bool} {held : Bool}
theorem jrg {t : TypeId} {f0 f1 : Field} {t0 t1 : TypeId} {k0 k1 fuel : Nat} {cs : List Value} {x : DataW H × List MemPlace} (hs : P.underlying t = some (.struct #[f0, f1])) (e0 : f0.type = t0) (e1 : f1.type = t1) (o0 : f0.offset = 0) (o1 : f1.offset = k0) (c0 : P.cellsOf t0 = k0) (c1 : P.cellsOf t1 = k1) (hC : P.cellsOf t = k0 + k1)
    (h : DataW.trod enc P w base spare held fuel t cs = some x) :
    ∃ (n : Nat) (aa bs : List Value) (y0 y1 : DataW H × List MemPlace), cs = aa ++ bs ∧ aa.length = k0 ∧ DataW.trod enc P w base spare held n t0 aa = some y0 ∧ DataW.trod enc P w base spare held n t1 bs = some y1 := by
  obtain ⟨xs, m, _, _, hcl, hl, hf⟩ := DataW.trod_struct hs h
  rw [hC] at hcl
  have hl2 : xs.length = 2 := hl
  have h0 := hf 0 f0 rfl
  have h1 := hf 1 f1 rfl
  rw [e0, o0, c0, List.drop_zero, List.getElem?_eq_getElem (by omega)] at h0
  rw [e1, o1, c1, List.getElem?_eq_getElem (by omega)] at h1
  have hb : (cs.drop k0).take k1 = cs.drop k0 := List.take_of_length_le (by rw [List.length_drop]; omega)
  rw [hb] at h1
  exact ⟨m, cs.take k0, cs.drop k0, _, _, (List.take_append_drop k0 cs).symm, by rw [List.length_take]; omega, h0, h1⟩
end

end Go.Proofs.YtflpcdffmpfdpaaGreatDoor
namespace Go.Proofs.YtflpcdffmpfdpaaGreatDoor
open Go.ChangeShapes Go.WideShapes Go.ChangeAt Go.RowKit Go.Deep
theorem jr1 : ownKnob Tryz.prog.godebug = none := by kernel_rfl
theorem jq8 : laidOutB Tryz.prog = true := by kernel_rfl
section
variable {H : Type} {enc : TypeId × Value → H} {w : World} {base : Nat} {spare : Nat → Bool} {held : Bool}
theorem jrp : Tryz.prog.cellsOf 242 = 2 := by kernel_rfl
instance : Inhabited Punch := ⟨⟨0, 0⟩⟩
theorem jsf (n : Nat) (cs : List Value) (x : DataW H × List MemPlace) (h : DataW.trod enc Tryz.prog w base spare held n 242 cs = some x) : ∃ d : Punch, cs = d.enc := by
  obtain ⟨hl, m, hf⟩ := jq0 Tryz.underlying242 (by kernel_rfl) (by kernel_rfl) h
  obtain ⟨v0, _, h0, t0⟩ := hf 0 _ rfl
  obtain ⟨v1, _, h1, t1⟩ := hf 1 _ rfl
  obtain ⟨a0, rfl, _⟩ := jq2 Tryz.underlying3 t0
  obtain ⟨a1, rfl, _⟩ := jq2 Tryz.underlying3 t1
  exact ⟨⟨a0, a1⟩, list2 hl h0 h1⟩
theorem jsy (n : Nat) (cs : List Value) (x : DataW H × List MemPlace) (h : DataW.trod enc Tryz.prog w base spare held n 26 cs = some x) : ∃ d : Log, cs = d.enc ∧ d.upto 9223372036854775807 := by
  obtain ⟨hl, m, hf⟩ := jq0 Tryz.underlying26 (by kernel_rfl) (by kernel_rfl) h
  obtain ⟨v0, _, h0, t0⟩ := hf 0 _ rfl
  obtain ⟨v1, _, h1, t1⟩ := hf 1 _ rfl
  obtain ⟨v2, _, h2, t2⟩ := hf 2 _ rfl
  obtain ⟨a0, rfl, u0⟩ := jrc Tryz.underlying9 t0
  obtain ⟨a1, rfl, u1⟩ := jrc Tryz.underlying9 t1
  obtain ⟨a2, rfl, u2⟩ := jq2 Tryz.underlying3 t2
  exact ⟨⟨a0, a1, a2⟩, list3 hl h0 h1 h2, ⟨u0, u1⟩⟩
theorem jso (n : Nat) (cs : List Value) (x : DataW H × List MemPlace) (h : DataW.trod enc Tryz.prog w 0 spare held n 154 cs = some x) : ∃ d : Hd Card, cs = cardSh.enc d ∧ (Sees w 0 cardSh.is d.A d.n (cardSh.inner d.x) ∧ d.n ≤ 9223372036854775807) := by
  obtain ⟨hl, m, hf⟩ := jq0 Tryz.underlying154 (by kernel_rfl) (by kernel_rfl) h
  obtain ⟨v0, _, h0, t0⟩ := hf 0 _ rfl
  obtain ⟨v1, _, h1, t1⟩ := hf 1 _ rfl
  obtain ⟨v2, _, h2, t2⟩ := hf 2 _ rfl
  obtain ⟨v3, _, h3, t3⟩ := hf 3 _ rfl
  obtain ⟨a0, rfl, _⟩ := jq2 Tryz.underlying3 t0
  obtain ⟨a1, rfl, _⟩ := jq2 Tryz.underlying3 t1
  obtain ⟨a2, rfl, _⟩ := jq2 Tryz.underlying3 t2
  obtain ⟨A, n, c, xs, e3, hn, hs⟩ := jq7 (α := Punch) (E := Punch.enc) Tryz.underlying152 jrp (by decide) (fun _ => rfl) jsf t3
  simp only [List.cons.injEq, and_true] at e3
  subst e3
  exact ⟨⟨⟨a0, a1, a2, xs⟩, A, n, c⟩, list4 hl h0 h1 h2 h3, hs, hn⟩
theorem jrd : Tryz.prog.cellsOf 156 = 5 := by kernel_rfl
theorem jr0 (n : Nat) (cs : List Value) (x : DataW H × List MemPlace) (h : DataW.trod enc Tryz.prog w 0 spare held n 156 cs = some x) : ∃ d : Hd Entrant, cs = entrantSh.enc d ∧ (Sees w 0 entrantSh.is d.A d.n (entrantSh.inner d.x) ∧ d.n ≤ 9223372036854775807) := by
  obtain ⟨m, us, bs, y0, y1, rfl, hl, h0, h1⟩ := jrg (k0 := 1) (k1 := 4) Tryz.underlying156 rfl rfl rfl rfl (by kernel_rfl) (by kernel_rfl) (by kernel_rfl) h
  obtain ⟨d, rfl, hs, hn⟩ := jso _ _ _ h1
  obtain ⟨v, rfl⟩ : ∃ v, us = [v] := by
    match us, hl with
    | [v], _ => exact ⟨v, rfl⟩
  obtain ⟨a, rfl, _⟩ := jq2 Tryz.underlying3 h0
  exact ⟨⟨⟨a, d.x.number, d.x.start, d.x.finish, d.x.punches⟩, d.A, d.n, d.c⟩, rfl, hs, hn⟩
theorem jrr {fuel : Nat} {cs : List Value} {x : DataW H × List MemPlace} (h : DataW.trod enc Tryz.prog w 0 spare held fuel 22 cs = some x) :
    ∃ (A : Option Addr) (n c : Nat) (ds : List Entrant), cs = [.slice A n c] ∧ n ≤ 9223372036854775807 ∧ SeesN entrantSh w 0 A n ds ∧ ∀ d ∈ ds, d.cnt ≤ 9223372036854775807 := by
  obtain ⟨A, n, c, ds, h1, h2, h3, h4⟩ := jrf (α := Hd Entrant) (Q := fun d => Sees w 0 entrantSh.is d.A d.n (entrantSh.inner d.x) ∧ d.n ≤ 9223372036854775807) ⟨⟨0, 0, 0, 0, []⟩, none, 0, 0⟩ ⟨Sees.nil _ _ _ _, by decide⟩ (E := entrantSh.enc) Tryz.underlying22 jrd (by decide) (fun _ => rfl) jr0 h
  refine ⟨A, n, c, ds.map Hd.x, h1, h2, ⟨ds, rfl, h3, fun r hr => (h4 r hr).1⟩, fun d hd => ?_⟩
  obtain ⟨r, hr, rfl⟩ := List.mem_map.1 hd
  have h5 := (h4 r hr).1.count (by decide) (fun _ => rfl)
  have h6 := (h4 r hr).2
  unfold Entrant.cnt
  omega

theorem jsp (n : Nat) (cs : List Value) (x : DataW H × List MemPlace) (h : DataW.trod enc Tryz.prog w 0 spare held n 24 cs = some x) :
    ∃ (t : Int) (b : Bool) (A : Option Addr) (n c : Nat) (ds : List Entrant), cs = [.int .i64 t, .bool b, .slice A n c] ∧ n ≤ 9223372036854775807 ∧ SeesN entrantSh w 0 A n ds ∧ ∀ d ∈ ds, d.cnt ≤ 9223372036854775807 := by
  obtain ⟨hl, m, hf⟩ := jq0 Tryz.underlying24 (by kernel_rfl) (by kernel_rfl) h
  obtain ⟨v0, _, h0, t0⟩ := hf 0 _ rfl
  obtain ⟨v1, _, h1, t1⟩ := hf 1 _ rfl
  obtain ⟨v2, _, h2, t2⟩ := hf 2 _ rfl
  obtain ⟨a0, rfl, _⟩ := jq2 Tryz.underlying3 t0
  obtain ⟨a1, rfl⟩ := jsk Tryz.underlying4 t1
  obtain ⟨A, n, c, ds, e2, hn, hs, hk⟩ := jrr t2
  simp only [List.cons.injEq, and_true] at e2
  subst e2
  exact ⟨a0, a1, A, n, c, ds, list3 hl h0 h1 h2, hn, hs, hk⟩
theorem jrz (n : Nat) (cs : List Value) (x : DataW H × List MemPlace) (h : DataW.trod enc Tryz.prog w 0 spare held n 28 cs = some x) :
    ∃ (t : Int) (b : Bool) (l : Log) (A : Option Addr) (n c : Nat) (ds : List Entrant), cs = [.int .i64 t, .bool b, .slice A n c, .string l.durable, .string l.pending, .int .i64 l.count] ∧ (n ≤ 9223372036854775807 ∧ (∀ d ∈ ds, d.cnt ≤ 9223372036854775807) ∧ l.upto 9223372036854775807) ∧ SeesN entrantSh w 0 A n ds := by
  obtain ⟨m, us, bs, y0, y1, rfl, -, h0, h1⟩ := jrg (k0 := 3) (k1 := 3) Tryz.underlying28 rfl rfl rfl rfl (by kernel_rfl) (by kernel_rfl) (by kernel_rfl) h
  obtain ⟨t, b, A, n, c, ds, rfl, hn, hs, hk⟩ := jsp _ _ _ h0
  obtain ⟨l, rfl, hu⟩ := jsy _ _ _ h1
  exact ⟨t, b, l, A, n, c, ds, rfl, ⟨hn, hk, hu⟩, hs⟩
end
end Go.Proofs.YtflpcdffmpfdpaaGreatDoor
namespace Go.Proofs.YtflpcdffmpfdpaaGreatDoor
open Go.ChangeShapes Go.WideShapes Go.ChangeAt Go.RowKit

theorem jsq {α β γ : Type} {o : Option (α × List β × γ)} (h : (o.any fun x => x.2.1.isEmpty) = true) : ∃ a c, o = some (a, [], c) := by
  match o, h with
  | some (a, [], c), _ => exact ⟨a, c, rfl⟩
theorem tPowK : (Tryz.prog.globals[1]?).map (·.type) = some 237 := by kernel_rfl
theorem dPowK : (Rows.laid_internal_strconv_uint64pow10 : DataW Unit) = Lib.tabData .u64 Lib.pow10Tab := by kernel_rfl
theorem gESK : Tryz.prog.globalNamed "strconv.ErrSyntax" = some 2 := by kernel_rfl
theorem jsw : (Tryz.prog.globals[2]?).map (·.type) = some 169 := by kernel_rfl
theorem starK : "*" ++ "errors.errorString" = "*errors.errorString" := by decide
theorem rowESK (u : TypeId) (h : Tryz.prog.typeName? 3 u = some "*errors.errorString") : u = 261 :=
  typeName_ptr_named (nm := "errors.errorString") (by rw [starK]; kernel_rfl) (by kernel_rfl) (by decide) u (by rw [starK]; exact h)
theorem jsu : Tryz.prog.cellsOf 263 = 1 := by kernel_rfl
theorem jsl : Tryz.prog.cellsOf 9 = 1 := by kernel_rfl
theorem jr5 {W : World} (hL : laidMetH Tryz.prog [("math/bits.deBruijn32tab", Rows.laid_math_bits_deBruijn32tab), ("math/bits.deBruijn64tab", Rows.laid_math_bits_deBruijn64tab), ("internal/strconv.uint64pow10", Rows.laid_internal_strconv_uint64pow10), ("unicode/utf8.acceptRanges", Rows.laid_unicode_utf8_acceptRanges), ("strconv.ErrRange", Rows.laid_strconv_ErrRange), ("strconv.ErrSyntax", Rows.laid_strconv_ErrSyntax), ("unicode/utf8.first", Rows.laid_unicode_utf8_first)] W) (hsh : W.ShapedOpen Tryz.prog) : GlE W := by
  have hml : ∃ m, W.cell? ⟨0, 0, none⟩ = some (.int .i64 m) := Go.Proofs.cell_of_shapedOpen_int (zero := #[.int .i64 0]) (t := 3) hsh (of_decide_eq_true (by kernel_rfl)) (by kernel_rfl) rfl (by kernel_rfl) (by kernel_rfl) Tryz.underlying3
  rw [MakeChecks.laidMetH_plain _ _ _ (by kernel_rfl)] at hL
  have hL2 := hL
  obtain ⟨ps, ⟨g0, t0, cs0, f0, p0, q0, hg0, ht0, hv0, hd0, ⟨g1, t1, cs1, f1, p1, q1, hg1, ht1, hv1, hd1, ⟨g2, t2, cs2, f2, p2, q2, hg2, ht2, hv2, hd2, _, _⟩, _⟩, _⟩, _, _⟩ := hL
  obtain ⟨a0, s0, hv9, -, -, -⟩ := laid_sentinel hL2.tail.tail.tail.tail.tail gESK jsw Tryz.underlying169 rowESK Tryz.underlying261 Tryz.underlying263 rfl rfl Tryz.underlying9 jsu jsl
  refine ⟨⟨?_, hml⟩, ⟨_, by have h0 := World.var?_cell gESK hv9 0; simpa using h0, Or.inr ⟨_, _, rfl⟩⟩⟩
  obtain rfl := Option.some.inj (gPow.symm.trans hg2)
  obtain rfl := Option.some.inj (tPowK.symm.trans ht2)
  rw [dPowK] at hd2
  unfold Lib.TabIs
  rw [hv2, ← Lib.cells_of_tab Tryz.underlying237 Tryz.underlying86 (by kernel_rfl) (by kernel_rfl) hd2]

end Go.Proofs.YtflpcdffmpfdpaaGreatDoor
