/- Joined texts of this proof: CurRa, EntZ, ConZ, LawExecuteCommand. -/
import Derived.Deep.CutBlock
import Derived.Test.YtflpcdffmpfdpaaGreatDoorG01
import Derived.Test.YtflpcdffmpfdpaaGreatDoorB05
import Derived.Test.YtflpcdffmpfdpaaGreatDoorB02
import Derived.Test.YtflpcdffmpfdpaaGreatDoorB31
import Derived.Test.YtflpcdffmpfdpaaGreatDoorW01
set_option maxRecDepth 100000
set_option maxHeartbeats 8000000
namespace Go.Proofs.YtflpcdffmpfdpaaGreatDoor
open Go.RowKit

def js8 (w : World) (g n : Nat) (e9 : Ending) (w' : World) : Prop := ∃ k e v : Int, e9 = .returned (.agg #[k, e, v]) ∧ (-100000 ≤ e ∧ e ≤ 100000) ∧ (-100000 ≤ v ∧ v ≤ 100000) ∧ (0 ≤ k ∧ k ≤ 7) ∧ Cur w' g n ∧ Only (fun b => b = g) w w'
structure StA (w wr : World) (g m : Nat) (t : Int) (cl : Bool) (A : Option Addr) (q c : Nat) : Prop where
 box : Blk wr w.heap.size 32 [.int .i64 t, .bool cl, .slice A q c]
 res : Blk wr (w.heap.size + 1) 124 [.int .i64 0, .int .i64 0, .int .i64 0]
 cur : Cur wr g m
 only : Only (fun b => b = g) w wr
 nums : g < w.heap.size
structure StB (w wr : World) (g m gs : Nat) (t : Int) (cl : Bool) (A : Option Addr) (q c : Nat) (k e v : Int) : Prop extends StA w wr g m t cl A q c where
 step : Blk wr gs 124 [.int .i64 k, .int .i64 e, .int .i64 v]
 far : w.heap.size + 1 < gs
section
variable {w wr wv : World} {g m m' gs : Nat} {t : Int} {cl : Bool} {A : Option Addr} {q c : Nat} {k e v : Int}
theorem StA.more (h : StA w wr g m t cl A q c) (hm : m ≤ m') : StA w wr g m' t cl A q c := { h with cur := h.cur.more hm }
theorem StA.below (h : StA w wr g m t cl A q c) (hb : Below wr.heap.size wr wv) : StA w wv g m t cl A q c :=
 ⟨h.box.next hb, h.res.next hb, h.cur.next hb, h.only.then_ hb, h.nums⟩
theorem StA.drawn (h : StA w wr g m t cl A q c) (hc : Cur wv g m') (ho : Only (fun b => b = g) wr wv) : StA w wv g m' t cl A q c := by
 have hn := h.nums
 exact ⟨h.box.only ho (fun (e : _ = _) => by omega), h.res.only ho (fun (e : _ = _) => by omega), hc, h.only.trans ho, hn⟩
theorem StB.more (h : StB w wr g m gs t cl A q c k e v) (hm : m ≤ m') : StB w wr g m' gs t cl A q c k e v := ⟨h.toStA.more hm, h.step, h.far⟩
theorem StB.below (h : StB w wr g m gs t cl A q c k e v) (hb : Below wr.heap.size wr wv) : StB w wv g m gs t cl A q c k e v := ⟨h.toStA.below hb, h.step.next hb, h.far⟩
theorem StB.drawn (h : StB w wr g m gs t cl A q c k e v) (hc : Cur wv g m') (ho : Only (fun b => b = g) wr wv) : StB w wv g m' gs t cl A q c k e v := by
 have hn := h.nums
 have hf := h.far
 exact ⟨h.toStA.drawn hc ho, h.step.only ho (fun (e : _ = _) => by omega), hf⟩
theorem StB.set (h : StB w wr g m gs t cl A q c k e v) (i : Nat) (u : Value) {k' e' v' : Int} (he : ([.int .i64 k, .int .i64 e, .int .i64 v] : List Value).set i u = [.int .i64 k', .int .i64 e', .int .i64 v']) : StB w (wr.setCell ⟨gs, i, none⟩ u) g m gs t cl A q c k' e' v' := by
 have hS : Only (fun b => b = gs) wr (wr.setCell ⟨gs, i, none⟩ u) := jqx (Only.refl _ _) i _
 have hn := h.nums
 have hf := h.far
 exact ⟨⟨h.box.only hS (fun (e : _ = _) => by omega), h.res.only hS (fun (e : _ = _) => by omega), h.cur.keep hS (fun (e : _ = _) => by omega) (fun b (e : _ = _) => by omega), jqw h.only (by show w.heap.size ≤ gs; omega) _, hn⟩, by have := h.step.set_ i u; rwa [he] at this, hf⟩
theorem StB.done (h : StB w wr g m gs t cl A q c k e v) (hk : 0 ≤ k ∧ k ≤ 7) (he : -1 ≤ e ∧ e ≤ 8) (hv : -1 ≤ v ∧ v ≤ 40000) : js8 w g m (.returned (.agg #[k, e, v])) (((wr.setCell ⟨w.heap.size + 1, 0, none⟩ (.int .i64 k)).setCell ⟨w.heap.size + 1, 1, none⟩ (.int .i64 e)).setCell ⟨w.heap.size + 1, 2, none⟩ (.int .i64 v)) := by
 have hn := h.nums
 have hS : Only (fun b => b = w.heap.size + 1) wr (((wr.setCell ⟨w.heap.size + 1, 0, none⟩ (.int .i64 k)).setCell ⟨w.heap.size + 1, 1, none⟩ (.int .i64 e)).setCell ⟨w.heap.size + 1, 2, none⟩ (.int .i64 v)) := jqx (jqx (jqx (Only.refl _ _) 0 _) 1 _) 2 _
 have hle : w.heap.size ≤ w.heap.size + 1 := Nat.le_succ _
 exact ⟨k, e, v, rfl, by omega, by omega, hk, h.cur.keep hS (fun (e : _ = _) => by omega) (fun b (e : _ = _) => by omega), jqw (jqw (jqw h.only hle _) hle _) hle _⟩
end

theorem jrh (g n : Nat) (t : Int) (cl : Bool) (A : Option Addr) (q c : Nat) (xs : List Entrant) (w : World) (h : Cur w g n) (hn : n ≤ 900000) (hx : ∀ W, Only (fun b => b = g) w W → SeesN entrantSh W 0 A q xs) (hq : q ≤ 8) :
  Calls Tryz.prog 105 #[.pointer (some ⟨g, 0, none⟩), .agg #[t, cl, .slice A q c]] w (js8 w g (n + 46)) := by
 have HX := Lib.hid hx
 have hg := h.lt
 have UA := nB2 w (.cells #[t, cl, .slice A q c] 32) (.cells #[.int .i64 0, .int .i64 0, .int .i64 0] 124)
 have D0 : StA w ((w.alloc (.cells #[t, cl, .slice A q c] 32)).alloc (.cells #[.int .i64 0, .int .i64 0, .int .i64 0] 124)) g n t cl A q c := ⟨(Blk.at_ rfl).alloc _, Blk.at_ (by simp), h.next UA, .of_below UA, hg⟩
 clear hx UA h
 go_enter Tryz.func105, Tryz.ntmps105
 go_upto_region 1 with fail
 generalize (w.alloc _).alloc _ = w0 at *
 have pc := D0.box.cell
 go_wp2_with fail
 refine (jj2 _ _ _).mono ?_
 rintro e9 w1 ⟨mx, rfl, rfl, hmx⟩
 have hm1 : 1 ≤ mx ∧ mx ≤ 8 := by
  have h1 := (hmx.out 8).2 ⟨by omega, by omega⟩
  have h2 := (hmx.out mx).1 (by omega)
  omega
 clear hmx
 go_wp2_with fail
 refine (jq0 mx g _ _ D0.cur (by omega) (by omega) (by omega)).mono ?_
 rintro e9 w2 ⟨i, rfl, hi, c9, o9⟩
 have D1 := D0.drawn c9 o9
 have hi8 : i ≤ 8 := by omega
 clear D0 pc c9 o9 hi hm1
 go_upto_block 0 with fail
 go_cut [5] from 15 to 45 (fun s5 wr => ∃ (i m : Nat), s5 = .int .i64 (i : Int) ∧ i ≤ 8 ∧ m ≤ n + 20 ∧ StA w wr g m t cl A q c)
 case first =>
  go_wp2_with fail
  go_loopw [5, 6] (fun s5 s6 wr => ∃ (j : Nat), s5 = .int .i64 (i : Int) ∧ s6 = .int .i64 (j : Int) ∧ j ≤ q ∧ StA w wr g (n + 2 + 2 * j) t cl A q c) (fun _ s6 _ => q - (intOf s6).toNat)
  case atStart => exact ⟨0, rfl, rfl, Nat.zero_le _, D1⟩
  case round =>
   clear D1
   obtain ⟨j, rfl, rfl, hj, D⟩ := hrel
   have pc := D.box.cell
   by_cases hlt : j < q
   ·have hlt1 : (j : Int) < (q : Int) := by omega
    go_wp2_with fail
    refine (jrf 2 g _ _ D.cur (by omega) (by decide) (by decide)).mono ?_
    rintro e9 w3 ⟨yes, rfl, c9, o9⟩
    have D3 := D.drawn c9 o9
    clear D pc c9 o9
    have pc := D3.box.cell
    cases yes
    ·go_wp2_with fail
     go_meet
     exact ⟨i, _, rfl, hi8, by omega, D3⟩
    ·obtain ⟨y, hy⟩ : ∃ y, (i + j) % q = y := ⟨_, rfl⟩
     have hyq : y < q := by rw [← hy]; exact Nat.mod_lt _ (by omega)
     have hy0 : (0 : Int) ≤ (y : Int) := by omega
     have hy1 : (y : Int) < (q : Int) := by omega
     have hsum : IntKind.i64.wrap ((i : Int) + (j : Int)) = (((i + j : Nat) : Int)) := by rw [IntWalk.i64_in _ (by omega)]; omega
     have hrem : (((i + j : Nat) : Int)).tmod (q : Int) = (y : Int) := by rw [← hy]; exact (Int.ofNat_tmod _ _).symm
     have hwr : IntKind.i64.wrap (y : Int) = (y : Int) := IntWalk.i64_in _ (by omega)
     have hq0 : ((q : Int) == 0) = false := beq_eq_false_iff_ne.2 (by omega)
     have hq1 : ((q : Int) != 0) = true := by simp; omega
     obtain ⟨b, off, B0, mc, cc0, rfl, hkx, y0, y1, y2, y3, y4, hxi⟩ := SeesEntrant.elem (HX.out w3 D3.only) hyq
     clear y1 y2 y3 y4 hxi
     obtain ⟨st, hst⟩ : ∃ st, xs[y].state = st := ⟨_, rfl⟩
     rw [hst] at y0
     obtain ⟨sm, hsm⟩ : ∃ sm : Nat, i + j = sm := ⟨_, rfl⟩
     rw [hsm] at hsum hrem
     have hs1 : sm ≤ 16 := by omega
     have hrw : IntKind.i64.wrap ((sm : Int).tmod (q : Int)) = (y : Int) := by rw [hrem]; exact hwr
     have hy8 : y ≤ 8 := by omega
     have hqn : ¬ q = 0 := by omega
     have hqm : ¬ (q : Int) = 0 := by omega
     have hr4 : (sm : Int) % (q : Int) = (y : Int) := by rw [← hrem, Int.tmod_eq_emod_of_nonneg (by omega)]
     have hr3 := hrem
     clear hst hsm hy hrem hwr
     by_cases hs : st ≤ 1
     ·go_wp2_with fail
      go_quiet (fail)
      have D5 := D3.below ((show Quiet w3 (w3.drewN nq) from ⟨nq, rfl⟩).below _)
      have pc := D5.box.cell
      go_wp2_with fail
      go_meet
      exact ⟨y, _, by go_num, hy8, by omega, D5⟩
     ·go_wp2_with fail
      go_quiet (fail)
      have D5 := D3.below ((show Quiet w3 (w3.drewN nq) from ⟨nq, rfl⟩).below _)
      go_wp2_with fail
      go_roundw
      case rel => exact ⟨j + 1, rfl, by go_num, by omega, D5.more (by omega)⟩
      case measure => simp [intOf]; omega
   ·have hlt1 : ¬ (j : Int) < (q : Int) := by omega
    go_wp2_with fail
    go_meet
    exact ⟨i, _, rfl, hi8, by omega, D⟩
 case rest =>
  clear D1 hi8
  obtain ⟨i, m, rfl, hi, hm, D⟩ := hcut
  obtain ⟨w3, rfl⟩ : ∃ w' : World, w' = wc := ⟨_, rfl⟩
  have UA := nB w3 (.cells #[.int .i64 1, .int .i64 1, .int .i64 2, .int .i64 2, .int .i64 3, .int .i64 3, .int .i64 3, .int .i64 4, .int .i64 4, .int .i64 5, .int .i64 6] 3)
  have BL : Blk (w3.alloc (.cells #[.int .i64 1, .int .i64 1, .int .i64 2, .int .i64 2, .int .i64 3, .int .i64 3, .int .i64 3, .int .i64 4, .int .i64 4, .int .i64 5, .int .i64 6] 3)) w3.heap.size 3 (jb4 [1, 1, 2, 2, 3, 3, 3, 4, 4, 5, 6]) := Blk.at_ rfl
  have DA := D.below UA
  have hgl := D.cur.lt
  go_wp2_with fail
  refine (jq5 g _ w3.heap.size 11 3 [1, 1, 2, 2, 3, 3, 3, 4, 4, 5, 6] _ BL (by omega) DA.cur (by omega) rfl (by decide) (by decide)).mono ?_
  rintro e9 w4 ⟨kd, rfl, hkm, c9, o9⟩
  have D4 := DA.drawn c9 o9
  clear UA BL DA c9 o9 hgl D
  have hkd : 1 ≤ kd ∧ kd ≤ 6 := by simp at hkm; omega
  clear hkm
  go_upto_region 8 with fail
  go_cut [66] from 49 to 66 (fun s66 wr => ∃ (yes : Bool) (m : Nat), s66 = .bool yes ∧ m ≤ n + 30 ∧ StA w wr g m t cl A q c)
  case first =>
   have pc := D4.box.cell
   by_cases hlt : i < q
   ·have hlt1 : (i : Int) < (q : Int) := by omega
    have hi0 : (0 : Int) ≤ (i : Int) := by omega
    obtain ⟨b, off, B0, mc, cc0, rfl, hkx, y0, y1, y2, y3, y4, hxi⟩ := SeesEntrant.elem (HX.out w4 D4.only) hlt
    clear y1 y2 y3 y4 hxi
    obtain ⟨st, hst⟩ : ∃ st, xs[i].state = st := ⟨_, rfl⟩
    rw [hst] at y0
    clear hst
    by_cases h0 : st = 0
    ·have e0 : (st == 0) = true := by simp [h0]
     clear h0
     go_wp2_with fail
     refine (jrf 2 g _ _ D4.cur (by omega) (by decide) (by decide)).mono ?_
     rintro e9 w5 ⟨yes, rfl, c9, o9⟩
     have D5 := D4.drawn c9 o9
     clear c9 o9
     go_wp2_with fail
     go_meet
     exact ⟨yes, _, rfl, by omega, D5⟩
    ·have e0 : (st == 0) = false := beq_eq_false_iff_ne.2 h0
     go_wp2_with fail
     go_meet
     exact ⟨false, _, rfl, by omega, D4⟩
   ·have hlt1 : ¬ (i : Int) < (q : Int) := by omega
    go_wp2_with fail
    go_meet
    exact ⟨false, _, rfl, by omega, D4⟩
  case rest =>
   clear D4
   obtain ⟨yes, m2, rfl, hm2, D⟩ := hcut
   obtain ⟨wy, rfl⟩ : ∃ w' : World, w' = wc := ⟨_, rfl⟩
   go_upto_if 66 with fail
   go_cut [7] from 66 to 66 (fun s7 wr => ∃ (k : Int) (m : Nat), s7 = .int .i64 k ∧ (1 ≤ k ∧ k ≤ 6) ∧ m ≤ n + 30 ∧ StA w wr g m t cl A q c)
   case first =>
    cases yes
    ·go_wp2_with fail
     go_meet
     exact ⟨kd, _, rfl, hkd, by omega, D⟩
    ·go_wp2_with fail
     go_meet
     exact ⟨2, _, rfl, ⟨by decide, by decide⟩, by omega, D⟩
   case rest =>
    clear D hkd hm hm2
    obtain ⟨kd, m, rfl, hkd, hm, D⟩ := hcut
    obtain ⟨w5, rfl⟩ : ∃ w' : World, w' = wc := ⟨_, rfl⟩
    have hz5 := D.res.lt
    have UB := nB w5 (.cells #[kd, (i : Int), .int .i64 0] 124)
    have DB : StB w (w5.alloc (.cells #[kd, (i : Int), .int .i64 0] 124)) g m w5.heap.size t cl A q c kd (i : Int) 0 := ⟨D.below UB, Blk.at_ rfl, hz5⟩
    clear D UB hz5
    go_upto_block 2 with fail
    generalize w5.alloc _ = w6 at *
    generalize w5.heap.size = gs at *
    go_cut [] from 72 to 86 (fun wr => ∃ k e v : Int, (1 ≤ k ∧ k ≤ 6) ∧ (0 ≤ e ∧ e ≤ 8) ∧ (0 ≤ v ∧ v ≤ 40000) ∧ StB w wr g (n + 40) gs t cl A q c k e v)
    case first =>
     have pc := DB.step.cell
     have pf := DB.step.frozen
     by_cases k1 : kd = 1
     ·subst k1
      clear pc pf
      have pc := DB.step.cell
      have UA := nB w6 (.cells #[.int .i64 1, .int .i64 10, .int .i64 60, .int .i64 300, .int .i64 40000, .int .i64 0] 3)
      have BL : Blk (w6.alloc (.cells #[.int .i64 1, .int .i64 10, .int .i64 60, .int .i64 300, .int .i64 40000, .int .i64 0] 3)) w6.heap.size 3 (jb4 [1, 10, 60, 300, 40000, 0]) := Blk.at_ rfl
      have DA := DB.below UA
      have hgl := DB.cur.lt
      go_wp2_with fail
      refine (jq5 g _ w6.heap.size 6 3 [1, 10, 60, 300, 40000, 0] _ BL (by omega) DA.cur (by omega) rfl (by decide) (by decide)).mono ?_
      rintro e9 w7 ⟨x, rfl, hxm, c9, o9⟩
      have D2 := DA.drawn c9 o9
      clear UA BL DA c9 o9 hgl DB
      have hx2 : 0 ≤ x ∧ x ≤ 40000 := by simp at hxm; omega
      clear hxm pc
      have bc := D2.step.cell
      have bf := D2.step.frozen
      have D3 := ((D2.set 0 (.int .i64 1) (k' := 1) (e' := (i : Int)) (v' := 0) rfl).set 1 (.int .i64 0) (k' := 1) (e' := 0) (v' := 0) rfl).set 2 (.int .i64 x) (k' := 1) (e' := 0) (v' := x) rfl
      go_wp2_with fail
      go_meet
      exact ⟨1, 0, x, ⟨by omega, by omega⟩, ⟨by omega, by omega⟩, ⟨by omega, by omega⟩, D3.more (by omega)⟩
     by_cases k3 : kd = 3
     ·subst k3
      clear pc pf
      have UA := nB w6 (.cells #[.int .i64 31, .int .i64 32, .int .i64 45, .int .i64 31, .int .i64 30] 3)
      have BL : Blk (w6.alloc (.cells #[.int .i64 31, .int .i64 32, .int .i64 45, .int .i64 31, .int .i64 30] 3)) w6.heap.size 3 (jb4 [31, 32, 45, 31, 30]) := Blk.at_ rfl
      have DA := DB.below UA
      have hgl := DB.cur.lt
      go_wp2_with fail
      refine (jq5 g _ w6.heap.size 5 3 [31, 32, 45, 31, 30] _ BL (by omega) DA.cur (by omega) rfl (by decide) (by decide)).mono ?_
      rintro e9 w7 ⟨x, rfl, hxm, c9, o9⟩
      have D2 := DA.drawn c9 o9
      clear UA BL DA c9 o9 hgl DB
      have hx2 : 0 ≤ x ∧ x ≤ 45 := by simp at hxm; omega
      clear hxm
      have bc := D2.step.cell
      have bf := D2.step.frozen
      have D3 := D2.set 2 (.int .i64 x) (k' := 3) (e' := (i : Int)) (v' := x) rfl
      clear bc bf
      have pc := D2.step.cell
      have pf := D2.step.frozen
      go_wp2_with fail
      go_meet
      exact ⟨3, (i : Int), x, ⟨by omega, by omega⟩, ⟨by omega, by omega⟩, ⟨by omega, by omega⟩, D3.more (by omega)⟩
     have e1 : (kd == 1) = false := beq_eq_false_iff_ne.2 k1
     have e3 : (kd == 3) = false := beq_eq_false_iff_ne.2 k3
     by_cases k6 : kd = 6
     ·subst k6
      have D2 := DB.set 1 (.int .i64 0) (k' := 6) (e' := 0) (v' := 0) rfl
      go_wp2_with fail
      go_meet
      exact ⟨6, 0, 0, ⟨by omega, by omega⟩, ⟨by omega, by omega⟩, ⟨by omega, by omega⟩, D2.more (by omega)⟩
     ·have e6 : (kd == 6) = false := beq_eq_false_iff_ne.2 k6
      go_wp2_with fail
      go_meet
      exact ⟨kd, i, 0, ⟨by omega, by omega⟩, ⟨by omega, by omega⟩, ⟨by omega, by omega⟩, DB.more (by omega)⟩
    case rest =>
     clear DB hkd
     obtain ⟨k, e, v, hk, he, hv, DB⟩ := hcut
     obtain ⟨w7, rfl⟩ : ∃ w' : World, w' = wc := ⟨_, rfl⟩
     go_wp2_with fail
     refine (jq0 40 g _ _ DB.cur (by omega) (by decide) (by decide)).mono ?_
     rintro e9 w8 ⟨r, rfl, hr, c9, o9⟩
     have D8 := DB.drawn c9 o9
     clear DB c9 o9
     go_upto_block 3 with fail
     go_cut [] from 90 to 106 (fun wr => ∃ k e v : Int, (0 ≤ k ∧ k ≤ 7) ∧ (-1 ≤ e ∧ e ≤ 8) ∧ (-1 ≤ v ∧ v ≤ 40000) ∧ StB w wr g (n + 46) gs t cl A q c k e v)
     case first =>
      by_cases r0 : r = 0
      ·subst r0
       have UA := nB w8 (.cells #[.int .i64 0, .int .i64 7] 3)
       have BL : Blk (w8.alloc (.cells #[.int .i64 0, .int .i64 7] 3)) w8.heap.size 3 (jb4 [0, 7]) := Blk.at_ rfl
       have DA := D8.below UA
       have hgl := D8.cur.lt
       go_wp2_with fail
       refine (jq5 g _ w8.heap.size 2 3 [0, 7] _ BL (by omega) DA.cur (by omega) rfl (by decide) (by decide)).mono ?_
       rintro e9 w9 ⟨x, rfl, hxm, c9, o9⟩
       have D2 := DA.drawn c9 o9
       clear UA BL DA c9 o9 hgl D8
       have hx2 : 0 ≤ x ∧ x ≤ 7 := by simp at hxm; omega
       clear hxm
       have bc := D2.step.cell
       have bf := D2.step.frozen
       have D3 := D2.set 0 (.int .i64 x) (k' := x) (e' := e) (v' := v) rfl
       clear bc bf
       have pc := D2.step.cell
       have pf := D2.step.frozen
       go_wp2_with fail
       go_meet
       exact ⟨x, e, v, ⟨by omega, by omega⟩, ⟨by omega, by omega⟩, ⟨by omega, by omega⟩, D3.more (by omega)⟩
      by_cases r1 : r = 1
      ·subst r1
       have UA := nB w8 (.cells #[.int .i64 (-1), .int .i64 8, .int .i64 1] 3)
       have BL : Blk (w8.alloc (.cells #[.int .i64 (-1), .int .i64 8, .int .i64 1] 3)) w8.heap.size 3 (jb4 [-1, 8, 1]) := Blk.at_ rfl
       have DA := D8.below UA
       have hgl := D8.cur.lt
       go_wp2_with fail
       refine (jq5 g _ w8.heap.size 3 3 [-1, 8, 1] _ BL (by omega) DA.cur (by omega) rfl (by decide) (by decide)).mono ?_
       rintro e9 w9 ⟨x, rfl, hxm, c9, o9⟩
       have D2 := DA.drawn c9 o9
       clear UA BL DA c9 o9 hgl D8
       have hx2 : -1 ≤ x ∧ x ≤ 8 := by simp at hxm; omega
       clear hxm
       have bc := D2.step.cell
       have bf := D2.step.frozen
       have D3 := D2.set 1 (.int .i64 x) (k' := k) (e' := x) (v' := v) rfl
       clear bc bf
       have pc := D2.step.cell
       have pf := D2.step.frozen
       go_wp2_with fail
       go_meet
       exact ⟨k, x, v, ⟨by omega, by omega⟩, ⟨by omega, by omega⟩, ⟨by omega, by omega⟩, D3.more (by omega)⟩
      by_cases r2 : r = 2
      ·subst r2
       have UA := nB w8 (.cells #[.int .i64 (-1), .int .i64 100, .int .i64 5] 3)
       have BL : Blk (w8.alloc (.cells #[.int .i64 (-1), .int .i64 100, .int .i64 5] 3)) w8.heap.size 3 (jb4 [-1, 100, 5]) := Blk.at_ rfl
       have DA := D8.below UA
       have hgl := D8.cur.lt
       go_wp2_with fail
       refine (jq5 g _ w8.heap.size 3 3 [-1, 100, 5] _ BL (by omega) DA.cur (by omega) rfl (by decide) (by decide)).mono ?_
       rintro e9 w9 ⟨x, rfl, hxm, c9, o9⟩
       have D2 := DA.drawn c9 o9
       clear UA BL DA c9 o9 hgl D8
       have hx2 : -1 ≤ x ∧ x ≤ 100 := by simp at hxm; omega
       clear hxm
       have bc := D2.step.cell
       have bf := D2.step.frozen
       have D3 := D2.set 2 (.int .i64 x) (k' := k) (e' := e) (v' := x) rfl
       clear bc bf
       have pc := D2.step.cell
       have pf := D2.step.frozen
       go_wp2_with fail
       go_meet
       exact ⟨k, e, x, ⟨by omega, by omega⟩, ⟨by omega, by omega⟩, ⟨by omega, by omega⟩, D3.more (by omega)⟩
      have e0 : ((r : Int) == 0) = false := beq_eq_false_iff_ne.2 (by omega)
      have e1 : ((r : Int) == 1) = false := beq_eq_false_iff_ne.2 (by omega)
      have e2 : ((r : Int) == 2) = false := beq_eq_false_iff_ne.2 (by omega)
      go_wp2_with fail
      go_meet
      exact ⟨k, e, v, ⟨by omega, by omega⟩, ⟨by omega, by omega⟩, ⟨by omega, by omega⟩, D8.more (by omega)⟩
     case rest =>
      clear D8 hk he hv
      obtain ⟨k, e, v, hk, he, hv, DB⟩ := hcut
      obtain ⟨w9, rfl⟩ : ∃ w' : World, w' = wc := ⟨_, rfl⟩
      have pc := DB.step.cell
      have rf := DB.res.frozen
      have rc := DB.res.cell
      have hfar := DB.far
      go_wp2_with fail
      refine bodyPost_ret (v := .agg #[k, e, v]) (by simp [results, Tryz.results105, go_sem, rc]) rfl ?_
      exact DB.done hk he hv

end Go.Proofs.YtflpcdffmpfdpaaGreatDoor
namespace Go.Proofs.YtflpcdffmpfdpaaGreatDoor
open Go.RowKit
theorem jtr : ∀ xs : List Entrant, wtN Entrant.wt xs = 2 * wtN Entrant.cnt xs + 4 * xs.length
 | [] => rfl
 | x :: r => by
  show Entrant.wt x + wtN Entrant.wt r = 2 * (Entrant.cnt x + wtN Entrant.cnt r) + 4 * (r.length + 1)
  rw [jtr r]
  show x.punches.length * 2 + 4 + _ = 2 * (x.punches.length + _) + _
  omega
theorem jtp : ∀ (m : Nat) (xs : List Entrant), (∀ x ∈ xs, x.cnt ≤ m) → wtN Entrant.cnt xs ≤ m * xs.length
 | _, [], _ => Nat.zero_le _
 | m, x :: r, h => by
  show Entrant.cnt x + wtN Entrant.cnt r ≤ m * (r.length + 1)
  have h1 := h x List.mem_cons_self
  have h2 := jtp m r (fun y hy => h y (List.mem_cons_of_mem _ hy))
  rw [Nat.mul_add, Nat.mul_one]
  omega
theorem jrk {r : RaceV} (h : ja0 r = true) : r.field.length ≤ 1048576 ∧ (∀ x ∈ r.field, x.cnt ≤ 1048576) ∧ wtN Entrant.wt r.field ≤ 100000000 := by
 have h8 := (jfx h).2
 have hc := jtp 12 r.field (fun x hx => (jco h x hx).1)
 have hw := jtr r.field
 have hm : 12 * r.field.length ≤ 12 * 8 := Nat.mul_le_mul_left 12 h8
 exact ⟨by omega, jb2 h, by omega⟩
theorem jsv {r : RaceV} {l : Log} {line : ByteArray} : (exM r l line).race = r ∨ ja0 (exM r l line).race = true := by
 unfold exM
 by_cases h1 : (ja0 r && ja9 l) = false
 ·rw [if_pos h1]
  exact Or.inl rfl
 rw [if_neg h1]
 by_cases h2 : jgb ⟨line, ⟨#[]⟩⟩ = false
 ·rw [if_pos h2]
  exact Or.inl rfl
 rw [if_neg h2]
 by_cases h3 : l.count = 60
 ·rw [if_pos h3]
  exact Or.inl rfl
 rw [if_neg h3]
 refine Or.inr (jox ?_)
 cases hg : ja0 r with
 | true => rfl
 | false => exact absurd (by rw [hg]; rfl) h1
end Go.Proofs.YtflpcdffmpfdpaaGreatDoor
