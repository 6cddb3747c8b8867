/- Joined texts of this proof: CurRd, CurI, CurRe, ScriP, SplS, VBig. -/
import Derived.Test.YtflpcdffmpfdpaaGreatDoorG04
import Derived.Test.YtflpcdffmpfdpaaGreatDoorG05
import Derived.Test.YtflpcdffmpfdpaaGreatDoorG03
import Derived.Test.YtflpcdffmpfdpaaGreatDoorB20
import Derived.Test.YtflpcdffmpfdpaaGreatDoorB13
import Derived.Test.YtflpcdffmpfdpaaGreatDoorB01
import Derived.Test.YtflpcdffmpfdpaaGreatDoorW01
set_option maxRecDepth 100000
set_option maxHeartbeats 8000000
namespace Go.Proofs.YtflpcdffmpfdpaaGreatDoor
open Go.RowKit

def js7 (w : World) (g n : Nat) (e9 : Ending) (w' : World) : Prop := ∃ (r : RaceV) (l : Log) (A : Option Addr) (c : Nat), e9 = .returned (.agg #[r.clock, r.closed, .slice A r.field.length c, l.durable, l.pending, l.count]) ∧ MineN entrantSh w' (In w.heap.size w'.heap.size) 108 188 A r.field.length c r.field ∧ jq3 r ∧ l.upto 1048576 ∧ Cur w' g n ∧ Only (fun b => b = g) w w'
structure CoD (w wr : World) (g gr m lo hi : Nat) (r : RaceV) (l : Log) (A : Option Addr) (c : Nat) : Prop where
 box : Blk wr gr 35 [.int .i64 r.clock, .bool r.closed, .slice A r.field.length c, .string l.durable, .string l.pending, .int .i64 l.count]
 res : Blk wr w.heap.size 35 [.int .i64 0, .bool false, .slice none 0 0, .string ⟨#[]⟩, .string ⟨#[]⟩, .int .i64 0]
 mine : MineN entrantSh wr (In lo hi) 108 188 A r.field.length c r.field
 cur : Cur wr g m
 only : Only (fun b => b = g) w wr
 small : jq3 r
 log : l.upto 1048576
 nums : g < w.heap.size ∧ w.heap.size < gr
 rng : w.heap.size < lo ∧ (gr < lo ∨ hi ≤ gr) ∧ hi ≤ wr.heap.size
def jsm (W : World) (gr : Nat) (r : RaceV) (l : Log) (A : Option Addr) (c : Nat) : World := (((((W.setCell ⟨gr, 0, none⟩ (.int .i64 r.clock)).setCell ⟨gr, 1, none⟩ (.bool r.closed)).setCell ⟨gr, 2, none⟩ (.slice A r.field.length c)).setCell ⟨gr, 3, none⟩ (.string l.durable)).setCell ⟨gr, 4, none⟩ (.string l.pending)).setCell ⟨gr, 5, none⟩ (.int .i64 l.count)
section
variable {w wr wv : World} {g gr m m' lo hi lo2 hi2 c c2 : Nat} {r r2 : RaceV} {l l2 : Log} {A A2 : Option Addr}
theorem CoD.more (h : CoD w wr g gr m lo hi r l A c) (hm : m ≤ m') : CoD w wr g gr m' lo hi r l A c := { h with cur := h.cur.more hm }
theorem CoD.below (h : CoD w wr g gr m lo hi r l A c) (hb : Below wr.heap.size wr wv) : CoD w wv g gr m lo hi r l A c := by
 have hz := hb.size
 have hr := h.rng
 exact ⟨h.box.next hb, h.res.next hb, h.mine.next hb, h.cur.next hb, h.only.then_ hb, h.small, h.log, h.nums, by omega⟩
theorem CoD.drawn (h : CoD w wr g gr m lo hi r l A c) (hc : Cur wv g m') (ho : Only (fun b => b = g) wr wv) : CoD w wv g gr m' lo hi r l A c := by
 have hn := h.nums
 have hz := ho.size
 have hr := h.rng
 exact ⟨h.box.only ho (fun (e : _ = _) => by omega), h.res.only ho (fun (e : _ = _) => by omega), h.mine.only ho (fun b h1 (h2 : b = g) => by have := h1.1; omega), hc, h.only.trans ho, h.small, h.log, hn, by omega⟩
theorem CoD.sees (h : CoD w wr g gr m lo hi r l A c) : SeesN entrantSh wr 0 A r.field.length r.field := h.mine.sees
theorem CoD.keeps (h : CoD w wr g gr m lo hi r l A c) : ∀ W, Only (fun b => b = g) wr W → SeesN entrantSh W 0 A r.field.length r.field := fun W ho => (h.mine.only ho (fun b h1 (h2 : b = g) => by have := h1.1; have := h.nums; have := h.rng; omega)).sees
theorem jry (W : World) (gr : Nat) (r : RaceV) (l : Log) (A : Option Addr) (c : Nat) : Only (fun b => b = gr) W (jsm W gr r l A c) := jqx (jqx (jqx (jqx (jqx (jqx (Only.refl _ _) 0 _) 1 _) 2 _) 3 _) 4 _) 5 _
theorem jrz (W : World) (gr : Nat) (r : RaceV) (l : Log) (A : Option Addr) (c : Nat) : (jsm W gr r l A c).heap.size = W.heap.size := by simp [jsm, World.setCell]
theorem jsx {a W : World} {S : Nat → Prop} (h : Only S a W) {gr : Nat} (hle : a.heap.size ≤ gr) (r : RaceV) (l : Log) (A : Option Addr) (c : Nat) : Only S a (jsm W gr r l A c) := jqw (jqw (jqw (jqw (jqw (jqw h hle _) hle _) hle _) hle _) hle _) hle _
theorem CoD.put (h : CoD w wr g gr m lo hi r l A c) (hm : MineN entrantSh wr (In lo2 hi2) 108 188 A2 r2.field.length c2 r2.field) (h1 : w.heap.size < lo2) (h2 : gr < lo2 ∨ hi2 ≤ gr) (h3 : hi2 ≤ wr.heap.size) (hs : jq3 r2) (hl : l2.upto 1048576) : CoD w (jsm wr gr r2 l2 A2 c2) g gr m lo2 hi2 r2 l2 A2 c2 := by
 have hS := jry wr gr r2 l2 A2 c2
 have hz := jrz wr gr r2 l2 A2 c2
 have hn := h.nums
 exact ⟨(jal h.box (.int .i64 r2.clock) (.bool r2.closed) (.slice A2 r2.field.length c2) (.string l2.durable) (.string l2.pending) (.int .i64 l2.count)).1, h.res.only hS (fun (e : _ = _) => by omega), hm.only hS (fun b h4 (h5 : b = gr) => by have := h4.1; have := h4.2; omega), h.cur.keep hS (fun (e : _ = _) => by omega) (fun b (e : _ = _) => by omega), jsx h.only (Nat.le_of_lt hn.2) _ _ _ _, hs, hl, hn, h1, h2, by rw [hz]; exact h3⟩
theorem CoD.done (h : CoD w wr g gr m lo hi r l A c) (hm : m ≤ m') : js7 w g m' (.returned (.agg #[r.clock, r.closed, .slice A r.field.length c, l.durable, l.pending, l.count])) (jsm wr w.heap.size r l A c) := by
 have hS := jry wr w.heap.size r l A c
 have hz := jrz wr w.heap.size r l A c
 have hn := h.nums
 have hr := h.rng
 exact ⟨r, l, A, c, rfl, (h.mine.only hS (fun b h1 (h2 : b = w.heap.size) => by have := h1.1; omega)).wide (fun b h1 => ⟨by have := h1.1; omega, by rw [hz]; have := h1.2; omega⟩), h.small, h.log, (h.cur.more hm).keep hS (fun (e : _ = _) => by omega) (fun b (e : _ = _) => by omega), jsx h.only (Nat.le_refl _) _ _ _ _⟩
theorem CoD.relog (h : CoD w wr g gr m lo hi r l A c) (hl : l2.upto 1048576) : CoD w (((wr.setCell ⟨gr, 3, none⟩ (.string l2.durable)).setCell ⟨gr, 4, none⟩ (.string l2.pending)).setCell ⟨gr, 5, none⟩ (.int .i64 l2.count)) g gr m lo hi r l2 A c := by
 have hS : Only (fun b => b = gr) wr (((wr.setCell ⟨gr, 3, none⟩ (.string l2.durable)).setCell ⟨gr, 4, none⟩ (.string l2.pending)).setCell ⟨gr, 5, none⟩ (.int .i64 l2.count)) := jqx (jqx (jqx (Only.refl _ _) 3 _) 4 _) 5 _
 have hz : (((wr.setCell ⟨gr, 3, none⟩ (.string l2.durable)).setCell ⟨gr, 4, none⟩ (.string l2.pending)).setCell ⟨gr, 5, none⟩ (.int .i64 l2.count)).heap.size = wr.heap.size := by simp [World.setCell]
 have hn := h.nums
 have hr := h.rng
 have hle : w.heap.size ≤ gr := Nat.le_of_lt hn.2
 exact ⟨((h.box.set_ 3 _).set_ 4 _).set_ 5 _, h.res.only hS (fun (e : _ = _) => by omega), h.mine.only hS (fun b h4 (h5 : b = gr) => by have := h4.1; have := h4.2; omega), h.cur.keep hS (fun (e : _ = _) => by omega) (fun b (e : _ = _) => by omega), jqw (jqw (jqw h.only hle _) hle _) hle _, h.small, hl, hn, hr.1, hr.2.1, by rw [hz]; exact hr.2.2⟩
end
theorem jr1 {r : RaceV} {l : Log} {line : ByteArray} (h : jq3 r) : jq3 (exM r l line).race := by
 rcases jsv (r := r) (l := l) (line := line) with h1 | h1
 ·rw [h1]; exact h
 ·exact jra h1

theorem jsn (g n : Nat) (w : World) (h : Cur w g n) (hn : n ≤ 600000) : Calls Tryz.prog 65 #[.pointer (some ⟨g, 0, none⟩)] w (js7 w g (n + 1300)) := by
 have hg := h.lt
 have U0 := nB w (.cells #[.int .i64 0, false, .slice none 0 0, .string ⟨#[]⟩, .string ⟨#[]⟩, .int .i64 0] 35)
 have R0 := nP w [.int .i64 0, false, .slice none 0 0, .string ⟨#[]⟩, .string ⟨#[]⟩, .int .i64 0] 35
 have c0 := h.next U0
 have o0 : Only (fun b => b = g) w (w.alloc (.cells #[.int .i64 0, false, .slice none 0 0, .string ⟨#[]⟩, .string ⟨#[]⟩, .int .i64 0] 35)) := .of_below U0
 clear U0 h
 go_enter Tryz.func65, Tryz.ntmps65
 go_upto_region 1 with fail
 generalize w.alloc _ = w0 at *
 have l0 := R0.lt
 go_wp2_with fail
 refine (jtm g _ w0 c0 (by omega)).mono ?_
 rintro e9 w1 ⟨r, A, c, rfl, M, hsm, c9, o9⟩
 replace R0 := R0.only o9 (fun (e : _ = _) => by omega)
 replace o0 := o0.trans o9
 have l1 := R0.lt
 have UB := nB w1 (.cells #[r.clock, r.closed, .slice A r.field.length c, .string ⟨#[]⟩, .string ⟨#[]⟩, .int .i64 0] 35)
 have BX := nP w1 [r.clock, r.closed, .slice A r.field.length c, .string ⟨#[]⟩, .string ⟨#[]⟩, .int .i64 0] 35
 have hz := nZ w1 (.cells #[r.clock, r.closed, .slice A r.field.length c, .string ⟨#[]⟩, .string ⟨#[]⟩, .int .i64 0] 35)
 have D : CoD w (w1.alloc (.cells #[r.clock, r.closed, .slice A r.field.length c, .string ⟨#[]⟩, .string ⟨#[]⟩, .int .i64 0] 35)) g w1.heap.size (n + 900) w0.heap.size w1.heap.size r ⟨⟨#[]⟩, ⟨#[]⟩, 0⟩ A c :=
  ⟨BX, R0.next UB, M.next UB, c9.next UB, o0.then_ UB, hsm, ⟨Nat.zero_le _, Nat.zero_le _⟩, ⟨hg, l1⟩, l0, Or.inr (Nat.le_refl _), by omega⟩
 clear BX UB M R0 c9 o0 o9 c0
 go_upto_region 2 with fail
 generalize w1.alloc _ = w3 at *
 generalize w1.heap.size = gr at *
 go_wp2_with fail
 refine (jq0 6 g _ _ D.cur (by omega) (by decide) (by decide)).mono ?_
 rintro e9 w4 ⟨j, rfl, hj, c9, o9⟩
 have hj5 : j ≤ 5 := hj
 replace D := D.drawn c9 o9
 clear c9 o9 hj
 go_wp2_with fail
 go_loopw [4] (fun s4 wr => ∃ (j m lo hi : Nat) (r : RaceV) (l : Log) (A : Option Addr) (c : Nat), s4 = .int .i64 (j : Int) ∧ m + 54 * j ≤ n + 902 + 54 * 5 ∧ CoD w wr g gr m lo hi r l A c) (fun s4 _ => (intOf s4).toNat)
 case atStart => exact ⟨j, _, _, _, _, _, _, _, rfl, by omega, D⟩
 case round =>
  clear D
  obtain ⟨j, m, lo, hi, r, l, A, c, rfl, hm, D⟩ := hrel
  have hmm : m ≤ n + 1172 := by omega
  have pc := D.box.cell
  by_cases hpos : 0 < j
  ·obtain ⟨j, rfl⟩ : ∃ i, j = i + 1 := ⟨j - 1, by omega⟩
   have hpi : (0 : Int) < ((j + 1 : Nat) : Int) := by omega
   go_wp2_with fail
   refine (l28Good_any r.clock r.closed l A r.field.length c r.field wr D.sees (by have := D.small.1; omega) (fun x hx => by have := D.small.2 x hx; omega) D.log).mono ?_
   obtain ⟨vb, hvb⟩ : ∃ b, (jbf r.clock r.closed r.field && ja9 l) = b := ⟨_, rfl⟩
   rw [hvb]
   clear hvb
   rintro e9 w5 ⟨rfl, b9⟩
   replace D := D.below b9
   clear b9 pc
   cases vb
   ·go_wp2_with fail
    refine (jrf 24 g _ _ D.cur (by omega) (by decide) (by decide)).mono ?_
    rintro e9 w7 ⟨yes, rfl, c9, o9⟩
    replace D := D.drawn c9 o9
    clear c9 o9
    cases yes
    ·have pc := D.box.cell
     have rf := D.res.frozen
     have rc := D.res.cell
     have hne := D.nums
     go_wp2_with fail
     refine bodyPost_ret (v := .agg #[r.clock, r.closed, .slice A r.field.length c, l.durable, l.pending, l.count]) (by simp [results, Tryz.results65, go_sem, rc]) rfl ?_
     have h9 := D.done (m' := n + 1300) (by omega)
     unfold jsm at h9
     exact h9
    ·go_wp2_with fail
     refine (jr8 g _ w7 D.cur (by omega)).mono ?_
     rintro e9 w8 ⟨x, rfl, hx, c9, o9⟩
     replace D := D.drawn c9 o9
     have bc := D.box.cell
     have bf := D.box.frozen
     have D3 := D.relog (jrd hx (by decide))
     have hne := D.nums
     clear c9 o9 D
     have pc := D3.box.cell
     have rf := D3.res.frozen
     have rc := D3.res.cell
     go_wp2_with fail
     refine bodyPost_ret (v := .agg #[r.clock, r.closed, .slice A r.field.length c, x.durable, x.pending, x.count]) (by simp [results, Tryz.results65, go_sem, rc]) rfl ?_
     have h9 := D3.done (m' := n + 1300) (by omega)
     unfold jsm at h9
     exact h9
   go_upto_region 5 with fail
   replace D := D.below ((Quiet.one w5).below _)
   have pc := D.box.cell
   have pf := D.box.frozen
   refine wp_region_held_drew (S := fun w' => True) (by kernel_rfl) (by trivial) (fun hH => ?_)
   generalize w5.drew = wz at *
   refine wQ 1 ?_
   refine wR (rs := [0, 2]) (by kernel_rfl) (by simp) ?_
   refine aC rfl (fun K hK => ?_) ?_
   ·go_simp
    refine hK.out _ _ (by trivial) (fun hH => ?_)
    clear hK K
    try simp only [Act.put, pX]
    refine wR (rs := [2]) (by kernel_rfl) (by simp) ?_
    refine aC rfl (fun K hK => ?_) aN
    go_simp
    refine hK.out _ _ (by trivial) (fun hH => ?_)
    clear hK K
    try simp only [Act.put, pX]
    refine wR (rs := [3]) (by kernel_rfl) (by simp) ?_
    refine aC rfl (fun K hK => ?_) aN
    go_simp
    refine (jq8 g _ r.clock r.closed l A r.field.length c r.field wz D.cur (by omega) D.keeps D.small.1).mono ?_
    rintro e9 w9 ⟨s, he9, hs, c9, o9⟩
    replace he9 : e9 = .returned (.string s) := he9
    subst he9
    replace hs : s.size ≤ 100 := hs
    replace D := D.drawn c9 o9
    clear c9 o9 pc pf
    have pc := D.box.cell
    have pf := D.box.frozen
    generalize w9 = wz at *
    go_wp2_with fail
    refine hK.out _ _ (by trivial) (fun hH => ?_)
    clear hK K
    refine wR (rs := [4]) (by kernel_rfl) (by simp) ?_
    refine aC rfl (fun K hK => ?_) aN
    go_simp
    obtain ⟨E, hE⟩ : ∃ E, exM r l s = E := ⟨_, rfl⟩
    have CC := specExecuteCommand_any r.clock r.closed l A r.field.length c r.field s wz D.sees (by have := D.small.1; omega) (fun x hx => by have := D.small.2 x hx; omega) D.log (by omega)
    rw [show (⟨r.clock, r.closed, r.field⟩ : RaceV) = r from rfl, hE] at CC
    have HS := Lib.hid (show jq3 E.race ∧ E.log.upto 1048576 by rw [← hE]; exact ⟨jr1 D.small, jrv D.log⟩)
    clear hE
    refine CC.mono ?_
    clear CC
    rintro e9 w9 ⟨A2, c2, he9, M2, b9⟩
    replace he9 : e9 = .returned (.tuple #[.agg #[E.race.clock, E.race.closed, .slice A2 E.race.field.length c2, E.log.durable, E.log.pending, E.log.count], .string E.reply]) := he9
    subst he9
    have hgr := D.box.lt
    have hres := D.res.lt
    replace D := D.below b9
    obtain ⟨lo2, hlo⟩ : ∃ z, wz.heap.size = z := ⟨_, rfl⟩
    rw [hlo] at M2 hres hgr
    clear b9 hlo pc pf
    have pc := D.box.cell
    have pf := D.box.frozen
    generalize w9 = wz at *
    go_wp2_with fail
    refine hK.out _ _ (by trivial) (fun hH => ?_)
    clear hK K
    refine wQ 5 ?_
    refine wQ 6 ?_
    refine wQ 7 ?_
    refine wR (rs := [8]) (by kernel_rfl) (by simp) ?_
    refine aC rfl (fun K hK => ?_) aN
    go_simp
    refine hK.out _ _ (by trivial) (fun hH => ?_)
    clear hK K
    try simp only [Act.put, pX]
    refine wD (by kernel_rfl) ?_ _
    have D3 := D.put (r2 := E.race) (l2 := E.log) M2 (by omega) (Or.inl (by omega)) (Nat.le_refl _) HS.out.1 HS.out.2
    unfold jsm at D3
    clear D M2 pc pf
    go_wp2_with fail
    go_roundw
    case rel => exact ⟨j, _, _, _, _, _, _, _, by go_num, by omega, D3⟩
    case measure => simp [intOf] <;> omega
   refine aC rfl (fun K hK => ?_) aN
   ·go_simp
    refine hK.out _ _ (by trivial) (fun hH => ?_)
    clear hK K
    try simp only [Act.put, pX]
    refine wR (rs := [0, 3]) (by kernel_rfl) (by simp) ?_
    refine aC rfl (fun K hK => ?_) ?_
    ·go_simp
     refine hK.out _ _ (by trivial) (fun hH => ?_)
     clear hK K
     try simp only [Act.put, pX]
     refine wR (rs := [3]) (by kernel_rfl) (by simp) ?_
     refine aC rfl (fun K hK => ?_) aN
     go_simp
     refine (jq8 g _ r.clock r.closed l A r.field.length c r.field wz D.cur (by omega) D.keeps D.small.1).mono ?_
     rintro e9 w9 ⟨s, he9, hs, c9, o9⟩
     replace he9 : e9 = .returned (.string s) := he9
     subst he9
     replace hs : s.size ≤ 100 := hs
     replace D := D.drawn c9 o9
     clear c9 o9 pc pf
     have pc := D.box.cell
     have pf := D.box.frozen
     generalize w9 = wz at *
     go_wp2_with fail
     refine hK.out _ _ (by trivial) (fun hH => ?_)
     clear hK K
     refine wR (rs := [4]) (by kernel_rfl) (by simp) ?_
     refine aC rfl (fun K hK => ?_) aN
     go_simp
     obtain ⟨E, hE⟩ : ∃ E, exM r l s = E := ⟨_, rfl⟩
     have CC := specExecuteCommand_any r.clock r.closed l A r.field.length c r.field s wz D.sees (by have := D.small.1; omega) (fun x hx => by have := D.small.2 x hx; omega) D.log (by omega)
     rw [show (⟨r.clock, r.closed, r.field⟩ : RaceV) = r from rfl, hE] at CC
     have HS := Lib.hid (show jq3 E.race ∧ E.log.upto 1048576 by rw [← hE]; exact ⟨jr1 D.small, jrv D.log⟩)
     clear hE
     refine CC.mono ?_
     clear CC
     rintro e9 w9 ⟨A2, c2, he9, M2, b9⟩
     replace he9 : e9 = .returned (.tuple #[.agg #[E.race.clock, E.race.closed, .slice A2 E.race.field.length c2, E.log.durable, E.log.pending, E.log.count], .string E.reply]) := he9
     subst he9
     have hgr := D.box.lt
     have hres := D.res.lt
     replace D := D.below b9
     obtain ⟨lo2, hlo⟩ : ∃ z, wz.heap.size = z := ⟨_, rfl⟩
     rw [hlo] at M2 hres hgr
     clear b9 hlo pc pf
     have pc := D.box.cell
     have pf := D.box.frozen
     generalize w9 = wz at *
     go_wp2_with fail
     refine hK.out _ _ (by trivial) (fun hH => ?_)
     clear hK K
     refine wQ 5 ?_
     refine wQ 6 ?_
     refine wQ 7 ?_
     refine wR (rs := [8]) (by kernel_rfl) (by simp) ?_
     refine aC rfl (fun K hK => ?_) aN
     go_simp
     refine hK.out _ _ (by trivial) (fun hH => ?_)
     clear hK K
     try simp only [Act.put, pX]
     refine wD (by kernel_rfl) ?_ _
     have D3 := D.put (r2 := E.race) (l2 := E.log) M2 (by omega) (Or.inl (by omega)) (Nat.le_refl _) HS.out.1 HS.out.2
     unfold jsm at D3
     clear D M2 pc pf
     go_wp2_with fail
     go_roundw
     case rel => exact ⟨j, _, _, _, _, _, _, _, by go_num, by omega, D3⟩
     case measure => simp [intOf] <;> omega
    refine aC rfl (fun K hK => ?_) aN
    ·go_simp
     refine (jq8 g _ r.clock r.closed l A r.field.length c r.field wz D.cur (by omega) D.keeps D.small.1).mono ?_
     rintro e9 w9 ⟨s, he9, hs, c9, o9⟩
     replace he9 : e9 = .returned (.string s) := he9
     subst he9
     replace hs : s.size ≤ 100 := hs
     replace D := D.drawn c9 o9
     clear c9 o9 pc pf
     have pc := D.box.cell
     have pf := D.box.frozen
     generalize w9 = wz at *
     go_wp2_with fail
     refine hK.out _ _ (by trivial) (fun hH => ?_)
     clear hK K
     refine wR (rs := [0]) (by kernel_rfl) (by simp) ?_
     refine aC rfl (fun K hK => ?_) aN
     go_simp
     refine hK.out _ _ (by trivial) (fun hH => ?_)
     clear hK K
     try simp only [Act.put, pX]
     refine wR (rs := [4]) (by kernel_rfl) (by simp) ?_
     refine aC rfl (fun K hK => ?_) aN
     go_simp
     obtain ⟨E, hE⟩ : ∃ E, exM r l s = E := ⟨_, rfl⟩
     have CC := specExecuteCommand_any r.clock r.closed l A r.field.length c r.field s wz D.sees (by have := D.small.1; omega) (fun x hx => by have := D.small.2 x hx; omega) D.log (by omega)
     rw [show (⟨r.clock, r.closed, r.field⟩ : RaceV) = r from rfl, hE] at CC
     have HS := Lib.hid (show jq3 E.race ∧ E.log.upto 1048576 by rw [← hE]; exact ⟨jr1 D.small, jrv D.log⟩)
     clear hE
     refine CC.mono ?_
     clear CC
     rintro e9 w9 ⟨A2, c2, he9, M2, b9⟩
     replace he9 : e9 = .returned (.tuple #[.agg #[E.race.clock, E.race.closed, .slice A2 E.race.field.length c2, E.log.durable, E.log.pending, E.log.count], .string E.reply]) := he9
     subst he9
     have hgr := D.box.lt
     have hres := D.res.lt
     replace D := D.below b9
     obtain ⟨lo2, hlo⟩ : ∃ z, wz.heap.size = z := ⟨_, rfl⟩
     rw [hlo] at M2 hres hgr
     clear b9 hlo pc pf
     have pc := D.box.cell
     have pf := D.box.frozen
     generalize w9 = wz at *
     go_wp2_with fail
     refine hK.out _ _ (by trivial) (fun hH => ?_)
     clear hK K
     refine wQ 5 ?_
     refine wQ 6 ?_
     refine wQ 7 ?_
     refine wR (rs := [8]) (by kernel_rfl) (by simp) ?_
     refine aC rfl (fun K hK => ?_) aN
     go_simp
     refine hK.out _ _ (by trivial) (fun hH => ?_)
     clear hK K
     try simp only [Act.put, pX]
     refine wD (by kernel_rfl) ?_ _
     have D3 := D.put (r2 := E.race) (l2 := E.log) M2 (by omega) (Or.inl (by omega)) (Nat.le_refl _) HS.out.1 HS.out.2
     unfold jsm at D3
     clear D M2 pc pf
     go_wp2_with fail
     go_roundw
     case rel => exact ⟨j, _, _, _, _, _, _, _, by go_num, by omega, D3⟩
     case measure => simp [intOf] <;> omega
  ·obtain rfl : j = 0 := by omega
   have hpi : ¬ (0 : Int) < ((0 : Nat) : Int) := by omega
   go_wp2_with fail
   refine (jrf 24 g _ _ D.cur (by omega) (by decide) (by decide)).mono ?_
   rintro e9 w7 ⟨yes, rfl, c9, o9⟩
   replace D := D.drawn c9 o9
   clear c9 o9
   cases yes
   ·have pc := D.box.cell
    have rf := D.res.frozen
    have rc := D.res.cell
    have hne := D.nums
    go_wp2_with fail
    refine bodyPost_ret (v := .agg #[r.clock, r.closed, .slice A r.field.length c, l.durable, l.pending, l.count]) (by simp [results, Tryz.results65, go_sem, rc]) rfl ?_
    have h9 := D.done (m' := n + 1300) (by omega)
    unfold jsm at h9
    exact h9
   ·go_wp2_with fail
    refine (jr8 g _ w7 D.cur (by omega)).mono ?_
    rintro e9 w8 ⟨x, rfl, hx, c9, o9⟩
    replace D := D.drawn c9 o9
    have bc := D.box.cell
    have bf := D.box.frozen
    have D3 := D.relog (jrd hx (by decide))
    have hne := D.nums
    clear c9 o9 D
    have pc := D3.box.cell
    have rf := D3.res.frozen
    have rc := D3.res.cell
    go_wp2_with fail
    refine bodyPost_ret (v := .agg #[r.clock, r.closed, .slice A r.field.length c, x.durable, x.pending, x.count]) (by simp [results, Tryz.results65, go_sem, rc]) rfl ?_
    have h9 := D3.done (m' := n + 1300) (by omega)
    unfold jsm at h9
    exact h9

end Go.Proofs.YtflpcdffmpfdpaaGreatDoor
namespace Go.Proofs.YtflpcdffmpfdpaaGreatDoor
open Go.RowKit
def CodeIn (w : World) (A : Option Addr) (m : Nat) : Prop :=
 0 < m → ∃ b off, A = some ⟨b, off, none⟩ ∧ b < w.heap.size ∧ ∀ j, j < m → ∃ u : Int, w.cell? ⟨b, off + j, none⟩ = some (.int .u8 u) ∧ 0 ≤ u ∧ u ≤ 255
theorem jtt {w w' : World} {A : Option Addr} {m c g : Nat} (h : CodeIn w A m) (hm : m ≤ 1000000) (hb : Below w.heap.size w w') (hg : w.heap.size ≤ g) (hB : Blk w' g 88 [.slice A m c, .int .i64 0, .int .u64 0]) : Cur w' g 0 :=
 ⟨⟨A, m, c, 0, 0, hB, Nat.le_refl _, hm, fun h0 => by
   obtain ⟨b, off, h1, h2, h3⟩ := h h0
   refine ⟨b, off, h1, by omega, fun j hj => ?_⟩
   obtain ⟨u, h4, h5⟩ := h3 j hj
   exact ⟨u, (hb.cell (p := ⟨b, off + j, none⟩) h2).trans h4, h5⟩⟩⟩
theorem CodeIn.next {w w' : World} {A : Option Addr} {m : Nat} (h : CodeIn w A m) (hb : Below w.heap.size w w') : CodeIn w' A m := fun h0 => by
 obtain ⟨b, off, h1, h2, h3⟩ := h h0
 refine ⟨b, off, h1, Nat.lt_of_lt_of_le h2 hb.size, fun j hj => ?_⟩
 obtain ⟨u, h4, h5⟩ := h3 j hj
 exact ⟨u, (hb.cell (p := ⟨b, off + j, none⟩) h2).trans h4, h5⟩
end Go.Proofs.YtflpcdffmpfdpaaGreatDoor
namespace Go.Proofs.YtflpcdffmpfdpaaGreatDoor
open Go.RowKit

def js6 (w : World) (m : Nat) (e9 : Ending) (w' : World) : Prop := ∃ (r : RaceV) (l : Log) (A : Option Addr) (c : Nat) (s : ByteArray), e9 = .returned (.tuple #[.agg #[r.clock, r.closed, .slice A r.field.length c, l.durable, l.pending, l.count], .string s]) ∧ MineN entrantSh w' (In w.heap.size w'.heap.size) 108 188 A r.field.length c r.field ∧ jq3 r ∧ l.upto 1048576 ∧ s.size ≤ m ∧ Below w.heap.size w w'
structure DrC (w wr : World) (gs m lo hi : Nat) (r : RaceV) (l : Log) (A : Option Addr) (c : Nat) : Prop where
 box : Blk wr gs 35 [.int .i64 r.clock, .bool r.closed, .slice A r.field.length c, .string l.durable, .string l.pending, .int .i64 l.count]
 res : Blk wr w.heap.size 35 [.int .i64 0, .bool false, .slice none 0 0, .string ⟨#[]⟩, .string ⟨#[]⟩, .int .i64 0]
 mine : MineN entrantSh wr (In lo hi) 108 188 A r.field.length c r.field
 cur : Cur wr (w.heap.size + 1) m
 below : Below w.heap.size w wr
 small : jq3 r
 log : l.upto 1048576
 rng : w.heap.size + 1 < lo ∧ w.heap.size + 1 < gs ∧ (gs < lo ∨ hi ≤ gs) ∧ hi ≤ wr.heap.size
section
variable {w wr wv : World} {gs gb m m' lo hi c : Nat} {r : RaceV} {l l2 : Log} {A : Option Addr}
theorem DrC.next (h : DrC w wr gs m lo hi r l A c) (hb : Below wr.heap.size wr wv) : DrC w wv gs m lo hi r l A c := by
 have hz := hb.size
 have hr := h.rng
 exact ⟨h.box.next hb, h.res.next hb, h.mine.next hb, h.cur.next hb, jaa h.below hb, h.small, h.log, by omega⟩
theorem DrC.drawn (h : DrC w wr gs m lo hi r l A c) (hc : Cur wv (w.heap.size + 1) m') (ho : Only (fun b => b = w.heap.size + 1) wr wv) : DrC w wv gs m' lo hi r l A c := by
 have hz := ho.size
 have hr := h.rng
 exact ⟨h.box.only ho (fun (e : _ = _) => by omega), h.res.only ho (fun (e : _ = _) => by omega), h.mine.only ho (fun b h1 (h2 : b = _) => by have := h1.1; omega), hc, h.below.trans (ho.below (fun b (e : b = _) => by omega) h.below.size), h.small, h.log, by omega⟩
theorem DrC.keeps (h : DrC w wr gs m lo hi r l A c) : ∀ W, Only (fun b => b = w.heap.size + 1) wr W → SeesN entrantSh W 0 A r.field.length r.field := fun W ho => (h.mine.only ho (fun b h1 (h2 : b = _) => by have := h1.1; have := h.rng; omega)).sees
theorem DrC.done (h : DrC w wr gs m lo hi r l A c) {s : ByteArray} {k : Nat} (hs : s.size ≤ k) : js6 w k (.returned (.tuple #[.agg #[r.clock, r.closed, .slice A r.field.length c, l.durable, l.pending, l.count], .string s])) (jsm wr w.heap.size r l A c) := by
 have hS := jry wr w.heap.size r l A c
 have hz := jrz wr w.heap.size r l A c
 have hr := h.rng
 exact ⟨r, l, A, c, s, rfl, (h.mine.only hS (fun b h1 (h2 : b = w.heap.size) => by have := h1.1; omega)).wide (fun b h1 => ⟨by have := h1.1; omega, by rw [hz]; have := h1.2; omega⟩), h.small, h.log, hs, h.below.trans (hS.below (fun b (e : b = _) => by omega) h.below.size)⟩
theorem DrC.of {w0 w1 : World} (hb : Below w.heap.size w w0) (hz : w.heap.size + 2 ≤ w0.heap.size) (hR : Blk w0 w.heap.size 35 [.int .i64 0, .bool false, .slice none 0 0, .string ⟨#[]⟩, .string ⟨#[]⟩, .int .i64 0]) (hM : MineN entrantSh w1 (In w0.heap.size w1.heap.size) 108 188 A r.field.length c r.field) (hs : jq3 r) (hl : l.upto 1048576) (hc : Cur w1 (w.heap.size + 1) m) (ho : Only (fun b => b = w.heap.size + 1) w0 w1) :
  DrC w (w1.alloc (.cells #[r.clock, r.closed, .slice A r.field.length c, l.durable, l.pending, l.count] 35)) w1.heap.size m w0.heap.size w1.heap.size r l A c := by
 have U := nB w1 (.cells #[r.clock, r.closed, .slice A r.field.length c, l.durable, l.pending, l.count] 35)
 have z := ho.size
 have z2 := U.size
 exact ⟨Blk.at_ rfl, (hR.only ho (fun (e : _ = _) => by omega)).next U, hM.next U, hc.next U, (hb.trans (ho.below (fun b (e : b = _) => by omega) hb.size)).trans (U.mono (by omega)), hs, hl, by omega, by omega, Or.inr (Nat.le_refl _), by omega⟩
end

theorem jrp (A0 : Option Addr) (m0 c0 : Nat) (w : World) (hA : CodeIn w A0 m0) (hm : m0 ≤ 1000000) : Calls Tryz.prog 25 #[.slice A0 m0 c0] w (js6 w 1000) := by
 have U0 := nB2 w (.cells #[.int .i64 0, false, .slice none 0 0, .string ⟨#[]⟩, .string ⟨#[]⟩, .int .i64 0] 35) (.cells #[.slice A0 m0 c0, .int .i64 0, .int .u64 0] 88)
 have R0 := nPa w [.int .i64 0, false, .slice none 0 0, .string ⟨#[]⟩, .string ⟨#[]⟩, .int .i64 0] 35 (.cells #[.slice A0 m0 c0, .int .i64 0, .int .u64 0] 88)
 have CC : Cur ((w.alloc (.cells #[.int .i64 0, false, .slice none 0 0, .string ⟨#[]⟩, .string ⟨#[]⟩, .int .i64 0] 35)).alloc (.cells #[.slice A0 m0 c0, .int .i64 0, .int .u64 0] 88)) (w.heap.size + 1) 0 := jtt hA hm U0 (Nat.le_succ _) (Blk.at_ (by simp))
 have hz0 := nZ2 w (.cells #[.int .i64 0, false, .slice none 0 0, .string ⟨#[]⟩, .string ⟨#[]⟩, .int .i64 0] 35) (.cells #[.slice A0 m0 c0, .int .i64 0, .int .u64 0] 88)
 go_enter Tryz.func25, Tryz.ntmps25
 go_upto_region 2 with fail
 generalize (w.alloc _).alloc _ = w0 at *
 go_wp2_with fail
 refine (jsn (w.heap.size + 1) 0 w0 CC (by decide)).mono ?_
 rintro e9 w1 ⟨r, l, A, c, rfl, M, hsm, hl, c9, o9⟩
 have D := DrC.of U0 hz0 R0 M hsm hl c9 o9
 clear U0 R0 CC M hsm hl c9 o9 hA
 go_upto_region 3 with fail
 generalize w1.alloc _ = w2 at *
 generalize w1.heap.size = gs at *
 obtain ⟨lo9, hlo9⟩ : ∃ z, w0.heap.size = z := ⟨_, rfl⟩
 rw [hlo9] at D
 clear hlo9
 clear hz0
 have pc := D.box.cell
 go_wp2_with fail
 refine (jq8 (w.heap.size + 1) _ r.clock r.closed l A r.field.length c r.field _ D.cur (by omega) D.keeps D.small.1).mono ?_
 rintro e9 w3 ⟨s, rfl, hs, c9, o9⟩
 replace hs : s.size ≤ 100 := hs
 replace D := D.drawn c9 o9
 clear c9 o9
 clear pc
 go_wp2_with fail
 refine (jq0 5 (w.heap.size + 1) _ _ D.cur (by omega) (by decide) (by decide)).mono ?_
 rintro e9 w4 ⟨j, rfl, hj, c9, o9⟩
 replace D := D.drawn c9 o9
 have hj4 : j ≤ 4 := hj
 clear c9 o9 hj
 go_wp2_with fail
 go_loopw [6, 7] (fun s6 s7 wr => ∃ (T : ByteArray) (j m : Nat), s6 = .string T ∧ s7 = .int .i64 (j : Int) ∧ j ≤ 4 ∧ T.size + 101 * j ≤ 504 ∧ m + 54 * j ≤ 1600 ∧ DrC w wr gs m lo9 gs r l A c) (fun _ s7 _ => (intOf s7).toNat)
 case atStart => exact ⟨s, j, _, rfl, rfl, hj4, by omega, by omega, D⟩
 case round =>
  clear D hs hj4
  obtain ⟨T, j, m, rfl, rfl, hj4, hT, hmm, D⟩ := hrel
  by_cases hpos : 0 < j
  ·obtain ⟨j, rfl⟩ : ∃ i, j = i + 1 := ⟨j - 1, by omega⟩
   have hpi : (0 : Int) < ((j + 1 : Nat) : Int) := by omega
   have g1 : ¬ 9223372036854775807 < T.size + 1 := by omega
   have pc := D.box.cell
   go_wp2_with fail
   refine (jq8 (w.heap.size + 1) _ r.clock r.closed l A r.field.length c r.field _ D.cur (by omega) D.keeps D.small.1).mono ?_
   rintro e9 w5 ⟨q, rfl, hq, c9, o9⟩
   replace hq : q.size ≤ 100 := hq
   replace D := D.drawn c9 o9
   clear c9 o9
   have g2 : ¬ 9223372036854775807 < T.size + 1 + q.size := by omega
   have hsz : (T ++ ⟨#[10]⟩ ++ q).size = T.size + 1 + q.size := by rw [ByteArray.size_append, ByteArray.size_append]; rfl
   go_wp2_with fail
   go_roundw
   case rel => exact ⟨_, j, _, rfl, by go_num, by omega, by rw [hsz]; omega, by omega, D⟩
   case measure => simp [intOf] <;> omega
  ·obtain rfl : j = 0 := by omega
   have hpi : ¬ (0 : Int) < ((0 : Nat) : Int) := by omega
   go_wp2_with fail
   refine (jrf 20 (w.heap.size + 1) _ _ D.cur (by omega) (by decide) (by decide)).mono ?_
   rintro e9 w5 ⟨yes, rfl, c9, o9⟩
   replace D := D.drawn c9 o9
   clear c9 o9
   cases yes
   ·have pc := D.box.cell
    have rf := D.res.frozen
    have rc := D.res.cell
    have hne := D.rng
    go_wp2_with fail
    refine bodyPost_ret (v := .tuple #[.agg #[r.clock, r.closed, .slice A r.field.length c, l.durable, l.pending, l.count], .string T]) (by simp [results, Tryz.results25, go_sem, rc]) rfl ?_
    have h9 := D.done (s := T) (k := 1000) (by omega)
    unfold jsm at h9
    exact h9
   ·go_wp2_with fail
    refine (jq0 2 (w.heap.size + 1) _ _ D.cur (by omega) (by decide) (by decide)).mono ?_
    rintro e9 w6 ⟨a, rfl, ha, c9, o9⟩
    replace D := D.drawn c9 o9
    have ha1 : a ≤ 1 := ha
    clear c9 o9 ha
    obtain ⟨i0, hi0⟩ : ∃ i0 : Nat, (29 : Int) + (a : Int) = (i0 : Int) ∧ i0 ≤ 30 := ⟨29 + a, by omega, by omega⟩
    have hi1 := hi0.1
    have hi2 := hi0.2
    clear hi0
    go_wp2_with fail
    try rw [hi1]
    clear hi1
    go_loopw [6, 8] (fun s6 s8 wr => ∃ (T : ByteArray) (j : Nat), s6 = .string T ∧ s8 = .int .i64 (j : Int) ∧ j ≤ 30 ∧ T.size + j ≤ 30 ∧ wr = w6) (fun _ s8 _ => (intOf s8).toNat)
    case atStart => exact ⟨⟨#[]⟩, i0, rfl, rfl, hi2, by show 0 + i0 ≤ 30; omega, by first | trivial | rfl⟩
    case round =>
     obtain ⟨T, j, rfl, rfl, hj3, hT3, rfl⟩ := hrel
     by_cases hpos : 0 < j
     ·obtain ⟨j, rfl⟩ : ∃ i, j = i + 1 := ⟨j - 1, by omega⟩
      have hpi : (0 : Int) < ((j + 1 : Nat) : Int) := by omega
      have g1 : ¬ 9223372036854775807 < T.size + 1 := by omega
      have hsz : (T ++ ⟨#[10]⟩).size = T.size + 1 := by rw [ByteArray.size_append]; rfl
      go_wp2_with fail
      go_roundw
      case rel => exact ⟨_, j, rfl, by go_num, by omega, by rw [hsz]; omega, by first | trivial | rfl⟩
      case measure => simp [intOf] <;> omega
     ·obtain rfl : j = 0 := by omega
      have hpi : ¬ (0 : Int) < ((0 : Nat) : Int) := by omega
      have pc := D.box.cell
      have rf := D.res.frozen
      have rc := D.res.cell
      have hne := D.rng
      go_wp2_with fail
      refine bodyPost_ret (v := .tuple #[.agg #[r.clock, r.closed, .slice A r.field.length c, l.durable, l.pending, l.count], .string T]) (by simp [results, Tryz.results25, go_sem, rc]) rfl ?_
      have h9 := D.done (s := T) (k := 1000) (by omega)
      unfold jsm at h9
      exact h9

end Go.Proofs.YtflpcdffmpfdpaaGreatDoor
namespace Go.Proofs.YtflpcdffmpfdpaaGreatDoor
open Go.RowKit
theorem jrs (c : UInt8) : ∀ (l p : List UInt8), p ∈ ja6 c l → ∀ x ∈ p, x ≠ c
 | [], p, hp, x, hx => by
  rw [ja6, List.mem_singleton] at hp
  rw [hp] at hx
  cases hx
 | b :: r, p, hp, x, hx => by
  rw [ja6] at hp
  split at hp
  ·rcases List.mem_cons.1 hp with h | h
   ·rw [h] at hx; cases hx
   ·exact jrs c r p h x hx
  ·rename_i hb
   have ih := jrs c r
   cases hs : ja6 c r with
   | nil =>
    rw [hs] at hp
    rw [ji8, List.mem_singleton] at hp
    rw [hp, List.mem_singleton] at hx
    rw [hx]; exact hb
   | cons q qs =>
    rw [hs] at hp ih
    rw [ji8] at hp
    rcases List.mem_cons.1 hp with h | h
    ·rw [h] at hx
     rcases List.mem_cons.1 hx with h2 | h2
     ·rw [h2]; exact hb
     ·exact ih q List.mem_cons_self x h2
    ·exact ih p (List.mem_cons_of_mem _ h) x hx
theorem jsr {s x : ByteArray} (h : x ∈ jbb 10 s) : jbb 10 x = [x] := by
 unfold jbb at h
 obtain ⟨p, hp, rfl⟩ := List.mem_map.1 h
 unfold jbb
 rw [jg1 (jrs 10 _ p hp)]
 rfl
theorem jsi {r : RaceV} {l : Log} {text : ByteArray} {reps : List ByteArray} {x : ByteArray} {L : List ByteArray} (h : jq1 r l text = some reps) (hL : jbb 10 text = x :: L) : jq1 r l x = some [(exM r l x).reply] ∧ ∃ R, reps = (exM r l x).reply :: R := by
 unfold jq1 at h
 split at h
 ·rename_i hc
  injection h with h
  have hx : x ∈ jbb 10 text := by rw [hL]; exact List.mem_cons_self
  have h1 := jsr hx
  have h2 := jg5 10 text hx
  refine ⟨?_, ?_⟩
  ·unfold jq1
   rw [h1, if_pos ⟨hc.1, by omega, by simp⟩]
   rfl
  ·rw [hL] at h
   exact ⟨_, h.symm⟩
 ·cases h
theorem jsj {r : RaceV} {l : Log} {text : ByteArray} {reps : List ByteArray} (h : jq1 r l text = some reps) : reps.length = (jbb 10 text).length ∧ reps.length ≤ 30 := by
 unfold jq1 at h
 split at h
 ·rename_i hc
  injection h with h
  have h1 := jrb (jbb 10 text) r l
  rw [h] at h1
  exact ⟨h1, by omega⟩
 ·cases h
def jr7 (w : World) (L : List ByteArray) (e : Ending) (w' : World) : Prop :=
 ∃ (A : Option Addr) (c : Nat), e = .returned (.tuple #[.slice A L.length c, .bool true]) ∧ w'.ownsRow w.heap.size 9 1 (.slice A L.length c) L.length (jkz L) ∧ Below w.heap.size w w'
theorem jre (s : ByteArray) (w : World) (hs : s.size ≤ 4000) : Calls Tryz.prog 29 #[.string s, .string ⟨#[10]⟩] w (jr7 w (jbb 10 s)) := by
 have h1 : ¬ (4000 : Int) < (s.size : Int) := by omega
 go_enter Tryz.func29, Tryz.ntmps29
 go_wp2_with fail
 refine (jlg s 10 10 w rfl (by omega)).mono ?_
 rintro e w1 ⟨A, c, rfl, h2, h3⟩
 go_wp2_with fail
 go_ret2
 exact ⟨A, c, rfl, h2, h3⟩
theorem jsz (A : Option Addr) (m c : Nat) (w : World) (hm : m ≤ 9223372036854775807) : Calls Tryz.prog 21 #[.slice A m c] w fun e w' => e = .returned (.bool (decide (65536 < m))) ∧ w = w' := by
 by_cases h : 65536 < m
 ·have h' : (65536 : Int) < (m : Int) := by omega
  have hd := Lib.hid (decide_eq_true h)
  go_enter Tryz.func21, Tryz.ntmps21
  go_wp2_with fail
  go_ret
  exact ⟨jab (a := true) hd.out.symm, rfl⟩
 ·have h' : ¬ (65536 : Int) < (m : Int) := by omega
  go_enter Tryz.func21, Tryz.ntmps21
  go_wp2_with fail
  go_ret
  exact ⟨rfl, rfl⟩
end Go.Proofs.YtflpcdffmpfdpaaGreatDoor
