/- Joined texts of this proof: CurRd, CurI, CurRe, CurRf, ConP, Repl, ReplQ. -/
import Derived.Test.YtflpcdffmpfdpaaGreatDoorE03
import Derived.Test.YtflpcdffmpfdpaaGreatDoorE04
import Derived.Test.YtflpcdffmpfdpaaGreatDoorE02
import Derived.Test.YtflpcdffmpfdpaaGreatDoorB20
import Derived.Test.YtflpcdffmpfdpaaGreatDoorE01
import Derived.Test.YtflpcdffmpfdpaaGreatDoorU01
set_option maxRecDepth 100000
set_option maxHeartbeats 8000000
namespace Go.Proofs.YtflpcdffmpfdpaaGreatDoor
open Go.RowKit

def jsu (w : World) (g n : Nat) (e9 : Ending) (w' : World) : Prop := ∃ (r : RaceV) (l : Log) (A : Option Addr) (c : Nat), e9 = .returned (.agg #[r.clock, r.closed, .slice A r.field.length c, l.durable, l.pending, l.count]) ∧ MineN entrantSh w' (In w.heap.size w'.heap.size) 108 188 A r.field.length c r.field ∧ jq1 r ∧ l.upto 1048576 ∧ Cur w' g n ∧ Only (fun b => b = g) w w'
structure CoD (w wr : World) (g gr m lo hi : Nat) (r : RaceV) (l : Log) (A : Option Addr) (c : Nat) : Prop where
 box : Blk wr gr 35 [.int .i64 r.clock, .bool r.closed, .slice A r.field.length c, .string l.durable, .string l.pending, .int .i64 l.count]
 res : Blk wr w.heap.size 35 [.int .i64 0, .bool false, .slice none 0 0, .string ⟨#[]⟩, .string ⟨#[]⟩, .int .i64 0]
 mine : MineN entrantSh wr (In lo hi) 108 188 A r.field.length c r.field
 cur : Cur wr g m
 only : Only (fun b => b = g) w wr
 small : jq1 r
 log : l.upto 1048576
 nums : g < w.heap.size ∧ w.heap.size < gr
 rng : w.heap.size < lo ∧ (gr < lo ∨ hi ≤ gr) ∧ hi ≤ wr.heap.size
def jsa (W : World) (gr : Nat) (r : RaceV) (l : Log) (A : Option Addr) (c : Nat) : World := (((((W.setCell ⟨gr, 0, none⟩ (.int .i64 r.clock)).setCell ⟨gr, 1, none⟩ (.bool r.closed)).setCell ⟨gr, 2, none⟩ (.slice A r.field.length c)).setCell ⟨gr, 3, none⟩ (.string l.durable)).setCell ⟨gr, 4, none⟩ (.string l.pending)).setCell ⟨gr, 5, none⟩ (.int .i64 l.count)
section
variable {w wr wv : World} {g gr m m' lo hi lo2 hi2 c c2 : Nat} {r r2 : RaceV} {l l2 : Log} {A A2 : Option Addr}
theorem CoD.more (h : CoD w wr g gr m lo hi r l A c) (hm : m ≤ m') : CoD w wr g gr m' lo hi r l A c := { h with cur := h.cur.more hm }
theorem CoD.below (h : CoD w wr g gr m lo hi r l A c) (hb : Below wr.heap.size wr wv) : CoD w wv g gr m lo hi r l A c := by
 have hz := hb.size
 have hr := h.rng
 exact ⟨h.box.next hb, h.res.next hb, h.mine.next hb, h.cur.next hb, h.only.then_ hb, h.small, h.log, h.nums, by omega⟩
theorem CoD.drawn (h : CoD w wr g gr m lo hi r l A c) (hc : Cur wv g m') (ho : Only (fun b => b = g) wr wv) : CoD w wv g gr m' lo hi r l A c := by
 have hn := h.nums
 have hz := ho.size
 have hr := h.rng
 exact ⟨h.box.only ho (fun (e : _ = _) => by omega), h.res.only ho (fun (e : _ = _) => by omega), h.mine.only ho (fun b h1 (h2 : b = g) => by have := h1.1; omega), hc, h.only.trans ho, h.small, h.log, hn, by omega⟩
theorem CoD.sees (h : CoD w wr g gr m lo hi r l A c) : SeesN entrantSh wr 0 A r.field.length r.field := h.mine.sees
theorem CoD.keeps (h : CoD w wr g gr m lo hi r l A c) : ∀ W, Only (fun b => b = g) wr W → SeesN entrantSh W 0 A r.field.length r.field := fun W ho => (h.mine.only ho (fun b h1 (h2 : b = g) => by have := h1.1; have := h.nums; have := h.rng; omega)).sees
theorem jrm (W : World) (gr : Nat) (r : RaceV) (l : Log) (A : Option Addr) (c : Nat) : Only (fun b => b = gr) W (jsa W gr r l A c) := jqx (jqx (jqx (jqx (jqx (jqx (Only.refl _ _) 0 _) 1 _) 2 _) 3 _) 4 _) 5 _
theorem jrn (W : World) (gr : Nat) (r : RaceV) (l : Log) (A : Option Addr) (c : Nat) : (jsa W gr r l A c).heap.size = W.heap.size := by simp [jsa, World.setCell]
theorem jsh {a W : World} {S : Nat → Prop} (h : Only S a W) {gr : Nat} (hle : a.heap.size ≤ gr) (r : RaceV) (l : Log) (A : Option Addr) (c : Nat) : Only S a (jsa W gr r l A c) := jqw (jqw (jqw (jqw (jqw (jqw h hle _) hle _) hle _) hle _) hle _) hle _
theorem CoD.put (h : CoD w wr g gr m lo hi r l A c) (hm : MineN entrantSh wr (In lo2 hi2) 108 188 A2 r2.field.length c2 r2.field) (h1 : w.heap.size < lo2) (h2 : gr < lo2 ∨ hi2 ≤ gr) (h3 : hi2 ≤ wr.heap.size) (hs : jq1 r2) (hl : l2.upto 1048576) : CoD w (jsa wr gr r2 l2 A2 c2) g gr m lo2 hi2 r2 l2 A2 c2 := by
 have hS := jrm wr gr r2 l2 A2 c2
 have hz := jrn wr gr r2 l2 A2 c2
 have hn := h.nums
 exact ⟨(jal h.box (.int .i64 r2.clock) (.bool r2.closed) (.slice A2 r2.field.length c2) (.string l2.durable) (.string l2.pending) (.int .i64 l2.count)).1, h.res.only hS (fun (e : _ = _) => by omega), hm.only hS (fun b h4 (h5 : b = gr) => by have := h4.1; have := h4.2; omega), h.cur.keep hS (fun (e : _ = _) => by omega) (fun b (e : _ = _) => by omega), jsh h.only (Nat.le_of_lt hn.2) _ _ _ _, hs, hl, hn, h1, h2, by rw [hz]; exact h3⟩
theorem CoD.done (h : CoD w wr g gr m lo hi r l A c) (hm : m ≤ m') : jsu w g m' (.returned (.agg #[r.clock, r.closed, .slice A r.field.length c, l.durable, l.pending, l.count])) (jsa wr w.heap.size r l A c) := by
 have hS := jrm wr w.heap.size r l A c
 have hz := jrn wr w.heap.size r l A c
 have hn := h.nums
 have hr := h.rng
 exact ⟨r, l, A, c, rfl, (h.mine.only hS (fun b h1 (h2 : b = w.heap.size) => by have := h1.1; omega)).wide (fun b h1 => ⟨by have := h1.1; omega, by rw [hz]; have := h1.2; omega⟩), h.small, h.log, (h.cur.more hm).keep hS (fun (e : _ = _) => by omega) (fun b (e : _ = _) => by omega), jsh h.only (Nat.le_refl _) _ _ _ _⟩
theorem CoD.relog (h : CoD w wr g gr m lo hi r l A c) (hl : l2.upto 1048576) : CoD w (((wr.setCell ⟨gr, 3, none⟩ (.string l2.durable)).setCell ⟨gr, 4, none⟩ (.string l2.pending)).setCell ⟨gr, 5, none⟩ (.int .i64 l2.count)) g gr m lo hi r l2 A c := by
 have hS : Only (fun b => b = gr) wr (((wr.setCell ⟨gr, 3, none⟩ (.string l2.durable)).setCell ⟨gr, 4, none⟩ (.string l2.pending)).setCell ⟨gr, 5, none⟩ (.int .i64 l2.count)) := jqx (jqx (jqx (Only.refl _ _) 3 _) 4 _) 5 _
 have hz : (((wr.setCell ⟨gr, 3, none⟩ (.string l2.durable)).setCell ⟨gr, 4, none⟩ (.string l2.pending)).setCell ⟨gr, 5, none⟩ (.int .i64 l2.count)).heap.size = wr.heap.size := by simp [World.setCell]
 have hn := h.nums
 have hr := h.rng
 have hle : w.heap.size ≤ gr := Nat.le_of_lt hn.2
 exact ⟨((h.box.set_ 3 _).set_ 4 _).set_ 5 _, h.res.only hS (fun (e : _ = _) => by omega), h.mine.only hS (fun b h4 (h5 : b = gr) => by have := h4.1; have := h4.2; omega), h.cur.keep hS (fun (e : _ = _) => by omega) (fun b (e : _ = _) => by omega), jqw (jqw (jqw h.only hle _) hle _) hle _, h.small, hl, hn, hr.1, hr.2.1, by rw [hz]; exact hr.2.2⟩
end
theorem jrf {r : RaceV} {l : Log} {line : ByteArray} (h : jq1 r) : jq1 (exM r l line).race := by
 rcases jtm (r := r) (l := l) (line := line) with h1 | h1
 ·rw [h1]; exact h
 ·exact jq5 h1

theorem jsb (g n : Nat) (w : World) (h : Cur w g n) (hn : n ≤ 600000) : Calls Tryz.prog 65 #[.pointer (some ⟨g, 0, none⟩)] w (jsu w g (n + 1300)) := by
 have hg := h.lt
 have U0 := nB w (.cells #[.int .i64 0, false, .slice none 0 0, .string ⟨#[]⟩, .string ⟨#[]⟩, .int .i64 0] 35)
 have R0 := nP w [.int .i64 0, false, .slice none 0 0, .string ⟨#[]⟩, .string ⟨#[]⟩, .int .i64 0] 35
 have c0 := h.next U0
 have o0 : Only (fun b => b = g) w (w.alloc (.cells #[.int .i64 0, false, .slice none 0 0, .string ⟨#[]⟩, .string ⟨#[]⟩, .int .i64 0] 35)) := .of_below U0
 clear U0 h
 go_enter Tryz.func65, Tryz.ntmps65
 go_upto_region 1 with fail
 generalize w.alloc _ = w0 at *
 have l0 := R0.lt
 go_wp2_with fail
 refine (jts g _ w0 c0 (by omega)).mono ?_
 rintro e9 w1 ⟨r, A, c, rfl, M, hsm, c9, o9⟩
 replace R0 := R0.only o9 (fun (e : _ = _) => by omega)
 replace o0 := o0.trans o9
 have l1 := R0.lt
 have UB := nB w1 (.cells #[r.clock, r.closed, .slice A r.field.length c, .string ⟨#[]⟩, .string ⟨#[]⟩, .int .i64 0] 35)
 have BX := nP w1 [r.clock, r.closed, .slice A r.field.length c, .string ⟨#[]⟩, .string ⟨#[]⟩, .int .i64 0] 35
 have hz := nZ w1 (.cells #[r.clock, r.closed, .slice A r.field.length c, .string ⟨#[]⟩, .string ⟨#[]⟩, .int .i64 0] 35)
 have D : CoD w (w1.alloc (.cells #[r.clock, r.closed, .slice A r.field.length c, .string ⟨#[]⟩, .string ⟨#[]⟩, .int .i64 0] 35)) g w1.heap.size (n + 900) w0.heap.size w1.heap.size r ⟨⟨#[]⟩, ⟨#[]⟩, 0⟩ A c :=
  ⟨BX, R0.next UB, M.next UB, c9.next UB, o0.then_ UB, hsm, ⟨Nat.zero_le _, Nat.zero_le _⟩, ⟨hg, l1⟩, l0, Or.inr (Nat.le_refl _), by omega⟩
 clear BX UB M R0 c9 o0 o9 c0
 go_upto_region 2 with fail
 generalize w1.alloc _ = w3 at *
 generalize w1.heap.size = gr at *
 go_wp2_with fail
 refine (jqy 6 g _ _ D.cur (by omega) (by decide) (by decide)).mono ?_
 rintro e9 w4 ⟨j, rfl, hj, c9, o9⟩
 have hj5 : j ≤ 5 := hj
 replace D := D.drawn c9 o9
 clear c9 o9 hj
 go_wp2_with fail
 go_loopw [4] (fun s4 wr => ∃ (j m lo hi : Nat) (r : RaceV) (l : Log) (A : Option Addr) (c : Nat), s4 = .int .i64 (j : Int) ∧ m + 54 * j ≤ n + 902 + 54 * 5 ∧ CoD w wr g gr m lo hi r l A c) (fun s4 _ => (intOf s4).toNat)
 case atStart => exact ⟨j, _, _, _, _, _, _, _, rfl, by omega, D⟩
 case round =>
  clear D
  obtain ⟨j, m, lo, hi, r, l, A, c, rfl, hm, D⟩ := hrel
  have hmm : m ≤ n + 1172 := by omega
  have pc := D.box.cell
  by_cases hpos : 0 < j
  ·obtain ⟨j, rfl⟩ : ∃ i, j = i + 1 := ⟨j - 1, by omega⟩
   have hpi : (0 : Int) < ((j + 1 : Nat) : Int) := by omega
   go_wp2_with fail
   refine (l28Good_any r.clock r.closed l A r.field.length c r.field wr D.sees (by have := D.small.1; omega) (fun x hx => by have := D.small.2 x hx; omega) D.log).mono ?_
   obtain ⟨vb, hvb⟩ : ∃ b, (jbf r.clock r.closed r.field && ja9 l) = b := ⟨_, rfl⟩
   rw [hvb]
   clear hvb
   rintro e9 w5 ⟨rfl, b9⟩
   replace D := D.below b9
   clear b9 pc
   cases vb
   ·go_wp2_with fail
    refine (jq7 24 g _ _ D.cur (by omega) (by decide) (by decide)).mono ?_
    rintro e9 w7 ⟨yes, rfl, c9, o9⟩
    replace D := D.drawn c9 o9
    clear c9 o9
    cases yes
    ·have pc := D.box.cell
     have rf := D.res.frozen
     have rc := D.res.cell
     have hne := D.nums
     go_wp2_with fail
     refine bodyPost_ret (v := .agg #[r.clock, r.closed, .slice A r.field.length c, l.durable, l.pending, l.count]) (by simp [results, Tryz.results65, go_sem, rc]) rfl ?_
     have h9 := D.done (m' := n + 1300) (by omega)
     unfold jsa at h9
     exact h9
    ·go_wp2_with fail
     refine (jru g _ w7 D.cur (by omega)).mono ?_
     rintro e9 w8 ⟨x, rfl, hx, c9, o9⟩
     replace D := D.drawn c9 o9
     have bc := D.box.cell
     have bf := D.box.frozen
     have D3 := D.relog (jq4 hx (by decide))
     have hne := D.nums
     clear c9 o9 D
     have pc := D3.box.cell
     have rf := D3.res.frozen
     have rc := D3.res.cell
     go_wp2_with fail
     refine bodyPost_ret (v := .agg #[r.clock, r.closed, .slice A r.field.length c, x.durable, x.pending, x.count]) (by simp [results, Tryz.results65, go_sem, rc]) rfl ?_
     have h9 := D3.done (m' := n + 1300) (by omega)
     unfold jsa at h9
     exact h9
   go_upto_region 5 with fail
   replace D := D.below ((Quiet.one w5).below _)
   have pc := D.box.cell
   have pf := D.box.frozen
   refine wp_region_held_drew (S := fun w' => True) (by kernel_rfl) (by trivial) (fun hH => ?_)
   generalize w5.drew = wz at *
   refine wQ 1 ?_
   refine wR (rs := [0, 2]) (by kernel_rfl) (by simp) ?_
   refine aC rfl (fun K hK => ?_) ?_
   ·go_simp
    refine hK.out _ _ (by trivial) (fun hH => ?_)
    clear hK K
    try simp only [Act.put, pX]
    refine wR (rs := [2]) (by kernel_rfl) (by simp) ?_
    refine aC rfl (fun K hK => ?_) aN
    go_simp
    refine hK.out _ _ (by trivial) (fun hH => ?_)
    clear hK K
    try simp only [Act.put, pX]
    refine wR (rs := [3]) (by kernel_rfl) (by simp) ?_
    refine aC rfl (fun K hK => ?_) aN
    go_simp
    refine (jq6 g _ r.clock r.closed l A r.field.length c r.field wz D.cur (by omega) D.keeps D.small.1).mono ?_
    rintro e9 w9 ⟨s, he9, hs, c9, o9⟩
    replace he9 : e9 = .returned (.string s) := he9
    subst he9
    replace hs : s.size ≤ 100 := hs
    replace D := D.drawn c9 o9
    clear c9 o9 pc pf
    have pc := D.box.cell
    have pf := D.box.frozen
    generalize w9 = wz at *
    go_wp2_with fail
    refine hK.out _ _ (by trivial) (fun hH => ?_)
    clear hK K
    refine wR (rs := [4]) (by kernel_rfl) (by simp) ?_
    refine aC rfl (fun K hK => ?_) aN
    go_simp
    obtain ⟨E, hE⟩ : ∃ E, exM r l s = E := ⟨_, rfl⟩
    have CC := specExecuteCommand_any r.clock r.closed l A r.field.length c r.field s wz D.sees (by have := D.small.1; omega) (fun x hx => by have := D.small.2 x hx; omega) D.log (by omega)
    rw [show (⟨r.clock, r.closed, r.field⟩ : RaceV) = r from rfl, hE] at CC
    have HS := Lib.hid (show jq1 E.race ∧ E.log.upto 1048576 by rw [← hE]; exact ⟨jrf D.small, jr0 D.log⟩)
    clear hE
    refine CC.mono ?_
    clear CC
    rintro e9 w9 ⟨A2, c2, he9, M2, b9⟩
    replace he9 : e9 = .returned (.tuple #[.agg #[E.race.clock, E.race.closed, .slice A2 E.race.field.length c2, E.log.durable, E.log.pending, E.log.count], .string E.reply]) := he9
    subst he9
    have hgr := D.box.lt
    have hres := D.res.lt
    replace D := D.below b9
    obtain ⟨lo2, hlo⟩ : ∃ z, wz.heap.size = z := ⟨_, rfl⟩
    rw [hlo] at M2 hres hgr
    clear b9 hlo pc pf
    have pc := D.box.cell
    have pf := D.box.frozen
    generalize w9 = wz at *
    go_wp2_with fail
    refine hK.out _ _ (by trivial) (fun hH => ?_)
    clear hK K
    refine wQ 5 ?_
    refine wQ 6 ?_
    refine wQ 7 ?_
    refine wR (rs := [8]) (by kernel_rfl) (by simp) ?_
    refine aC rfl (fun K hK => ?_) aN
    go_simp
    refine hK.out _ _ (by trivial) (fun hH => ?_)
    clear hK K
    try simp only [Act.put, pX]
    refine wD (by kernel_rfl) ?_ _
    have D3 := D.put (r2 := E.race) (l2 := E.log) M2 (by omega) (Or.inl (by omega)) (Nat.le_refl _) HS.out.1 HS.out.2
    unfold jsa at D3
    clear D M2 pc pf
    go_wp2_with fail
    go_roundw
    case rel => exact ⟨j, _, _, _, _, _, _, _, by go_num, by omega, D3⟩
    case measure => simp [intOf] <;> omega
   refine aC rfl (fun K hK => ?_) aN
   ·go_simp
    refine hK.out _ _ (by trivial) (fun hH => ?_)
    clear hK K
    try simp only [Act.put, pX]
    refine wR (rs := [0, 3]) (by kernel_rfl) (by simp) ?_
    refine aC rfl (fun K hK => ?_) ?_
    ·go_simp
     refine hK.out _ _ (by trivial) (fun hH => ?_)
     clear hK K
     try simp only [Act.put, pX]
     refine wR (rs := [3]) (by kernel_rfl) (by simp) ?_
     refine aC rfl (fun K hK => ?_) aN
     go_simp
     refine (jq6 g _ r.clock r.closed l A r.field.length c r.field wz D.cur (by omega) D.keeps D.small.1).mono ?_
     rintro e9 w9 ⟨s, he9, hs, c9, o9⟩
     replace he9 : e9 = .returned (.string s) := he9
     subst he9
     replace hs : s.size ≤ 100 := hs
     replace D := D.drawn c9 o9
     clear c9 o9 pc pf
     have pc := D.box.cell
     have pf := D.box.frozen
     generalize w9 = wz at *
     go_wp2_with fail
     refine hK.out _ _ (by trivial) (fun hH => ?_)
     clear hK K
     refine wR (rs := [4]) (by kernel_rfl) (by simp) ?_
     refine aC rfl (fun K hK => ?_) aN
     go_simp
     obtain ⟨E, hE⟩ : ∃ E, exM r l s = E := ⟨_, rfl⟩
     have CC := specExecuteCommand_any r.clock r.closed l A r.field.length c r.field s wz D.sees (by have := D.small.1; omega) (fun x hx => by have := D.small.2 x hx; omega) D.log (by omega)
     rw [show (⟨r.clock, r.closed, r.field⟩ : RaceV) = r from rfl, hE] at CC
     have HS := Lib.hid (show jq1 E.race ∧ E.log.upto 1048576 by rw [← hE]; exact ⟨jrf D.small, jr0 D.log⟩)
     clear hE
     refine CC.mono ?_
     clear CC
     rintro e9 w9 ⟨A2, c2, he9, M2, b9⟩
     replace he9 : e9 = .returned (.tuple #[.agg #[E.race.clock, E.race.closed, .slice A2 E.race.field.length c2, E.log.durable, E.log.pending, E.log.count], .string E.reply]) := he9
     subst he9
     have hgr := D.box.lt
     have hres := D.res.lt
     replace D := D.below b9
     obtain ⟨lo2, hlo⟩ : ∃ z, wz.heap.size = z := ⟨_, rfl⟩
     rw [hlo] at M2 hres hgr
     clear b9 hlo pc pf
     have pc := D.box.cell
     have pf := D.box.frozen
     generalize w9 = wz at *
     go_wp2_with fail
     refine hK.out _ _ (by trivial) (fun hH => ?_)
     clear hK K
     refine wQ 5 ?_
     refine wQ 6 ?_
     refine wQ 7 ?_
     refine wR (rs := [8]) (by kernel_rfl) (by simp) ?_
     refine aC rfl (fun K hK => ?_) aN
     go_simp
     refine hK.out _ _ (by trivial) (fun hH => ?_)
     clear hK K
     try simp only [Act.put, pX]
     refine wD (by kernel_rfl) ?_ _
     have D3 := D.put (r2 := E.race) (l2 := E.log) M2 (by omega) (Or.inl (by omega)) (Nat.le_refl _) HS.out.1 HS.out.2
     unfold jsa at D3
     clear D M2 pc pf
     go_wp2_with fail
     go_roundw
     case rel => exact ⟨j, _, _, _, _, _, _, _, by go_num, by omega, D3⟩
     case measure => simp [intOf] <;> omega
    refine aC rfl (fun K hK => ?_) aN
    ·go_simp
     refine (jq6 g _ r.clock r.closed l A r.field.length c r.field wz D.cur (by omega) D.keeps D.small.1).mono ?_
     rintro e9 w9 ⟨s, he9, hs, c9, o9⟩
     replace he9 : e9 = .returned (.string s) := he9
     subst he9
     replace hs : s.size ≤ 100 := hs
     replace D := D.drawn c9 o9
     clear c9 o9 pc pf
     have pc := D.box.cell
     have pf := D.box.frozen
     generalize w9 = wz at *
     go_wp2_with fail
     refine hK.out _ _ (by trivial) (fun hH => ?_)
     clear hK K
     refine wR (rs := [0]) (by kernel_rfl) (by simp) ?_
     refine aC rfl (fun K hK => ?_) aN
     go_simp
     refine hK.out _ _ (by trivial) (fun hH => ?_)
     clear hK K
     try simp only [Act.put, pX]
     refine wR (rs := [4]) (by kernel_rfl) (by simp) ?_
     refine aC rfl (fun K hK => ?_) aN
     go_simp
     obtain ⟨E, hE⟩ : ∃ E, exM r l s = E := ⟨_, rfl⟩
     have CC := specExecuteCommand_any r.clock r.closed l A r.field.length c r.field s wz D.sees (by have := D.small.1; omega) (fun x hx => by have := D.small.2 x hx; omega) D.log (by omega)
     rw [show (⟨r.clock, r.closed, r.field⟩ : RaceV) = r from rfl, hE] at CC
     have HS := Lib.hid (show jq1 E.race ∧ E.log.upto 1048576 by rw [← hE]; exact ⟨jrf D.small, jr0 D.log⟩)
     clear hE
     refine CC.mono ?_
     clear CC
     rintro e9 w9 ⟨A2, c2, he9, M2, b9⟩
     replace he9 : e9 = .returned (.tuple #[.agg #[E.race.clock, E.race.closed, .slice A2 E.race.field.length c2, E.log.durable, E.log.pending, E.log.count], .string E.reply]) := he9
     subst he9
     have hgr := D.box.lt
     have hres := D.res.lt
     replace D := D.below b9
     obtain ⟨lo2, hlo⟩ : ∃ z, wz.heap.size = z := ⟨_, rfl⟩
     rw [hlo] at M2 hres hgr
     clear b9 hlo pc pf
     have pc := D.box.cell
     have pf := D.box.frozen
     generalize w9 = wz at *
     go_wp2_with fail
     refine hK.out _ _ (by trivial) (fun hH => ?_)
     clear hK K
     refine wQ 5 ?_
     refine wQ 6 ?_
     refine wQ 7 ?_
     refine wR (rs := [8]) (by kernel_rfl) (by simp) ?_
     refine aC rfl (fun K hK => ?_) aN
     go_simp
     refine hK.out _ _ (by trivial) (fun hH => ?_)
     clear hK K
     try simp only [Act.put, pX]
     refine wD (by kernel_rfl) ?_ _
     have D3 := D.put (r2 := E.race) (l2 := E.log) M2 (by omega) (Or.inl (by omega)) (Nat.le_refl _) HS.out.1 HS.out.2
     unfold jsa at D3
     clear D M2 pc pf
     go_wp2_with fail
     go_roundw
     case rel => exact ⟨j, _, _, _, _, _, _, _, by go_num, by omega, D3⟩
     case measure => simp [intOf] <;> omega
  ·obtain rfl : j = 0 := by omega
   have hpi : ¬ (0 : Int) < ((0 : Nat) : Int) := by omega
   go_wp2_with fail
   refine (jq7 24 g _ _ D.cur (by omega) (by decide) (by decide)).mono ?_
   rintro e9 w7 ⟨yes, rfl, c9, o9⟩
   replace D := D.drawn c9 o9
   clear c9 o9
   cases yes
   ·have pc := D.box.cell
    have rf := D.res.frozen
    have rc := D.res.cell
    have hne := D.nums
    go_wp2_with fail
    refine bodyPost_ret (v := .agg #[r.clock, r.closed, .slice A r.field.length c, l.durable, l.pending, l.count]) (by simp [results, Tryz.results65, go_sem, rc]) rfl ?_
    have h9 := D.done (m' := n + 1300) (by omega)
    unfold jsa at h9
    exact h9
   ·go_wp2_with fail
    refine (jru g _ w7 D.cur (by omega)).mono ?_
    rintro e9 w8 ⟨x, rfl, hx, c9, o9⟩
    replace D := D.drawn c9 o9
    have bc := D.box.cell
    have bf := D.box.frozen
    have D3 := D.relog (jq4 hx (by decide))
    have hne := D.nums
    clear c9 o9 D
    have pc := D3.box.cell
    have rf := D3.res.frozen
    have rc := D3.res.cell
    go_wp2_with fail
    refine bodyPost_ret (v := .agg #[r.clock, r.closed, .slice A r.field.length c, x.durable, x.pending, x.count]) (by simp [results, Tryz.results65, go_sem, rc]) rfl ?_
    have h9 := D3.done (m' := n + 1300) (by omega)
    unfold jsa at h9
    exact h9

end Go.Proofs.YtflpcdffmpfdpaaGreatDoor
namespace Go.Proofs.YtflpcdffmpfdpaaGreatDoor
open Go.RowKit
def CodeIn (w : World) (A : Option Addr) (m : Nat) : Prop :=
 0 < m → ∃ b off, A = some ⟨b, off, none⟩ ∧ b < w.heap.size ∧ ∀ j, j < m → ∃ u : Int, w.cell? ⟨b, off + j, none⟩ = some (.int .u8 u) ∧ 0 ≤ u ∧ u ≤ 255
theorem jtw {w w' : World} {A : Option Addr} {m c g : Nat} (h : CodeIn w A m) (hm : m ≤ 1000000) (hb : Below w.heap.size w w') (hg : w.heap.size ≤ g) (hB : Blk w' g 88 [.slice A m c, .int .i64 0, .int .u64 0]) : Cur w' g 0 :=
 ⟨⟨A, m, c, 0, 0, hB, Nat.le_refl _, hm, fun h0 => by
   obtain ⟨b, off, h1, h2, h3⟩ := h h0
   refine ⟨b, off, h1, by omega, fun j hj => ?_⟩
   obtain ⟨u, h4, h5⟩ := h3 j hj
   exact ⟨u, (hb.cell (p := ⟨b, off + j, none⟩) h2).trans h4, h5⟩⟩⟩
theorem CodeIn.next {w w' : World} {A : Option Addr} {m : Nat} (h : CodeIn w A m) (hb : Below w.heap.size w w') : CodeIn w' A m := fun h0 => by
 obtain ⟨b, off, h1, h2, h3⟩ := h h0
 refine ⟨b, off, h1, Nat.lt_of_lt_of_le h2 hb.size, fun j hj => ?_⟩
 obtain ⟨u, h4, h5⟩ := h3 j hj
 exact ⟨u, (hb.cell (p := ⟨b, off + j, none⟩) h2).trans h4, h5⟩
end Go.Proofs.YtflpcdffmpfdpaaGreatDoor
namespace Go.Proofs.YtflpcdffmpfdpaaGreatDoor
open Go.RowKit

def jst (w : World) (m : Nat) (e9 : Ending) (w' : World) : Prop := ∃ (r : RaceV) (l : Log) (A : Option Addr) (c : Nat) (s : ByteArray), e9 = .returned (.tuple #[.agg #[r.clock, r.closed, .slice A r.field.length c, l.durable, l.pending, l.count], .string s]) ∧ MineN entrantSh w' (In w.heap.size w'.heap.size) 108 188 A r.field.length c r.field ∧ jq1 r ∧ l.upto 1048576 ∧ s.size ≤ m ∧ Below w.heap.size w w'
structure DrC (w wr : World) (gs m lo hi : Nat) (r : RaceV) (l : Log) (A : Option Addr) (c : Nat) : Prop where
 box : Blk wr gs 35 [.int .i64 r.clock, .bool r.closed, .slice A r.field.length c, .string l.durable, .string l.pending, .int .i64 l.count]
 res : Blk wr w.heap.size 35 [.int .i64 0, .bool false, .slice none 0 0, .string ⟨#[]⟩, .string ⟨#[]⟩, .int .i64 0]
 mine : MineN entrantSh wr (In lo hi) 108 188 A r.field.length c r.field
 cur : Cur wr (w.heap.size + 1) m
 below : Below w.heap.size w wr
 small : jq1 r
 log : l.upto 1048576
 rng : w.heap.size + 1 < lo ∧ w.heap.size + 1 < gs ∧ (gs < lo ∨ hi ≤ gs) ∧ hi ≤ wr.heap.size
section
variable {w wr wv : World} {gs gb m m' lo hi c : Nat} {r : RaceV} {l l2 : Log} {A : Option Addr}
theorem DrC.more (h : DrC w wr gs m lo hi r l A c) (hm : m ≤ m') : DrC w wr gs m' lo hi r l A c := { h with cur := h.cur.more hm }
theorem DrC.next (h : DrC w wr gs m lo hi r l A c) (hb : Below wr.heap.size wr wv) : DrC w wv gs m lo hi r l A c := by
 have hz := hb.size
 have hr := h.rng
 exact ⟨h.box.next hb, h.res.next hb, h.mine.next hb, h.cur.next hb, jaa h.below hb, h.small, h.log, by omega⟩
theorem DrC.drawn (h : DrC w wr gs m lo hi r l A c) (hc : Cur wv (w.heap.size + 1) m') (ho : Only (fun b => b = w.heap.size + 1) wr wv) : DrC w wv gs m' lo hi r l A c := by
 have hz := ho.size
 have hr := h.rng
 exact ⟨h.box.only ho (fun (e : _ = _) => by omega), h.res.only ho (fun (e : _ = _) => by omega), h.mine.only ho (fun b h1 (h2 : b = _) => by have := h1.1; omega), hc, h.below.trans (ho.below (fun b (e : b = _) => by omega) h.below.size), h.small, h.log, by omega⟩
theorem DrC.other (h : DrC w wr gs m lo hi r l A c) (ho : Only (fun b => b = gb) wr wv) (h1 : hi ≤ gb) (h2 : gb ≠ gs) (h3 : w.heap.size + 1 < gb) : DrC w wv gs m lo hi r l A c := by
 have hz := ho.size
 have hr := h.rng
 exact ⟨h.box.only ho (fun (e : _ = _) => by omega), h.res.only ho (fun (e : _ = _) => by omega), h.mine.only ho (fun b h4 (h5 : b = gb) => by have := h4.2; omega), h.cur.keep ho (fun (e : _ = _) => by omega) (fun b (e : _ = _) => by omega), h.below.trans (ho.below (fun b (e : b = _) => by omega) h.below.size), h.small, h.log, by omega⟩
theorem DrC.keeps (h : DrC w wr gs m lo hi r l A c) : ∀ W, Only (fun b => b = w.heap.size + 1) wr W → SeesN entrantSh W 0 A r.field.length r.field := fun W ho => (h.mine.only ho (fun b h1 (h2 : b = _) => by have := h1.1; have := h.rng; omega)).sees
theorem DrC.relog (h : DrC w wr gs m lo hi r l A c) (hl : l2.upto 1048576) : DrC w (((wr.setCell ⟨gs, 3, none⟩ (.string l2.durable)).setCell ⟨gs, 4, none⟩ (.string l2.pending)).setCell ⟨gs, 5, none⟩ (.int .i64 l2.count)) gs m lo hi r l2 A c := by
 have hS : Only (fun b => b = gs) wr (((wr.setCell ⟨gs, 3, none⟩ (.string l2.durable)).setCell ⟨gs, 4, none⟩ (.string l2.pending)).setCell ⟨gs, 5, none⟩ (.int .i64 l2.count)) := jqx (jqx (jqx (Only.refl _ _) 3 _) 4 _) 5 _
 have hz : (((wr.setCell ⟨gs, 3, none⟩ (.string l2.durable)).setCell ⟨gs, 4, none⟩ (.string l2.pending)).setCell ⟨gs, 5, none⟩ (.int .i64 l2.count)).heap.size = wr.heap.size := by simp [World.setCell]
 have hr := h.rng
 exact ⟨((h.box.set_ 3 _).set_ 4 _).set_ 5 _, h.res.only hS (fun (e : _ = _) => by omega), h.mine.only hS (fun b h4 (h5 : b = gs) => by have := h4.1; have := h4.2; omega), h.cur.keep hS (fun (e : _ = _) => by omega) (fun b (e : _ = _) => by omega), h.below.trans (hS.below (fun b (e : b = _) => by omega) h.below.size), h.small, hl, by rw [hz]; exact hr⟩
theorem DrC.done (h : DrC w wr gs m lo hi r l A c) {s : ByteArray} {k : Nat} (hs : s.size ≤ k) : jst w k (.returned (.tuple #[.agg #[r.clock, r.closed, .slice A r.field.length c, l.durable, l.pending, l.count], .string s])) (jsa wr w.heap.size r l A c) := by
 have hS := jrm wr w.heap.size r l A c
 have hz := jrn wr w.heap.size r l A c
 have hr := h.rng
 exact ⟨r, l, A, c, s, rfl, (h.mine.only hS (fun b h1 (h2 : b = w.heap.size) => by have := h1.1; omega)).wide (fun b h1 => ⟨by have := h1.1; omega, by rw [hz]; have := h1.2; omega⟩), h.small, h.log, hs, h.below.trans (hS.below (fun b (e : b = _) => by omega) h.below.size)⟩
theorem DrC.of {w0 w1 : World} (hb : Below w.heap.size w w0) (hz : w.heap.size + 2 ≤ w0.heap.size) (hR : Blk w0 w.heap.size 35 [.int .i64 0, .bool false, .slice none 0 0, .string ⟨#[]⟩, .string ⟨#[]⟩, .int .i64 0]) (hM : MineN entrantSh w1 (In w0.heap.size w1.heap.size) 108 188 A r.field.length c r.field) (hs : jq1 r) (hl : l.upto 1048576) (hc : Cur w1 (w.heap.size + 1) m) (ho : Only (fun b => b = w.heap.size + 1) w0 w1) :
  DrC w (w1.alloc (.cells #[r.clock, r.closed, .slice A r.field.length c, l.durable, l.pending, l.count] 35)) w1.heap.size m w0.heap.size w1.heap.size r l A c := by
 have U := nB w1 (.cells #[r.clock, r.closed, .slice A r.field.length c, l.durable, l.pending, l.count] 35)
 have z := ho.size
 have z2 := U.size
 exact ⟨Blk.at_ rfl, (hR.only ho (fun (e : _ = _) => by omega)).next U, hM.next U, hc.next U, (hb.trans (ho.below (fun b (e : b = _) => by omega) hb.size)).trans (U.mono (by omega)), hs, hl, by omega, by omega, Or.inr (Nat.le_refl _), by omega⟩
end

end Go.Proofs.YtflpcdffmpfdpaaGreatDoor
namespace Go.Proofs.YtflpcdffmpfdpaaGreatDoor
open Go.RowKit
theorem jq8 (A0 : Option Addr) (m0 c0 : Nat) (w : World) (hA : CodeIn w A0 m0) (hm : m0 ≤ 1000000) : Calls Tryz.prog 34 #[.slice A0 m0 c0] w (jst w 200) := by
 have U0 := nB2 w (.cells #[.int .i64 0, false, .slice none 0 0, .string ⟨#[]⟩, .string ⟨#[]⟩, .int .i64 0] 35) (.cells #[.slice A0 m0 c0, .int .i64 0, .int .u64 0] 88)
 have R0 := nPa w [.int .i64 0, false, .slice none 0 0, .string ⟨#[]⟩, .string ⟨#[]⟩, .int .i64 0] 35 (.cells #[.slice A0 m0 c0, .int .i64 0, .int .u64 0] 88)
 have CC : Cur ((w.alloc (.cells #[.int .i64 0, false, .slice none 0 0, .string ⟨#[]⟩, .string ⟨#[]⟩, .int .i64 0] 35)).alloc (.cells #[.slice A0 m0 c0, .int .i64 0, .int .u64 0] 88)) (w.heap.size + 1) 0 := jtw hA hm U0 (Nat.le_succ _) (Blk.at_ (by simp))
 have hz0 := nZ2 w (.cells #[.int .i64 0, false, .slice none 0 0, .string ⟨#[]⟩, .string ⟨#[]⟩, .int .i64 0] 35) (.cells #[.slice A0 m0 c0, .int .i64 0, .int .u64 0] 88)
 go_enter Tryz.func34, Tryz.ntmps34
 go_upto_region 2 with fail
 generalize (w.alloc _).alloc _ = w0 at *
 go_wp2_with fail
 refine (jsb (w.heap.size + 1) 0 w0 CC (by decide)).mono ?_
 rintro e9 w1 ⟨r, l, A, c, rfl, M, hsm, hl, c9, o9⟩
 have D := DrC.of U0 hz0 R0 M hsm hl c9 o9
 clear U0 R0 CC M hsm hl c9 o9 hA
 go_upto_region 3 with fail
 generalize w1.alloc _ = w2 at *
 generalize w1.heap.size = gs at *
 clear hz0
 obtain ⟨lo9, hlo9⟩ : ∃ z, w0.heap.size = z := ⟨_, rfl⟩
 rw [hlo9] at D
 clear hlo9
 go_wp2_with fail
 refine (jq7 40 (w.heap.size + 1) _ _ D.cur (by omega) (by decide) (by decide)).mono ?_
 rintro e9 w3 ⟨yes, rfl, c9, o9⟩
 replace D := D.drawn c9 o9
 clear c9 o9
 go_upto_if 15 with fail
 go_cut [] from 16 to 31 (fun wr => ∃ (l : Log) (m : Nat), m ≤ 1400 ∧ DrC w wr gs m lo9 gs r l A c)
 case first =>
  cases yes
  ·go_wp2_with fail
   go_meet
   exact ⟨_, _, by omega, D⟩
  have U := nB w3 (.cells #[.string ⟨#[]⟩, .string ⟨#[]⟩, .int .i64 0] 33)
  have G := nP w3 [.string ⟨#[]⟩, .string ⟨#[]⟩, .int .i64 0] 33
  have hg1 := D.box.lt
  have hg2 := D.rng
  replace D := D.next U
  clear U
  go_upto_region 5 with fail
  generalize w3.alloc _ = w4 at *
  generalize w3.heap.size = gl at *
  go_wp2_with fail
  refine (jqy 2 (w.heap.size + 1) _ _ D.cur (by omega) (by decide) (by decide)).mono ?_
  rintro e9 w5 ⟨a, rfl, ha, c9, o9⟩
  replace D := D.drawn c9 o9
  replace G := G.only o9 (fun (e : _ = _) => by omega)
  have ha1 : a ≤ 1 := ha
  clear c9 o9 ha
  obtain ⟨i0, hi0⟩ : ∃ i0 : Nat, (59 : Int) + (a : Int) = (i0 : Int) ∧ i0 ≤ 60 := ⟨59 + a, by omega, by omega⟩
  have hi1 := hi0.1
  have hi2 := hi0.2
  clear hi0
  go_wp2_with fail
  try rw [hi1]
  clear hi1
  go_loopw [7] (fun s7 wr => ∃ (j : Nat) (y : Log), s7 = .int .i64 (j : Int) ∧ j ≤ 60 ∧ jte 31000 y ∧ Blk wr gl 33 [.string y.durable, .string y.pending, .int .i64 y.count] ∧ DrC w wr gs 1306 lo9 gs r l A c) (fun s7 _ => (intOf s7).toNat)
  case atStart => exact ⟨i0, ⟨⟨#[]⟩, ⟨#[]⟩, 0⟩, rfl, hi2, Nat.zero_le _, G, D.more (by omega)⟩
  case round =>
   clear D G
   obtain ⟨j, y, rfl, hj60, hy, G, D⟩ := hrel
   have gc := G.cell
   by_cases hpos : 0 < j
   ·obtain ⟨j, rfl⟩ : ∃ i, j = i + 1 := ⟨j - 1, by omega⟩
    have hpi : (0 : Int) < ((j + 1 : Nat) : Int) := by omega
    obtain ⟨z, hz⟩ : ∃ z, jgg y ⟨⟨#[120]⟩, ⟨#[]⟩⟩ = z := ⟨_, rfl⟩
    have CC := jdc y ⟨⟨#[120]⟩, ⟨#[]⟩⟩ wr (jq4 hy (by decide)) ⟨by decide, by decide⟩
    unfold jft at CC
    rw [hz] at CC
    have hyz : jte 31000 z.1 := by rw [← hz]; exact jr3 hy
    obtain ⟨z, zc⟩ := z
    clear hz
    go_wp2_with fail
    refine CC.mono ?_
    clear CC
    rintro e9 wz ⟨rfl, b9⟩
    replace G := G.next b9
    replace D := D.next b9
    clear b9 gc
    have gc := G.cell
    have gf := G.frozen
    have hS : Only (fun b => b = gl) wz (((wz.setCell ⟨gl, 0, none⟩ (.string z.durable)).setCell ⟨gl, 1, none⟩ (.string z.pending)).setCell ⟨gl, 2, none⟩ (.int .i64 z.count)) := jqx (jqx (jqx (Only.refl _ _) 0 _) 1 _) 2 _
    have D2 := D.other hS (by omega) (by omega) (by omega)
    have G2 : Blk (((wz.setCell ⟨gl, 0, none⟩ (.string z.durable)).setCell ⟨gl, 1, none⟩ (.string z.pending)).setCell ⟨gl, 2, none⟩ (.int .i64 z.count)) gl 33 [.string z.durable, .string z.pending, .int .i64 z.count] := ((G.set_ 0 _).set_ 1 _).set_ 2 _
    clear hS D G
    go_wp2_with fail
    go_roundw
    case rel => exact ⟨j, z, by go_num, by omega, hyz, G2, D2⟩
    case measure => simp [intOf] <;> omega
   ·obtain rfl : j = 0 := by omega
    have hpi : ¬ (0 : Int) < ((0 : Nat) : Int) := by omega
    have bc := D.box.cell
    have bf := D.box.frozen
    have D2 := D.relog (jq4 hy (by decide))
    clear D
    go_wp2_with fail
    go_meet
    exact ⟨y, _, by omega, D2⟩
 case rest =>
  clear D
  obtain ⟨l, m, hmm, D⟩ := hcut
  obtain ⟨w4, rfl⟩ : ∃ w' : World, w' = wc := ⟨_, rfl⟩
  have pc := D.box.cell
  go_wp2_with fail
  refine (jq6 (w.heap.size + 1) _ r.clock r.closed l A r.field.length c r.field _ D.cur (by omega) D.keeps D.small.1).mono ?_
  rintro e9 w5 ⟨s, rfl, hs, c9, o9⟩
  replace hs : s.size ≤ 100 := hs
  replace D := D.drawn c9 o9
  clear c9 o9
  clear pc
  go_wp2_with fail
  refine (jq7 8 (w.heap.size + 1) _ _ D.cur (by omega) (by decide) (by decide)).mono ?_
  rintro e9 w6 ⟨yes2, rfl, c9, o9⟩
  replace D := D.drawn c9 o9
  clear c9 o9
  cases yes2
  ·have pc := D.box.cell
   have rf := D.res.frozen
   have rc := D.res.cell
   have hne := D.rng
   go_wp2_with fail
   refine bodyPost_ret (v := .tuple #[.agg #[r.clock, r.closed, .slice A r.field.length c, l.durable, l.pending, l.count], .string s]) (by simp [results, Tryz.results34, go_sem, rc]) rfl ?_
   have h9 := D.done (s := s) (k := 200) (by omega)
   unfold jsa at h9
   exact h9
  go_wp2_with fail
  refine (jrx s ⟨#[32, 48, 49, 97, 64, 35, 44]⟩ (w.heap.size + 1) _ _ D.cur (by omega) (by omega) (by decide) (by decide)).mono ?_
  rintro e9 w7 ⟨q, rfl, hq, c9, o9⟩
  replace hq : q.size ≤ s.size + 1 := hq
  replace D := D.drawn c9 o9
  clear c9 o9
  have pc := D.box.cell
  have rf := D.res.frozen
  have rc := D.res.cell
  have hne := D.rng
  go_wp2_with fail
  refine bodyPost_ret (v := .tuple #[.agg #[r.clock, r.closed, .slice A r.field.length c, l.durable, l.pending, l.count], .string q]) (by simp [results, Tryz.results34, go_sem, rc]) rfl ?_
  have h9 := D.done (s := q) (k := 200) (by omega)
  unfold jsa at h9
  exact h9
theorem jqz {s t : ByteArray} (hs : jdf s = true) (ht : jdf t = true) : jdf (s ++ t) = true := by
 unfold jdf at *
 rw [ByteArray.data_append, Array.toList_append, List.all_append, hs, ht]
 rfl
theorem jr7 (n : Nat) : jdf (jcf n) = true := by
 unfold jdf
 refine List.all_eq_true.2 fun b hb => ?_
 have := jik n b (by simpa [jcf] using hb)
 exact jf9.2 (by omega)
theorem jq0 (z : Int) : jdf (jbe z) = true := by
 rcases je3 z with ⟨n, -, e⟩ | ⟨n, -, -, e⟩
 ·rw [e]; exact jr7 n
 ·rw [e]; exact jqz (by decide) (jr7 n)
theorem jsn : ∀ xs : List Int, xs ≠ [] → jdf (jfc xs) = true := by
 intro xs
 induction h : xs.length generalizing xs with
 | zero => intro h1; exact absurd (List.length_eq_zero_iff.1 h) h1
 | succ k ih =>
  intro h1
  obtain ⟨ys, y, rfl⟩ : ∃ ys y, xs = ys ++ [y] := ⟨xs.dropLast, xs.getLast h1, (List.dropLast_concat_getLast h1).symm⟩
  by_cases h2 : ys = []
  ·subst h2
   rw [List.nil_append, jix]
   exact jq0 y
  ·rw [jgq h2]
   exact jqz (jqz (ih ys (by simpa using h) h2) (by decide)) (jq0 y)
theorem jrw (xs : List Int) : jdf (jbq xs) = true := by
 unfold jbq
 split
 ·decide
 ·rename_i h
  exact jsn xs h
theorem jq9 (x : Card) : ∀ k, jdf (jcx x k) = true
 | 0 => by
  unfold jcx jkl jp5
  refine jqz (jqz (jqz (jqz (jq0 _) (by decide)) (jq0 _)) (by decide)) ?_
  split
  ·decide
  ·exact jq0 _
 | k + 1 => by
  unfold jcx
  split
  ·refine jqz (jq9 x k) ?_
   unfold punT
   exact jqz (jqz (jqz (by decide) (jq0 _)) (by decide)) (jq0 _)
  ·exact jq9 x k
theorem jsm {x : Card} {s : ByteArray} (h : jd1 x = some s) : jdf s = true := by
 unfold jd1 at h
 split at h
 ·injection h with h
  rw [← h]
  exact jq9 x _
 ·cases h
theorem jrl {o : Option (List Int)} {s : ByteArray} (h : o.map jbq = some s) : jdf s = true := by
 cases o with
 | none => cases h
 | some l =>
  injection h with h
  rw [← h]
  exact jrw l
theorem js9 {r : RaceV} {k : Nat} {l : List Int} {s : ByteArray} (h : jew r k l = some s) : jdf s = true := by
 unfold jew at h
 split at h
 ·injection h with h; rw [← h]; exact jq0 _
 ·exact jrl h
 ·exact jrl h
 ·unfold jjn at h
  split at h
  ·split at h
   ·exact jsm h
   ·cases h
  ·cases h
 ·cases hl : jbz r (l.getD 0 0) with
  | none => rw [hl] at h; cases h
  | some p => rw [hl] at h; injection h with h; rw [← h]; exact jrw _
 ·unfold jgo at h
  split at h
  ·cases h
  ·exact jrl h
theorem jsp (r : RaceV) (k e : Int) : jdf (jcl r k e) = true := by
 unfold jcl
 split
 ·split
  ·exact jq0 _
  ·decide
 split
 ·split
  ·exact jq0 _
  ·decide
 split
 ·decide
 split
 ·decide
 ·exact jq0 _
theorem jso {r : RaceV} {line s : ByteArray} (h : (jbl r line).2 = some s) : jdf s = true := by
 unfold jbl at h
 split at h
 ·split at h
  ·cases h
  ·rename_i l hl
   unfold jop at h
   split at h
   ·exact js9 h
   ·split at h
    ·cases h
    ·injection h with h; rw [← h]; exact jsp _ _ _
 ·cases h
theorem jta {s : ByteArray} (h : jdf s = true) : jdf (jp3 s) = true ∧ (jp3 s).size ≤ 200 := by
 unfold jp3
 split
 ·exact ⟨by decide, by decide⟩
 ·exact ⟨h, by omega⟩
theorem jtr (r : RaceV) (line : ByteArray) : jdf (ja7 r line) = true ∧ (ja7 r line).size ≤ 200 := by
 unfold ja7
 refine jta ?_
 cases h : (jbl r line).2 with
 | none => decide
 | some s => exact jso h
theorem jtd {r : RaceV} {line : ByteArray} (h : jgb ⟨line, ⟨#[]⟩⟩ = true) : jgb ⟨line, ja7 r line⟩ = true := by
 obtain ⟨h1, h2⟩ := jtr r line
 unfold jgb at *
 simp only [Bool.and_eq_true] at h
 simp only [Bool.and_eq_true, decide_eq_true_eq]
 exact ⟨⟨⟨⟨h.1.1.1.1, h2⟩, h.1.1.2⟩, h1⟩, h.2⟩
theorem jtn (r : RaceV) (l : Log) (line : ByteArray) : ((exM r l line).race = r ∧ (exM r l line).log = l ∧ ((exM r l line).reply = ⟨#[110, 111]⟩ ∨ (exM r l line).reply = ⟨#[98, 97, 100]⟩ ∨ (exM r l line).reply = ⟨#[102, 117, 108, 108]⟩))
  ∨ (ja0 r = true ∧ ja9 l = true ∧ (exM r l line).reply = ja7 r line ∧ ja0 (exM r l line).race = true ∧ ja9 (exM r l line).log = true ∧ (exM r l line).log.count = l.count + 1 ∧ (jre (exM r l line).log).1 = (jre l).1 ++ [⟨line, (exM r l line).reply⟩]
   ∧ jgb ⟨line, ⟨#[]⟩⟩ = true ∧ l.count ≠ 60 ∧ (exM r l line).race = (jbl r line).1 ∧ (exM r l line).log = ⟨l.durable, l.pending ++ jck l.count.toNat ⟨line, ja7 r line⟩, l.count + 1⟩) := by
 unfold exM
 by_cases h1 : (ja0 r && ja9 l) = false
 ·rw [if_pos h1]
  exact .inl ⟨rfl, rfl, .inl rfl⟩
 rw [if_neg h1]
 by_cases h2 : jgb ⟨line, ⟨#[]⟩⟩ = false
 ·rw [if_pos h2]
  exact .inl ⟨rfl, rfl, .inr (.inl rfl)⟩
 rw [if_neg h2]
 by_cases h3 : l.count = 60
 ·rw [if_pos h3]
  exact .inl ⟨rfl, rfl, .inr (.inr rfl)⟩
 rw [if_neg h3]
 rw [Bool.not_eq_false, Bool.and_eq_true] at h1
 rw [Bool.not_eq_false] at h2
 have h4 := jtd (r := r) h2
 obtain ⟨a1, a2, a3⟩ := js0 h1.2 h4 h3
 have ha : (jgg l ⟨line, ja7 r line⟩).1 = ⟨l.durable, l.pending ++ jck l.count.toNat ⟨line, ja7 r line⟩, l.count + 1⟩ := by
  unfold jgg
  rw [h1.2, h4]
  simp only [Bool.and_self, ↓reduceIte, h3]
 refine .inr ⟨h1.1, h1.2, rfl, jox h1.1, ?_, ?_, ?_, h2, h3, rfl, ha⟩
 ·show ja9 (jgg l ⟨line, ja7 r line⟩).1 = true
  rw [ha]; exact a1
 ·show (jgg l ⟨line, ja7 r line⟩).1.count = _
  rw [ha]
 ·show (jre (jgg l ⟨line, ja7 r line⟩).1).1 = _
  rw [ha]
  unfold jre
  rw [a1, h1.2]
  exact a2
theorem Sees.recd {w : World} {lo n k : Nat} {A : Option Addr} {xs : List LogRecord} (h : Sees w lo 2 A n (xs.flatMap LogRecord.enc)) (hk : k < n) :
  ∃ b off, A = some ⟨b, off, none⟩ ∧ ∃ hx : k < xs.length, w.cell? ⟨b, off + k * 2, none⟩ = some (.string xs[k].command) ∧ w.cell? ⟨b, off + k * 2 + 1, none⟩ = some (.string xs[k].reply) := h.elem2 (fun _ => rfl) hk
theorem jtc (l : Log) : (jre l).2 = ja9 l := by
 unfold jre
 split
 ·rename_i h; exact h.symm
 ·rename_i h; exact (Bool.not_eq_true _ ▸ h : ja9 l = false).symm
theorem jsq {l : Log} (h : ja9 l = true) : ((jre l).1.length : Int) = l.count := by
 have h1 := (jrq h).2.2
 unfold jre
 rw [h]
 exact h1
end Go.Proofs.YtflpcdffmpfdpaaGreatDoor
