/- Joined texts of this proof: CurRg, ConP. -/
import Derived.Test.YtflpcdffmpfdpaaGreatDoorF06
import Derived.Test.YtflpcdffmpfdpaaGreatDoorF03
import Derived.Test.YtflpcdffmpfdpaaGreatDoorF02
import Derived.Test.YtflpcdffmpfdpaaGreatDoorF01
import Derived.Test.YtflpcdffmpfdpaaGreatDoorV01
set_option maxRecDepth 100000
set_option maxHeartbeats 8000000
namespace Go.Proofs.YtflpcdffmpfdpaaGreatDoor
open Go.RowKit

def jux (w : World) (e9 : Ending) (w' : World) : Prop := ∃ (e0 : Int) (l : Log), e9 = .returned (.tuple #[.int .i64 e0, .agg #[l.durable, l.pending, l.count]]) ∧ (0 ≤ e0 ∧ e0 ≤ 8) ∧ l.upto 1048576 ∧ Below w.heap.size w w'
structure ReC (w wr : World) (gs m lo hi : Nat) (r : RaceV) (l : Log) (A : Option Addr) (c : Nat) : Prop where
 box : Blk wr gs 35 [.int .i64 r.clock, .bool r.closed, .slice A r.field.length c, .string l.durable, .string l.pending, .int .i64 l.count]
 res : Blk wr w.heap.size 33 [.string ⟨#[]⟩, .string ⟨#[]⟩, .int .i64 0]
 mine : MineN entrantSh wr (In lo hi) 108 188 A r.field.length c r.field
 cur : Cur wr (w.heap.size + 1) m
 below : Below w.heap.size w wr
 small : jq0 r
 log : l.upto 1048576
 rng : w.heap.size + 1 < lo ∧ w.heap.size + 1 < gs ∧ (gs < lo ∨ hi ≤ gs) ∧ hi ≤ wr.heap.size
section
variable {w wr wv : World} {gs gb m m' lo hi c : Nat} {r : RaceV} {l l2 : Log} {A : Option Addr}
theorem ReC.more (h : ReC w wr gs m lo hi r l A c) (hm : m ≤ m') : ReC w wr gs m' lo hi r l A c := { h with cur := h.cur.more hm }
theorem ReC.next (h : ReC w wr gs m lo hi r l A c) (hb : Below wr.heap.size wr wv) : ReC w wv gs m lo hi r l A c := by
 have hz := hb.size
 have hr := h.rng
 exact ⟨h.box.next hb, h.res.next hb, h.mine.next hb, h.cur.next hb, jaa h.below hb, h.small, h.log, by omega⟩
theorem ReC.drawn (h : ReC w wr gs m lo hi r l A c) (hc : Cur wv (w.heap.size + 1) m') (ho : Only (fun b => b = w.heap.size + 1) wr wv) : ReC w wv gs m' lo hi r l A c := by
 have hz := ho.size
 have hr := h.rng
 exact ⟨h.box.only ho (fun (e : _ = _) => by omega), h.res.only ho (fun (e : _ = _) => by omega), h.mine.only ho (fun b h1 (h2 : b = _) => by have := h1.1; omega), hc, h.below.trans (ho.below (fun b (e : b = _) => by omega) h.below.size), h.small, h.log, by omega⟩
theorem ReC.keeps (h : ReC w wr gs m lo hi r l A c) : ∀ W, Only (fun b => b = w.heap.size + 1) wr W → SeesN entrantSh W 0 A r.field.length r.field := fun W ho => (h.mine.only ho (fun b h1 (h2 : b = _) => by have := h1.1; have := h.rng; omega)).sees
theorem ReC.put {lo2 hi2 c2 : Nat} {r2 : RaceV} {A2 : Option Addr} (h : ReC w wr gs m lo hi r l A c) (hm : MineN entrantSh wr (In lo2 hi2) 108 188 A2 r2.field.length c2 r2.field) (h1 : w.heap.size + 1 < lo2) (h2 : gs < lo2 ∨ hi2 ≤ gs) (h3 : hi2 ≤ wr.heap.size) (hs : jq0 r2) (hl : l2.upto 1048576) : ReC w (jsy wr gs r2 l2 A2 c2) gs m lo2 hi2 r2 l2 A2 c2 := by
 have hS := jrz wr gs r2 l2 A2 c2
 have hz := jr3 wr gs r2 l2 A2 c2
 have hr := h.rng
 exact ⟨(jal h.box (.int .i64 r2.clock) (.bool r2.closed) (.slice A2 r2.field.length c2) (.string l2.durable) (.string l2.pending) (.int .i64 l2.count)).1, h.res.only hS (fun (e : _ = _) => by omega), hm.only hS (fun b h4 (h5 : b = gs) => by have := h4.1; have := h4.2; omega), h.cur.keep hS (fun (e : _ = _) => by omega) (fun b (e : _ = _) => by omega), h.below.trans (hS.below (fun b (e : b = _) => by omega) h.below.size), hs, hl, by rw [hz]; omega⟩
end
theorem ju9 {l : Log} {e : LogRecord} (h : l.upto 1048576) : (jgg l e).1.upto 1048576 := by
 unfold jgg
 split
 ·rename_i he
  simp only [Bool.and_eq_true] at he
  have h9 := jg4 he.1
  split
  ·exact h
  ·have hl := jr2 l.count.toNat _ (by omega) he.2
   refine ⟨by show l.durable.size ≤ 1048576; omega, ?_⟩
   show (l.pending ++ jck _ _).size ≤ 1048576
   rw [ByteArray.size_append]
   omega
 ·exact h
theorem ju7 {w wx : World} {e0 : Int} {l : Log} (h0 : 0 ≤ e0 ∧ e0 ≤ 8) (hl : l.upto 1048576) (hk : Below w.heap.size w wx) : jux w (.returned (.tuple #[.int .i64 e0, .agg #[l.durable, l.pending, l.count]])) (((wx.setCell ⟨w.heap.size, 0, none⟩ (.string l.durable)).setCell ⟨w.heap.size, 1, none⟩ (.string l.pending)).setCell ⟨w.heap.size, 2, none⟩ (.int .i64 l.count)) := by
 have hS : Only (fun b => b = w.heap.size) wx (((wx.setCell ⟨w.heap.size, 0, none⟩ (.string l.durable)).setCell ⟨w.heap.size, 1, none⟩ (.string l.pending)).setCell ⟨w.heap.size, 2, none⟩ (.int .i64 l.count)) := jqw (jqw (jqw (Only.refl _ _) 0 _) 1 _) 2 _
 exact ⟨e0, l, rfl, h0, hl, hk.trans (hS.below (fun b (e : b = _) => by omega) hk.size)⟩

theorem jr5 (A0 : Option Addr) (m0 c0 : Nat) (w : World) (hA : CodeIn w A0 m0) (hm : m0 ≤ 1000000) : Calls Tryz.prog 22 #[.slice A0 m0 c0] w (jux w) := by
 have U0 := nB2 w (.cells #[.string ⟨#[]⟩, .string ⟨#[]⟩, .int .i64 0] 33) (.cells #[.slice A0 m0 c0, .int .i64 0, .int .u64 0] 88)
 have R := nPa w [.string ⟨#[]⟩, .string ⟨#[]⟩, .int .i64 0] 33 (.cells #[.slice A0 m0 c0, .int .i64 0, .int .u64 0] 88)
 have C : Cur ((w.alloc (.cells #[.string ⟨#[]⟩, .string ⟨#[]⟩, .int .i64 0] 33)).alloc (.cells #[.slice A0 m0 c0, .int .i64 0, .int .u64 0] 88)) (w.heap.size + 1) 0 := ju2 hA hm U0 (Nat.le_succ _) (Blk.at_ (by simp))
 have hz0 := nZ2 w (.cells #[.string ⟨#[]⟩, .string ⟨#[]⟩, .int .i64 0] 33) (.cells #[.slice A0 m0 c0, .int .i64 0, .int .u64 0] 88)
 go_enter Tryz.func22, Tryz.ntmps22
 go_upto_region 2 with fail
 generalize (w.alloc _).alloc _ = w0 at *
 have UA := nB w0 (.cells #[.int .i64 1, .int .i64 2, .int .i64 3, .int .i64 8, .int .i64 0] 3)
 have BL : Blk (w0.alloc (.cells #[.int .i64 1, .int .i64 2, .int .i64 3, .int .i64 8, .int .i64 0] 3)) w0.heap.size 3 (jb4 [1, 2, 3, 8, 0]) := Blk.at_ rfl
 go_wp2_with fail
 refine (jq6 (w.heap.size + 1) _ w0.heap.size 5 3 [1, 2, 3, 8, 0] _ BL (by omega) (C.next UA) (by omega) rfl (by decide) (by decide)).mono ?_
 rintro e9 w1 ⟨e0, rfl, he0, c9, o9⟩
 have h08 : 0 ≤ e0 ∧ e0 ≤ 8 := by simp at he0; omega
 have hu := UA.size
 have ho := o9.size
 replace R := (R.next UA).only o9 (fun (e : _ = _) => by omega)
 have K : Below w.heap.size w w1 := (U0.trans (UA.mono U0.size)).trans (o9.below (fun b (e : b = _) => by omega) (by omega))
 have hz1 : w.heap.size + 2 ≤ w1.heap.size := by omega
 clear UA BL U0 C hA o9 he0 hu ho hz0
 obtain ⟨ib, hib⟩ : ∃ b, inB e0 1 8 = b := ⟨_, rfl⟩
 have HIB := Lib.hid hib
 have CN := jq5 e0 w1
 unfold jr8 at CN
 rw [hib] at CN
 clear hib
 go_wp2_with fail
 refine CN.mono ?_
 clear CN
 rintro e9 w2 ⟨A, rfl, M, b9⟩
 have U := nB w2 (.cells #[.int .i64 0, false, .slice A (jqz e0) (jqz e0), .string ⟨#[]⟩, .string ⟨#[]⟩, .int .i64 0] 35)
 have B := nP w2 [.int .i64 0, false, .slice A (jqz e0) (jqz e0), .string ⟨#[]⟩, .string ⟨#[]⟩, .int .i64 0] 35
 have hz2 := b9.size
 have hz3 := nZ w2 (.cells #[.int .i64 0, false, .slice A (jqz e0) (jqz e0), .string ⟨#[]⟩, .string ⟨#[]⟩, .int .i64 0] 35)
 replace R := (R.next b9).next U
 replace K := jaa (jaa K b9) U
 replace M := M.next U
 have C := (c9.next b9).next U
 clear c9 b9 U
 go_upto_region 4 with fail
 generalize w2.alloc _ = w3 at *
 generalize w2.heap.size = gs at *
 cases ib
 ·have rf := R.frozen
  have rc := R.cell
  go_wp2_with fail
  refine bodyPost_ret (v := .tuple #[.int .i64 e0, .agg #[.string ⟨#[]⟩, .string ⟨#[]⟩, .int .i64 0]]) (by simp [results, Tryz.results22, go_sem, rc]) rfl ?_
  exact ju7 (l := ⟨⟨#[]⟩, ⟨#[]⟩, 0⟩) h08 ⟨Nat.zero_le _, Nat.zero_le _⟩ K
 have hlen : (jsx e0).field.length = jqz e0 := List.length_replicate
 have D : ReC w w3 gs 2 w1.heap.size gs (jsx e0) ⟨⟨#[]⟩, ⟨#[]⟩, 0⟩ A (jqz e0) := ⟨by rw [hlen]; exact B, R, by rw [hlen]; exact M, C, K, jq7 (jrm HIB.out), ⟨Nat.zero_le _, Nat.zero_le _⟩, by omega⟩
 clear B R M C K hlen
 go_wp2_with fail
 refine (jqy 10 (w.heap.size + 1) _ _ D.cur (by omega) (by decide) (by decide)).mono ?_
 rintro e9 w4 ⟨j, rfl, hj, c9, o9⟩
 have hj9 : j ≤ 9 := hj
 replace D := D.drawn c9 o9
 clear c9 o9 hj
 go_wp2_with fail
 go_loopw [8] (fun s8 wr => ∃ (j m lo hi : Nat) (r : RaceV) (l : Log) (A : Option Addr) (c : Nat), s8 = .int .i64 (j : Int) ∧ j ≤ 9 ∧ m + 54 * j ≤ 500 ∧ ReC w wr gs m lo hi r l A c) (fun s8 _ => (intOf s8).toNat)
 case atStart => exact ⟨j, _, _, _, _, _, _, _, rfl, hj9, by omega, D⟩
 case round =>
  clear D hj9
  obtain ⟨j, m, lo, hi, r, l, A, c, rfl, hj9, hmm, D⟩ := hrel
  by_cases hpos : 0 < j
  ·obtain ⟨j, rfl⟩ : ∃ i, j = i + 1 := ⟨j - 1, by omega⟩
   have hpi : (0 : Int) < ((j + 1 : Nat) : Int) := by omega
   go_upto_region 9 with fail
   replace D := D.next ((Quiet.one wr).below _)
   have pc := D.box.cell
   have pf := D.box.frozen
   refine wp_region_held_drew (S := fun w' => True) (by kernel_rfl) (by trivial) (fun hH => ?_)
   generalize wr.drew = wz at *
   refine wQ 1 ?_
   refine wR (rs := [0, 2]) (by kernel_rfl) (by simp) ?_
   refine aC rfl (fun K hK => ?_) ?_
   ·go_simp
    refine hK.out _ _ (by trivial) (fun hH => ?_)
    clear hK K
    try simp only [Act.put, pX]
    refine wR (rs := [2]) (by kernel_rfl) (by simp) ?_
    refine aC rfl (fun K hK => ?_) aN
    go_simp
    refine hK.out _ _ (by trivial) (fun hH => ?_)
    clear hK K
    try simp only [Act.put, pX]
    refine wR (rs := [3]) (by kernel_rfl) (by simp) ?_
    refine aC rfl (fun K hK => ?_) aN
    go_simp
    refine (jq3 (w.heap.size + 1) _ r.clock r.closed l A r.field.length c r.field wz D.cur (by omega) D.keeps D.small.1).mono ?_
    rintro e9 w9 ⟨s, he9, hs, c9, o9⟩
    replace he9 : e9 = .returned (.string s) := he9
    subst he9
    replace hs : s.size ≤ 100 := hs
    replace D := D.drawn c9 o9
    clear c9 o9 pc pf
    have pc := D.box.cell
    have pf := D.box.frozen
    generalize w9 = wz at *
    go_wp2_with fail
    refine hK.out _ _ (by trivial) (fun hH => ?_)
    clear hK K
    refine wR (rs := [4]) (by kernel_rfl) (by simp) ?_
    refine aC rfl (fun K hK => ?_) aN
    go_simp
    obtain ⟨E, hE⟩ : ∃ E, exM r l s = E := ⟨_, rfl⟩
    have CC := specExecuteCommand_any r.clock r.closed l A r.field.length c r.field s wz D.mine.sees (by have := D.small.1; omega) (fun x hx => by have := D.small.2 x hx; omega) D.log (by omega)
    rw [show (⟨r.clock, r.closed, r.field⟩ : RaceV) = r from rfl, hE] at CC
    have HS := Lib.hid (show jq0 E.race ∧ E.log.upto 1048576 by rw [← hE]; exact ⟨jre D.small, jrg D.log⟩)
    clear hE
    refine CC.mono ?_
    clear CC
    rintro e9 w9 ⟨A2, c2, he9, M2, b9⟩
    replace he9 : e9 = .returned (.tuple #[.agg #[E.race.clock, E.race.closed, .slice A2 E.race.field.length c2, E.log.durable, E.log.pending, E.log.count], .string E.reply]) := he9
    subst he9
    have hgr := D.box.lt
    have hres := D.cur.lt
    replace D := D.next b9
    obtain ⟨lo2, hlo⟩ : ∃ z, wz.heap.size = z := ⟨_, rfl⟩
    rw [hlo] at M2 hres hgr
    clear b9 hlo pc pf
    have pc := D.box.cell
    have pf := D.box.frozen
    generalize w9 = wz at *
    go_wp2_with fail
    refine hK.out _ _ (by trivial) (fun hH => ?_)
    clear hK K
    refine wQ 5 ?_
    refine wQ 6 ?_
    refine wQ 7 ?_
    refine wR (rs := [8]) (by kernel_rfl) (by simp) ?_
    refine aC rfl (fun K hK => ?_) aN
    go_simp
    refine hK.out _ _ (by trivial) (fun hH => ?_)
    clear hK K
    try simp only [Act.put, pX]
    refine wD (by kernel_rfl) ?_ _
    have D3 := D.put (r2 := E.race) (l2 := E.log) M2 (by omega) (Or.inl (by omega)) (Nat.le_refl _) HS.out.1 HS.out.2
    unfold jsy at D3
    clear D M2 pc pf
    go_wp2_with fail
    go_roundw
    case rel => exact ⟨j, _, _, _, _, _, _, _, by go_num, by omega, by omega, D3⟩
    case measure => simp [intOf] <;> omega
   refine aC rfl (fun K hK => ?_) aN
   ·go_simp
    refine hK.out _ _ (by trivial) (fun hH => ?_)
    clear hK K
    try simp only [Act.put, pX]
    refine wR (rs := [0, 3]) (by kernel_rfl) (by simp) ?_
    refine aC rfl (fun K hK => ?_) ?_
    ·go_simp
     refine hK.out _ _ (by trivial) (fun hH => ?_)
     clear hK K
     try simp only [Act.put, pX]
     refine wR (rs := [3]) (by kernel_rfl) (by simp) ?_
     refine aC rfl (fun K hK => ?_) aN
     go_simp
     refine (jq3 (w.heap.size + 1) _ r.clock r.closed l A r.field.length c r.field wz D.cur (by omega) D.keeps D.small.1).mono ?_
     rintro e9 w9 ⟨s, he9, hs, c9, o9⟩
     replace he9 : e9 = .returned (.string s) := he9
     subst he9
     replace hs : s.size ≤ 100 := hs
     replace D := D.drawn c9 o9
     clear c9 o9 pc pf
     have pc := D.box.cell
     have pf := D.box.frozen
     generalize w9 = wz at *
     go_wp2_with fail
     refine hK.out _ _ (by trivial) (fun hH => ?_)
     clear hK K
     refine wR (rs := [4]) (by kernel_rfl) (by simp) ?_
     refine aC rfl (fun K hK => ?_) aN
     go_simp
     obtain ⟨E, hE⟩ : ∃ E, exM r l s = E := ⟨_, rfl⟩
     have CC := specExecuteCommand_any r.clock r.closed l A r.field.length c r.field s wz D.mine.sees (by have := D.small.1; omega) (fun x hx => by have := D.small.2 x hx; omega) D.log (by omega)
     rw [show (⟨r.clock, r.closed, r.field⟩ : RaceV) = r from rfl, hE] at CC
     have HS := Lib.hid (show jq0 E.race ∧ E.log.upto 1048576 by rw [← hE]; exact ⟨jre D.small, jrg D.log⟩)
     clear hE
     refine CC.mono ?_
     clear CC
     rintro e9 w9 ⟨A2, c2, he9, M2, b9⟩
     replace he9 : e9 = .returned (.tuple #[.agg #[E.race.clock, E.race.closed, .slice A2 E.race.field.length c2, E.log.durable, E.log.pending, E.log.count], .string E.reply]) := he9
     subst he9
     have hgr := D.box.lt
     have hres := D.cur.lt
     replace D := D.next b9
     obtain ⟨lo2, hlo⟩ : ∃ z, wz.heap.size = z := ⟨_, rfl⟩
     rw [hlo] at M2 hres hgr
     clear b9 hlo pc pf
     have pc := D.box.cell
     have pf := D.box.frozen
     generalize w9 = wz at *
     go_wp2_with fail
     refine hK.out _ _ (by trivial) (fun hH => ?_)
     clear hK K
     refine wQ 5 ?_
     refine wQ 6 ?_
     refine wQ 7 ?_
     refine wR (rs := [8]) (by kernel_rfl) (by simp) ?_
     refine aC rfl (fun K hK => ?_) aN
     go_simp
     refine hK.out _ _ (by trivial) (fun hH => ?_)
     clear hK K
     try simp only [Act.put, pX]
     refine wD (by kernel_rfl) ?_ _
     have D3 := D.put (r2 := E.race) (l2 := E.log) M2 (by omega) (Or.inl (by omega)) (Nat.le_refl _) HS.out.1 HS.out.2
     unfold jsy at D3
     clear D M2 pc pf
     go_wp2_with fail
     go_roundw
     case rel => exact ⟨j, _, _, _, _, _, _, _, by go_num, by omega, by omega, D3⟩
     case measure => simp [intOf] <;> omega
    refine aC rfl (fun K hK => ?_) aN
    ·go_simp
     refine (jq3 (w.heap.size + 1) _ r.clock r.closed l A r.field.length c r.field wz D.cur (by omega) D.keeps D.small.1).mono ?_
     rintro e9 w9 ⟨s, he9, hs, c9, o9⟩
     replace he9 : e9 = .returned (.string s) := he9
     subst he9
     replace hs : s.size ≤ 100 := hs
     replace D := D.drawn c9 o9
     clear c9 o9 pc pf
     have pc := D.box.cell
     have pf := D.box.frozen
     generalize w9 = wz at *
     go_wp2_with fail
     refine hK.out _ _ (by trivial) (fun hH => ?_)
     clear hK K
     refine wR (rs := [0]) (by kernel_rfl) (by simp) ?_
     refine aC rfl (fun K hK => ?_) aN
     go_simp
     refine hK.out _ _ (by trivial) (fun hH => ?_)
     clear hK K
     try simp only [Act.put, pX]
     refine wR (rs := [4]) (by kernel_rfl) (by simp) ?_
     refine aC rfl (fun K hK => ?_) aN
     go_simp
     obtain ⟨E, hE⟩ : ∃ E, exM r l s = E := ⟨_, rfl⟩
     have CC := specExecuteCommand_any r.clock r.closed l A r.field.length c r.field s wz D.mine.sees (by have := D.small.1; omega) (fun x hx => by have := D.small.2 x hx; omega) D.log (by omega)
     rw [show (⟨r.clock, r.closed, r.field⟩ : RaceV) = r from rfl, hE] at CC
     have HS := Lib.hid (show jq0 E.race ∧ E.log.upto 1048576 by rw [← hE]; exact ⟨jre D.small, jrg D.log⟩)
     clear hE
     refine CC.mono ?_
     clear CC
     rintro e9 w9 ⟨A2, c2, he9, M2, b9⟩
     replace he9 : e9 = .returned (.tuple #[.agg #[E.race.clock, E.race.closed, .slice A2 E.race.field.length c2, E.log.durable, E.log.pending, E.log.count], .string E.reply]) := he9
     subst he9
     have hgr := D.box.lt
     have hres := D.cur.lt
     replace D := D.next b9
     obtain ⟨lo2, hlo⟩ : ∃ z, wz.heap.size = z := ⟨_, rfl⟩
     rw [hlo] at M2 hres hgr
     clear b9 hlo pc pf
     have pc := D.box.cell
     have pf := D.box.frozen
     generalize w9 = wz at *
     go_wp2_with fail
     refine hK.out _ _ (by trivial) (fun hH => ?_)
     clear hK K
     refine wQ 5 ?_
     refine wQ 6 ?_
     refine wQ 7 ?_
     refine wR (rs := [8]) (by kernel_rfl) (by simp) ?_
     refine aC rfl (fun K hK => ?_) aN
     go_simp
     refine hK.out _ _ (by trivial) (fun hH => ?_)
     clear hK K
     try simp only [Act.put, pX]
     refine wD (by kernel_rfl) ?_ _
     have D3 := D.put (r2 := E.race) (l2 := E.log) M2 (by omega) (Or.inl (by omega)) (Nat.le_refl _) HS.out.1 HS.out.2
     unfold jsy at D3
     clear D M2 pc pf
     go_wp2_with fail
     go_roundw
     case rel => exact ⟨j, _, _, _, _, _, _, _, by go_num, by omega, by omega, D3⟩
     case measure => simp [intOf] <;> omega
  ·obtain rfl : j = 0 := by omega
   have hpi : ¬ (0 : Int) < ((0 : Nat) : Int) := by omega
   have pc := D.box.cell
   go_upto_region 11 with fail
   have U := nB wr (.cells #[l.durable, l.pending, l.count] 33)
   have G := nP wr [l.durable, l.pending, l.count] 33
   have R := D.res.next U
   have K := jaa D.below U
   have C := D.cur.next U
   have hlu := D.log
   have hgw := D.cur.lt
   clear D U pc
   generalize wr.alloc _ = wa at *
   generalize wr.heap.size = gl at *
   go_wp2_with fail
   refine (jri 3 (w.heap.size + 1) _ _ C (by omega) (by decide) (by decide)).mono ?_
   rintro e9 wb ⟨yes, rfl, c9, o9⟩
   replace R := R.only o9 (fun (e : _ = _) => by omega)
   replace G := G.only o9 (fun (e : _ = _) => by omega)
   replace K := K.trans (o9.below (fun b (e : b = _) => by omega) K.size)
   replace C := c9
   clear o9 c9
   go_upto_if 42 with fail
   go_cut [] from 43 to 49 (fun wr => ∃ l2 : Log, l2.upto 1048576 ∧ Blk wr w.heap.size 33 [.string ⟨#[]⟩, .string ⟨#[]⟩, .int .i64 0] ∧ Blk wr gl 33 [.string l2.durable, .string l2.pending, .int .i64 l2.count] ∧ Below w.heap.size w wr)
   case first =>
    cases yes
    ·go_wp2_with fail
     go_meet
     exact ⟨l, hlu, R, G, K⟩
    ·go_upto_region 12 with fail
     have b9 := (Quiet.one wb).below wb.heap.size
     replace R := R.next b9
     replace G := G.next b9
     replace K := jaa K b9
     replace C := C.next b9
     clear b9
     have gc := G.cell
     have gf := G.frozen
     have Kb := K
     clear K
     refine wp_region_held_drew (S := fun w' => True) (by kernel_rfl) (by trivial) (fun hH => ?_)
     generalize wb.drew = wz at *
     refine wQ 1 ?_
     refine wR (rs := [0, 2]) (by kernel_rfl) (by simp) ?_
     refine aC rfl (fun K hK => ?_) ?_
     ·go_simp
      refine hK.out _ _ (by trivial) (fun hH => ?_)
      clear hK K
      try simp only [Act.put, pX]
      refine wR (rs := [2]) (by kernel_rfl) (by simp) ?_
      refine aC rfl (fun K hK => ?_) aN
      go_simp
      refine (jq9 (w.heap.size + 1) _ wz C (by omega)).mono ?_
      rintro e9 w9 ⟨x, he9, hx, c9, o9⟩
      replace he9 : e9 = .returned (.agg #[x.command, x.reply]) := he9
      subst he9
      replace R := R.only o9 (fun (e : _ = _) => by omega)
      replace G := G.only o9 (fun (e : _ = _) => by omega)
      replace Kb := Kb.trans (o9.below (fun b (e : b = _) => by omega) Kb.size)
      replace C := c9
      clear c9 o9 gc gf
      have gc := G.cell
      have gf := G.frozen
      generalize w9 = wz at *
      go_wp2_with fail
      refine hK.out _ _ (by trivial) (fun hH => ?_)
      clear hK K
      refine wR (rs := [3]) (by kernel_rfl) (by simp) ?_
      refine aC rfl (fun K hK => ?_) aN
      go_simp
      obtain ⟨z, hz⟩ : ∃ z, jgg l x = z := ⟨_, rfl⟩
      have CC := jdc l x wz hlu (LogRecord.upto_mono hx (by decide))
      unfold jft at CC
      rw [hz] at CC
      have hlz : z.1.upto 1048576 := by rw [← hz]; exact ju9 hlu
      obtain ⟨z, zc⟩ := z
      clear hz
      refine CC.mono ?_
      clear CC
      rintro e9 w9 ⟨he9, b9⟩
      replace he9 : e9 = .returned (.tuple #[.agg #[z.durable, z.pending, z.count], .int .i64 zc]) := he9
      subst he9
      replace hlz : z.upto 1048576 := hlz
      replace R := R.next b9
      replace G := G.next b9
      replace Kb := jaa Kb b9
      clear b9 gc gf C
      have gc := G.cell
      have gf := G.frozen
      generalize w9 = wz at *
      go_wp2_with fail
      refine hK.out _ _ (by trivial) (fun hH => ?_)
      clear hK K
      refine wQ 4 ?_
      refine wQ 5 ?_
      refine wQ 6 ?_
      refine wR (rs := [7]) (by kernel_rfl) (by simp) ?_
      refine aC rfl (fun K hK => ?_) aN
      go_simp
      refine hK.out _ _ (by trivial) (fun hH => ?_)
      clear hK K
      try simp only [Act.put, pX]
      refine wD (by kernel_rfl) ?_ _
      have hS : Only (fun b => b = gl) wz (((wz.setCell ⟨gl, 0, none⟩ (.string z.durable)).setCell ⟨gl, 1, none⟩ (.string z.pending)).setCell ⟨gl, 2, none⟩ (.int .i64 z.count)) := jqw (jqw (jqw (Only.refl _ _) 0 _) 1 _) 2 _
      have R2 := R.only hS (fun (e : _ = _) => by omega)
      have G2 : Blk (((wz.setCell ⟨gl, 0, none⟩ (.string z.durable)).setCell ⟨gl, 1, none⟩ (.string z.pending)).setCell ⟨gl, 2, none⟩ (.int .i64 z.count)) gl 33 [.string z.durable, .string z.pending, .int .i64 z.count] := ((G.set_ 0 _).set_ 1 _).set_ 2 _
      have K2 := Kb.trans (hS.below (fun b (e : b = _) => by omega) Kb.size)
      clear R G Kb hS gc gf
      go_wp2_with fail
      go_meet
      exact ⟨z, hlz, R2, G2, K2⟩
     refine aC rfl (fun K hK => ?_) aN
     ·go_simp
      refine (jq9 (w.heap.size + 1) _ wz C (by omega)).mono ?_
      rintro e9 w9 ⟨x, he9, hx, c9, o9⟩
      replace he9 : e9 = .returned (.agg #[x.command, x.reply]) := he9
      subst he9
      replace R := R.only o9 (fun (e : _ = _) => by omega)
      replace G := G.only o9 (fun (e : _ = _) => by omega)
      replace Kb := Kb.trans (o9.below (fun b (e : b = _) => by omega) Kb.size)
      replace C := c9
      clear c9 o9 gc gf
      have gc := G.cell
      have gf := G.frozen
      generalize w9 = wz at *
      go_wp2_with fail
      refine hK.out _ _ (by trivial) (fun hH => ?_)
      clear hK K
      refine wR (rs := [0]) (by kernel_rfl) (by simp) ?_
      refine aC rfl (fun K hK => ?_) aN
      go_simp
      refine hK.out _ _ (by trivial) (fun hH => ?_)
      clear hK K
      try simp only [Act.put, pX]
      refine wR (rs := [3]) (by kernel_rfl) (by simp) ?_
      refine aC rfl (fun K hK => ?_) aN
      go_simp
      obtain ⟨z, hz⟩ : ∃ z, jgg l x = z := ⟨_, rfl⟩
      have CC := jdc l x wz hlu (LogRecord.upto_mono hx (by decide))
      unfold jft at CC
      rw [hz] at CC
      have hlz : z.1.upto 1048576 := by rw [← hz]; exact ju9 hlu
      obtain ⟨z, zc⟩ := z
      clear hz
      refine CC.mono ?_
      clear CC
      rintro e9 w9 ⟨he9, b9⟩
      replace he9 : e9 = .returned (.tuple #[.agg #[z.durable, z.pending, z.count], .int .i64 zc]) := he9
      subst he9
      replace hlz : z.upto 1048576 := hlz
      replace R := R.next b9
      replace G := G.next b9
      replace Kb := jaa Kb b9
      clear b9 gc gf C
      have gc := G.cell
      have gf := G.frozen
      generalize w9 = wz at *
      go_wp2_with fail
      refine hK.out _ _ (by trivial) (fun hH => ?_)
      clear hK K
      refine wQ 4 ?_
      refine wQ 5 ?_
      refine wQ 6 ?_
      refine wR (rs := [7]) (by kernel_rfl) (by simp) ?_
      refine aC rfl (fun K hK => ?_) aN
      go_simp
      refine hK.out _ _ (by trivial) (fun hH => ?_)
      clear hK K
      try simp only [Act.put, pX]
      refine wD (by kernel_rfl) ?_ _
      have hS : Only (fun b => b = gl) wz (((wz.setCell ⟨gl, 0, none⟩ (.string z.durable)).setCell ⟨gl, 1, none⟩ (.string z.pending)).setCell ⟨gl, 2, none⟩ (.int .i64 z.count)) := jqw (jqw (jqw (Only.refl _ _) 0 _) 1 _) 2 _
      have R2 := R.only hS (fun (e : _ = _) => by omega)
      have G2 : Blk (((wz.setCell ⟨gl, 0, none⟩ (.string z.durable)).setCell ⟨gl, 1, none⟩ (.string z.pending)).setCell ⟨gl, 2, none⟩ (.int .i64 z.count)) gl 33 [.string z.durable, .string z.pending, .int .i64 z.count] := ((G.set_ 0 _).set_ 1 _).set_ 2 _
      have K2 := Kb.trans (hS.below (fun b (e : b = _) => by omega) Kb.size)
      clear R G Kb hS gc gf
      go_wp2_with fail
      go_meet
      exact ⟨z, hlz, R2, G2, K2⟩
   case rest =>
    clear R G K hlu
    obtain ⟨l2, hlu, R, G, K⟩ := hcut
    obtain ⟨wx, rfl⟩ : ∃ w' : World, w' = wc := ⟨_, rfl⟩
    go_upto_region 13 with fail
    have b9 := (Quiet.one wx).below wx.heap.size
    replace R := R.next b9
    replace G := G.next b9
    replace K := jaa K b9
    clear b9
    have gc := G.cell
    refine wp_region_held_drew (S := fun w' => w'.cell? ⟨gl, 0, none⟩ = some (.string l2.durable) ∧ w'.cell? ⟨gl, 1, none⟩ = some (.string l2.pending) ∧ w'.cell? ⟨gl, 2, none⟩ = some (.int .i64 l2.count)) (by kernel_rfl) (by (try dsimp only); exact ⟨gc 0, gc 1, gc 2⟩) (fun hH => ?_)
    generalize wx.drew = wz at *
    refine wQ 0 ?_
    refine wQ 1 ?_
    refine wQ 2 ?_
    refine wR (rs := [3]) (by kernel_rfl) (by simp) ?_
    refine aC rfl (fun K hK => ?_) aN
    have rf := R.frozen
    have rc0 := R.cell
    go_simp
    refine hK.out _ _ (by (try dsimp only); have hS : Only (fun b => b = w.heap.size) wz (((wz.setCell ⟨w.heap.size, 0, none⟩ (.string l2.durable)).setCell ⟨w.heap.size, 1, none⟩ (.string l2.pending)).setCell ⟨w.heap.size, 2, none⟩ (.int .i64 l2.count)) := jqw (jqw (jqw (Only.refl _ _) 0 _) 1 _) 2 _; have G2 := G.only hS (fun (e : _ = _) => by omega); exact ⟨G2.cell 0, G2.cell 1, G2.cell 2⟩) (fun hH => ?_)
    clear hK K
    try simp only [Act.put, pX]
    clear rf rc0
    refine wD (by kernel_rfl) ?_ _
    have R3 : Blk (((wz.setCell ⟨w.heap.size, 0, none⟩ (.string l2.durable)).setCell ⟨w.heap.size, 1, none⟩ (.string l2.pending)).setCell ⟨w.heap.size, 2, none⟩ (.int .i64 l2.count)) w.heap.size 33 [.string l2.durable, .string l2.pending, .int .i64 l2.count] := ((R.set_ 0 _).set_ 1 _).set_ 2 _
    have h9 := ju7 h08 hlu K
    clear R G K gc
    have rc := R3.cell
    go_wp2_with fail
    refine bodyPost_ret (v := .tuple #[.int .i64 e0, .agg #[l2.durable, l2.pending, l2.count]]) (by simp [results, Tryz.results22, go_sem, rc]) rfl ?_
    exact h9

end Go.Proofs.YtflpcdffmpfdpaaGreatDoor
namespace Go.Proofs.YtflpcdffmpfdpaaGreatDoor
open Go.RowKit
theorem jq1 {s t : ByteArray} (hs : jdf s = true) (ht : jdf t = true) : jdf (s ++ t) = true := by
 unfold jdf at *
 rw [ByteArray.data_append, Array.toList_append, List.all_append, hs, ht]
 rfl
theorem jtc (n : Nat) : jdf (jcf n) = true := by
 unfold jdf
 refine List.all_eq_true.2 fun b hb => ?_
 have := jik n b (by simpa [jcf] using hb)
 exact jf9.2 (by omega)
theorem jq2 (z : Int) : jdf (jbe z) = true := by
 rcases je3 z with ⟨n, -, e⟩ | ⟨n, -, -, e⟩
 ·rw [e]; exact jtc n
 ·rw [e]; exact jq1 (by decide) (jtc n)
theorem juj : ∀ xs : List Int, xs ≠ [] → jdf (jfc xs) = true := by
 intro xs
 induction h : xs.length generalizing xs with
 | zero => intro h1; exact absurd (List.length_eq_zero_iff.1 h) h1
 | succ k ih =>
  intro h1
  obtain ⟨ys, y, rfl⟩ : ∃ ys y, xs = ys ++ [y] := ⟨xs.dropLast, xs.getLast h1, (List.dropLast_concat_getLast h1).symm⟩
  by_cases h2 : ys = []
  ·subst h2
   rw [List.nil_append, jix]
   exact jq2 y
  ·rw [jgq h2]
   exact jq1 (jq1 (ih ys (by simpa using h) h2) (by decide)) (jq2 y)
theorem jsw (xs : List Int) : jdf (jbq xs) = true := by
 unfold jbq
 split
 ·decide
 ·rename_i h
  exact juj xs h
theorem jrl (x : Card) : ∀ k, jdf (jcx x k) = true
 | 0 => by
  unfold jcx jkl jp5
  refine jq1 (jq1 (jq1 (jq1 (jq2 _) (by decide)) (jq2 _)) (by decide)) ?_
  split
  ·decide
  ·exact jq2 _
 | k + 1 => by
  unfold jcx
  split
  ·refine jq1 (jrl x k) ?_
   unfold punT
   exact jq1 (jq1 (jq1 (by decide) (jq2 _)) (by decide)) (jq2 _)
  ·exact jrl x k
theorem jt9 {x : Card} {s : ByteArray} (h : jd1 x = some s) : jdf s = true := by
 unfold jd1 at h
 split at h
 ·injection h with h
  rw [← h]
  exact jrl x _
 ·cases h
theorem jsi {o : Option (List Int)} {s : ByteArray} (h : o.map jbq = some s) : jdf s = true := by
 cases o with
 | none => cases h
 | some l =>
  injection h with h
  rw [← h]
  exact jsw l
theorem ju6 {r : RaceV} {k : Nat} {l : List Int} {s : ByteArray} (h : jew r k l = some s) : jdf s = true := by
 unfold jew at h
 split at h
 ·injection h with h; rw [← h]; exact jq2 _
 ·exact jsi h
 ·exact jsi h
 ·unfold jjn at h
  split at h
  ·split at h
   ·exact jt9 h
   ·cases h
  ·cases h
 ·cases hl : jbz r (l.getD 0 0) with
  | none => rw [hl] at h; cases h
  | some p => rw [hl] at h; injection h with h; rw [← h]; exact jsw _
 ·unfold jgo at h
  split at h
  ·cases h
  ·exact jsi h
theorem jua (r : RaceV) (k e : Int) : jdf (jcl r k e) = true := by
 unfold jcl
 split
 ·split
  ·exact jq2 _
  ·decide
 split
 ·split
  ·exact jq2 _
  ·decide
 split
 ·decide
 split
 ·decide
 ·exact jq2 _
theorem jug {r : RaceV} {line s : ByteArray} (h : (jbl r line).2 = some s) : jdf s = true := by
 unfold jbl at h
 split at h
 ·split at h
  ·cases h
  ·rename_i l hl
   unfold jop at h
   split at h
   ·exact ju6 h
   ·split at h
    ·cases h
    ·injection h with h; rw [← h]; exact jua _ _ _
 ·cases h
theorem jul {s : ByteArray} (h : jdf s = true) : jdf (jp3 s) = true ∧ (jp3 s).size ≤ 200 := by
 unfold jp3
 split
 ·exact ⟨by decide, by decide⟩
 ·exact ⟨h, by omega⟩
theorem jvh (r : RaceV) (line : ByteArray) : jdf (ja7 r line) = true ∧ (ja7 r line).size ≤ 200 := by
 unfold ja7
 refine jul ?_
 cases h : (jbl r line).2 with
 | none => decide
 | some s => exact jug h
theorem jvb {r : RaceV} {line : ByteArray} (h : jgb ⟨line, ⟨#[]⟩⟩ = true) : jgb ⟨line, ja7 r line⟩ = true := by
 obtain ⟨h1, h2⟩ := jvh r line
 unfold jgb at *
 simp only [Bool.and_eq_true] at h
 simp only [Bool.and_eq_true, decide_eq_true_eq]
 exact ⟨⟨⟨⟨h.1.1.1.1, h2⟩, h.1.1.2⟩, h1⟩, h.2⟩
theorem jvo (r : RaceV) (l : Log) (line : ByteArray) : ((exM r l line).race = r ∧ (exM r l line).log = l ∧ ((exM r l line).reply = ⟨#[110, 111]⟩ ∨ (exM r l line).reply = ⟨#[98, 97, 100]⟩ ∨ (exM r l line).reply = ⟨#[102, 117, 108, 108]⟩))
  ∨ (ja0 r = true ∧ ja9 l = true ∧ (exM r l line).reply = ja7 r line ∧ ja0 (exM r l line).race = true ∧ ja9 (exM r l line).log = true ∧ (exM r l line).log.count = l.count + 1 ∧ (jq4 (exM r l line).log).1 = (jq4 l).1 ++ [⟨line, (exM r l line).reply⟩]
   ∧ jgb ⟨line, ⟨#[]⟩⟩ = true ∧ l.count ≠ 60 ∧ (exM r l line).race = (jbl r line).1 ∧ (exM r l line).log = ⟨l.durable, l.pending ++ jck l.count.toNat ⟨line, ja7 r line⟩, l.count + 1⟩) := by
 unfold exM
 by_cases h1 : (ja0 r && ja9 l) = false
 ·rw [if_pos h1]
  exact .inl ⟨rfl, rfl, .inl rfl⟩
 rw [if_neg h1]
 by_cases h2 : jgb ⟨line, ⟨#[]⟩⟩ = false
 ·rw [if_pos h2]
  exact .inl ⟨rfl, rfl, .inr (.inl rfl)⟩
 rw [if_neg h2]
 by_cases h3 : l.count = 60
 ·rw [if_pos h3]
  exact .inl ⟨rfl, rfl, .inr (.inr rfl)⟩
 rw [if_neg h3]
 rw [Bool.not_eq_false, Bool.and_eq_true] at h1
 rw [Bool.not_eq_false] at h2
 have h4 := jvb (r := r) h2
 obtain ⟨a1, a2, a3⟩ := jvf h1.2 h4 h3
 have ha : (jgg l ⟨line, ja7 r line⟩).1 = ⟨l.durable, l.pending ++ jck l.count.toNat ⟨line, ja7 r line⟩, l.count + 1⟩ := by
  unfold jgg
  rw [h1.2, h4]
  simp only [Bool.and_self, ↓reduceIte, h3]
 refine .inr ⟨h1.1, h1.2, rfl, jox h1.1, ?_, ?_, ?_, h2, h3, rfl, ha⟩
 ·show ja9 (jgg l ⟨line, ja7 r line⟩).1 = true
  rw [ha]; exact a1
 ·show (jgg l ⟨line, ja7 r line⟩).1.count = _
  rw [ha]
 ·show (jq4 (jgg l ⟨line, ja7 r line⟩).1).1 = _
  rw [ha]
  unfold jq4
  rw [a1, h1.2]
  exact a2
end Go.Proofs.YtflpcdffmpfdpaaGreatDoor
