/- Joined texts of this proof: CheckGG. -/
import Derived.Deep.CutBlock
import Derived.Test.YtkimlajfhepfgaaGreatP05
import Derived.Test.YtkimlajfhepfgaaGreatP06
import Derived.Test.YtkimlajfhepfgaaGreatP04
namespace Go.Proofs.YtkimlajfhepfgaaGreat
open Go.RowKit

/-- The reference's search for one code: the place that is next, what is found, where it goes on. -/
def InF (ps : List Punch) (c : Int) (nx : Nat) (f a kv : Value) : Prop :=
 ∃ kk : Nat, nx ≤ kk ∧ kk ≤ ps.length ∧ kv = .int .i64 (kk : Int) ∧ ((a = .int .i64 (-1) ∧ f = .int .i64 (nx : Int) ∧ ((ps.drop nx).take (kk - nx)).any (isCd c) = false) ∨
  ∃ j : Nat, a = .int .i64 ((nx + j : Nat) : Int) ∧ f = .int .i64 ((nx + j + 1 : Nat) : Int) ∧ ∃ hj : j < (ps.drop nx).length, isCd c (ps.drop nx)[j] = true ∧ ((ps.drop nx).take j).any (isCd c) = false)
theorem inF_start {ps : List Punch} {c : Int} {nx : Nat} (h : nx ≤ ps.length) : InF ps c nx (.int .i64 (nx : Int)) (.int .i64 (-1)) (.int .i64 (nx : Int)) :=
 ⟨nx, Nat.le_refl _, h, rfl, .inl ⟨rfl, rfl, by simp⟩⟩
theorem inF_no {ps : List Punch} {c : Int} {nx kk : Nat} (h1 : nx ≤ kk) (hk : kk < ps.length) (hb : ((ps.drop nx).take (kk - nx)).any (isCd c) = false) (hn : isCd c ps[kk] = false) : InF ps c nx (.int .i64 (nx : Int)) (.int .i64 (-1)) (.int .i64 ((kk + 1 : Nat) : Int)) :=
 ⟨kk + 1, by omega, hk, rfl, .inl ⟨rfl, rfl, by
   have h2 : kk - nx < (ps.drop nx).length := by rw [List.length_drop]; omega
   have h3 : (ps.drop nx)[kk - nx] = ps[kk] := by rw [List.getElem_drop]; congr 1; omega
   rw [show kk + 1 - nx = kk - nx + 1 by omega]
   exact any_take_succ h2 hb (by rw [h3]; exact hn)⟩⟩
theorem inF_yes {ps : List Punch} {c : Int} {nx kk : Nat} (h1 : nx ≤ kk) (hk : kk < ps.length) (hb : ((ps.drop nx).take (kk - nx)).any (isCd c) = false) (hn : isCd c ps[kk] = true) : InF ps c nx (.int .i64 ((kk + 1 : Nat) : Int)) (.int .i64 (kk : Int)) (.int .i64 ((kk + 1 : Nat) : Int)) := by
 have h2 : kk - nx < (ps.drop nx).length := by rw [List.length_drop]; omega
 have h3 : (ps.drop nx)[kk - nx] = ps[kk] := by rw [List.getElem_drop]; congr 1; omega
 exact ⟨kk + 1, by omega, hk, rfl, .inr ⟨kk - nx, by congr 1; omega, by congr 1; omega, h2, by rw [h3]; exact hn, hb⟩⟩

set_option maxRecDepth 100000 in
set_option maxHeartbeats 4000000 in
theorem l12Found_any (A : Option Addr) (n c : Nat) (x : Card) (B : Option Addr) (m e : Nat) (cs : List Int) (w : World) (hx : Sees w 0 2 A n (x.punches.flatMap Punch.enc)) (hn : n ≤ 1048576) (hy : Sees w 0 1 B m (ints cs)) (hm : m ≤ 1048576) :
  Calls Tryz.prog 111 #[.agg #[.int .i64 x.number, .int .i64 x.start, .int .i64 x.finish, .slice A n c], .slice B m e] w (GivesL w (foundL x.punches cs)) := by
 have HL := Lib.hid (hx.count (by decide) (fun _ => rfl))
 have HM := Lib.hid hy.icount
 have K0 : Below w.heap.size w ((w.alloc (.cells #[.int .i64 x.number, .int .i64 x.start, .int .i64 x.finish, .slice A n c] 31)).alloc (.cells #[] 3)) := ((Below.refl _ _).alloc (Nat.le_refl _) _).alloc (by simp) _
 have P0 : Blk ((w.alloc (.cells #[.int .i64 x.number, .int .i64 x.start, .int .i64 x.finish, .slice A n c] 31)).alloc (.cells #[] 3)) w.heap.size 31 [.int .i64 x.number, .int .i64 x.start, .int .i64 x.finish, .slice A n c] := (Blk.at_ rfl).alloc _
 have o0 := own_empty_at (w := (w.alloc (.cells #[.int .i64 x.number, .int .i64 x.start, .int .i64 x.finish, .slice A n c] 31))) (g := w.heap.size + 1) 3 1 (by simp)
 go_enter Tryz.func111, Tryz.ntmps111
 go_wp2_with fail
 go_loopw [5, 6, 7] (fun v q i wr => ∃ (k : Nat) (out : List Int) (nx : Nat) (A' : Option Addr) (c' : Nat), k ≤ m ∧ i = .int .i64 (k : Int) ∧ q = .int .i64 (nx : Int) ∧ v = .slice A' k c' ∧ wr.ownsRow (w.heap.size + 1) 3 1 (.slice A' k c') k (ints out) ∧ nx ≤ n ∧ Hid (fTo x.punches cs k = (out, nx)) ∧ Blk wr w.heap.size 31 [.int .i64 x.number, .int .i64 x.start, .int .i64 x.finish, .slice A n c] ∧ Below w.heap.size w wr) (fun _ _ i _ => m - (intOf i).toNat)
 case atStart => exact ⟨0, [], 0, _, 0, Nat.zero_le _, rfl, rfl, rfl, o0, Nat.zero_le _, Lib.hid rfl, P0, K0⟩
 case round =>
  obtain ⟨k, out, nx, A', c', hk, rfl, rfl, rfl, own, hnx, HO, PB, hb⟩ := hrel
  clear o0 P0 K0
  have pc := PB.cell
  by_cases hlt : k < m
  ·obtain ⟨bk, offk, rfl, hkx, x0⟩ := (hy.next hb).int hlt
   have hblt := World.block_lt_of_cell? wr _ x0
   have hkm : (k : Int) < (m : Int) := by omega
   have HS := Lib.hid (inF_start (ps := x.punches) (c := cs[k]) (nx := nx) (by rw [HL.out]; exact hnx))
   go_wp2_with fail
   obtain ⟨wo, hwo⟩ : ∃ wo : World, wo = wr := ⟨_, rfl⟩
   subst hwo
   go_loopw [6, 8, 9] (fun f a kv wx => InF x.punches cs[k] nx f a kv ∧ Quiet wo wx) (fun _ _ kv _ => n + 1 - (intOf kv).toNat)
   case atStart => exact ⟨HS.out, Quiet.refl _⟩
   case round =>
    obtain ⟨⟨kk, h1, h2, rfl, hw⟩, qx⟩ := hrel
    have hkn : kk ≤ n := by rw [← HL.out]; exact h2
    replace own := own_below own (qx.below _)
    replace PB := PB.quiet qx
    replace hb := bel_quiet hb qx
    have x0' := ((bcell (qx.below wo.heap.size)).1 _ (offk + k) hblt).trans x0
    have hblt' : bk < wr.heap.size := World.block_lt_of_cell? wr _ x0'
    clear pc x0 hblt HS
    have pc := PB.cell
    have QX := Lib.hid qx
    clear qx
    rcases hw with ⟨rfl, rfl, hno⟩ | ⟨j, rfl, rfl, hj, hpj, hbj⟩
    ·by_cases hk2 : kk < n
     ·obtain ⟨bp, offp, rfl, hkp, y0, y1⟩ := (hx.next hb).elem2 (fun _ => rfl) hk2
      have hbp := World.block_lt_of_cell? wr _ y0
      have hkki : (kk : Int) < (n : Int) := by omega
      by_cases he : x.punches[kk].code = cs[k]
      ·have HY := Lib.hid (inF_yes h1 hkp hno (by simp [isCd, he]))
       have e1 : (x.punches[kk].code == cs[k]) = true := by simp [he]
       clear he hno
       go_wp2_with fail
       go_quiet (fail)
       go_wp2_with fail
       go_roundw
       case rel => exact ⟨HY.out, QX.out.more _⟩
       case measure => simp [intOf]; omega
      ·have HY := Lib.hid (inF_no h1 hkp hno (by simp [isCd, he]))
       have e1 : (x.punches[kk].code == cs[k]) = false := by simp [he]
       clear he hno
       go_wp2_with fail
       go_quiet (fail)
       go_wp2_with fail
       go_roundw
       case rel => exact ⟨HY.out, QX.out.more _⟩
       case measure => simp [intOf]; omega
     ·have HN := Lib.hid (show fTo x.punches cs (k + 1) = (out ++ [-1], nx) by
       rw [fTo_next _ _ hkx, HO.out]
       refine fStep_no ?_
       rwa [List.take_of_length_le (by rw [List.length_drop, HL.out]; omega)] at hno)
      clear hno
      go_wp2_with (at_builtin; go_loud (refine wpList_pushNew rfl _ _ _ rfl Tryz.underlying24 info_int rfl (by decide) rfl own rfl (by simp) (by rfl) (by rfl) (by omega) (by decide) PB.lt ?_); intro A9 c9 w9 o9 h9 b9 q9)
      go_roundw
      case rel => exact ⟨k + 1, out ++ [-1], nx, A9, c9, by omega, by go_num, rfl, rfl, by simpa [ints] using o9, hnx, HN, PB.only h9 (own_not own (by omega)), hb.trans (b9.mono (by omega))⟩
      case measure => simp [intOf]; omega
    ·have HN := Lib.hid (show fTo x.punches cs (k + 1) = (out ++ [((nx + j : Nat) : Int)], nx + j + 1) by rw [fTo_next _ _ hkx, HO.out, fStep_yes hj hpj hbj])
     have hjn : nx + j + 1 ≤ n := by have h := hj; rw [List.length_drop, HL.out] at h; omega
     clear hj hpj hbj
     have hge : ¬ (((nx + j : Nat) : Int) < 0) := by omega
     by_cases hk2 : kk < n
     ·have hkki : (kk : Int) < (n : Int) := by omega
      go_wp2_with (at_builtin; go_loud (refine wpList_pushNew rfl _ _ _ rfl Tryz.underlying24 info_int rfl (by decide) rfl own rfl (by simp) (by rfl) (by rfl) (by omega) (by decide) PB.lt ?_); intro A9 c9 w9 o9 h9 b9 q9)
      go_roundw
      case rel => exact ⟨k + 1, out ++ [((nx + j : Nat) : Int)], nx + j + 1, A9, c9, by omega, by go_num, rfl, rfl, by simpa [ints] using o9, hjn, HN, PB.only h9 (own_not own (by omega)), hb.trans (b9.mono (by omega))⟩
      case measure => simp [intOf]; omega
     ·have hkki : ¬ ((kk : Int) < (n : Int)) := by omega
      go_wp2_with (at_builtin; go_loud (refine wpList_pushNew rfl _ _ _ rfl Tryz.underlying24 info_int rfl (by decide) rfl own rfl (by simp) (by rfl) (by rfl) (by omega) (by decide) PB.lt ?_); intro A9 c9 w9 o9 h9 b9 q9)
      go_roundw
      case rel => exact ⟨k + 1, out ++ [((nx + j : Nat) : Int)], nx + j + 1, A9, c9, by omega, by go_num, rfl, rfl, by simpa [ints] using o9, hjn, HN, PB.only h9 (own_not own (by omega)), hb.trans (b9.mono (by omega))⟩
      case measure => simp [intOf]; omega
  ·obtain rfl : k = m := by omega
   have HE := Lib.hid (show foundL x.punches cs = out by unfold foundL; rw [show cs.length = k from HM.out, HO.out])
   go_wp2_with fail
   go_ret
   rw [HE.out]
   have h9 := own_len own
   subst h9
   exact ⟨A', c', rfl, own_base own (by omega), hb⟩

set_option maxRecDepth 100000 in
set_option maxHeartbeats 2000000 in
theorem l12Missing_any (A : Option Addr) (n c : Nat) (x : Card) (B : Option Addr) (m e : Nat) (cs : List Int) (w : World) (hx : Sees w 0 2 A n (x.punches.flatMap Punch.enc)) (hn : n ≤ 1048576) (hy : Sees w 0 1 B m (ints cs)) (hm : m ≤ 1048576) :
  Calls Tryz.prog 99 #[.agg #[.int .i64 x.number, .int .i64 x.start, .int .i64 x.finish, .slice A n c], .slice B m e] w (GivesL w (missL x cs)) := by
 have HM := Lib.hid hy.icount
 have HF := Lib.hid (foundL_len x.punches cs)
 have hfm1 : (foundL x.punches cs).length ≤ m := by rw [HF.out, HM.out]; exact Nat.le_refl _
 have hfm2 : m ≤ (foundL x.punches cs).length := by rw [HF.out, HM.out]; exact Nat.le_refl _
 have K0 : Below w.heap.size w ((w.alloc (.cells #[.int .i64 x.number, .int .i64 x.start, .int .i64 x.finish, .slice A n c] 31)).alloc (.cells #[] 3)) := ((Below.refl _ _).alloc (Nat.le_refl _) _).alloc (by simp) _
 have P0 : Blk ((w.alloc (.cells #[.int .i64 x.number, .int .i64 x.start, .int .i64 x.finish, .slice A n c] 31)).alloc (.cells #[] 3)) w.heap.size 31 [.int .i64 x.number, .int .i64 x.start, .int .i64 x.finish, .slice A n c] := (Blk.at_ rfl).alloc _
 have o0 := own_empty_at (w := (w.alloc (.cells #[.int .i64 x.number, .int .i64 x.start, .int .i64 x.finish, .slice A n c] 31))) (g := w.heap.size + 1) 3 1 (by simp)
 have z0 : w.heap.size + 2 ≤ ((w.alloc (.cells #[.int .i64 x.number, .int .i64 x.start, .int .i64 x.finish, .slice A n c] 31)).alloc (.cells #[] 3)).heap.size := by simp
 go_enter Tryz.func99, Tryz.ntmps99
 go_wp2_with fail
 generalize ((w.alloc (.cells #[.int .i64 x.number, .int .i64 x.start, .int .i64 x.finish, .slice A n c] 31)).alloc (.cells #[] 3)) = w0 at *
 refine (l12Found_any A n c x B m e cs _ (hx.below K0 (Nat.le_refl _)) hn (hy.below K0 (Nat.le_refl _)) hm).mono ?_
 have HD := Lib.hid (show missL x cs = missTo (foundL x.punches cs) cs cs.length from rfl)
 generalize foundL x.punches cs = fs at *
 rintro e1 w1 ⟨F, cf, rfl, of_, b1⟩
 have K1 := bel_then K0 b1
 have o1 := own_below o0 b1
 have hF : ∀ b, OwnB F b → w.heap.size + 2 ≤ b := fun b hb => by have := (own_top of_ hb).1; omega
 have hz1 := b1.size
 clear P0 o0 K0
 go_wp2_with fail
 go_loopw [5, 7] (fun v i wr => ∃ (k : Nat) (out : List Int) (A' : Option Addr) (c' : Nat), k ≤ fs.length ∧ i = .int .i64 (k : Int) ∧ v = .slice A' out.length c' ∧ wr.ownsRow (w.heap.size + 1) 3 1 (.slice A' out.length c') out.length (ints out) ∧ out.length ≤ k ∧ Hid (missTo fs cs k = out) ∧ wr.ownsRow w0.heap.size 3 1 (.slice F fs.length cf) fs.length (ints fs) ∧ (∀ b, OwnB F b → OwnB A' b → False) ∧ w0.heap.size ≤ wr.heap.size ∧ Below w.heap.size w wr) (fun _ i _ => fs.length - (intOf i).toNat)
 case atStart => exact ⟨0, [], _, 0, Nat.zero_le _, rfl, rfl, o1, Nat.le_refl _, Lib.hid rfl, of_, (fun b h1 h2 => by have h3 := hF b h1; have h4 : w.heap.size + 1 = b := (by simpa [OwnB, Value.ownBlock] using h2); omega), hz1, K1⟩
 case round =>
  obtain ⟨k, out, A', c', hk, rfl, rfl, own, hlo, HO, ofr, hap, hzr, hb⟩ := hrel
  by_cases hlt : k < fs.length
  ·have hkc : k < cs.length := by rw [HM.out]; omega
   obtain ⟨bk, offk, rfl, hkx, x0⟩ := ((Sees.of_own ofr)).int hlt
   obtain ⟨by_, offy, rfl, hky, y0⟩ := (hy.next hb).int (show k < m by omega)
   have hN := missTo_next fs cs hlt hkc
   rw [HO.out] at hN
   have hblt := World.block_lt_of_cell? wr _ x0
   have hblty := World.block_lt_of_cell? wr _ y0
   have hkm : (k : Int) < (m : Int) := by omega
   have hkf : (k : Int) < (fs.length : Int) := by omega
   by_cases h0 : fs[k] < 0
   ·have HN := Lib.hid (hN.trans (if_pos h0))
    clear hN
    go_wp2_with (at_builtin; go_loud (refine wpList_pushNew rfl _ _ _ rfl Tryz.underlying24 info_int rfl (by decide) rfl own rfl (by simp) (by rfl) (by rfl) (by omega) (by decide) (by omega) ?_); intro A9 c9 w9 o9 h9 b9 q9)
    go_roundw
    case rel => exact ⟨k + 1, out ++ [cs[k]], A9, c9, by omega, by go_num, by simp, by simpa [ints] using o9, by simp; omega, HN, own_only ofr h9 (fun b h1 h2 => hap b h1 h2), (fun b h1 h2 => (q9 b h2).elim (hap b h1) (fun h5 => by have := (own_top ofr h1).2; omega)), by have := h9.size; omega, hb.trans (b9.mono (by omega))⟩
    case measure => simp [intOf]; omega
   ·have HN := Lib.hid (hN.trans (if_neg h0))
    clear hN
    go_wp2_with fail
    go_roundw
    case rel => exact ⟨k + 1, out, A', c', by omega, by go_num, rfl, own, by omega, HN, ofr, hap, hzr, hb⟩
    case measure => simp [intOf]; omega
  ·have HE := Lib.hid (show missL x cs = out by rw [HD.out, ← HO.out, show cs.length = k by rw [HM.out]; omega])
   go_wp2_with fail
   go_ret
   rw [HE.out]
   exact ⟨A', c', rfl, own_base own (by omega), hb⟩

end Go.Proofs.YtkimlajfhepfgaaGreat

namespace Go.Proofs.YtkimlajfhepfgaaGreat
open Go.RowKit

set_option maxRecDepth 100000 in
set_option maxHeartbeats 4000000 in
theorem l25Check_any (h0 : DeskH) (d : DeskV) (k : Nat) (v : World) (hs : SeesDesk v 0 h0 d) (hsm : Small 1000 d) (hk0 : d.queue.length = k + 1) :
  Calls Tryz.prog 56 #[.agg #[.slice h0.A0 h0.n0 h0.c0, .slice h0.A1 h0.n1 h0.c1, .slice h0.A2 h0.n2 h0.c2, .slice h0.A3 h0.n3 h0.c3, .slice h0.A4 h0.n4 h0.c4]] v fun e w' => ∃ H : DeskH, e = .returned (.agg #[.slice H.A0 H.n0 H.c0, .slice H.A1 H.n1 H.c1, .slice H.A2 H.n2 H.c2, .slice H.A3 H.n3 H.c3, .slice H.A4 H.n4 H.c4]) ∧ MineW w' (In v.heap.size w'.heap.size) H (checkD d) ∧ H.n2 ≤ H.c2 ∧ Below v.heap.size v w' := by
 have K0 : Below v.heap.size v ((v.alloc (.cells #[.slice h0.A0 h0.n0 h0.c0, .slice h0.A1 h0.n1 h0.c1, .slice h0.A2 h0.n2 h0.c2, .slice h0.A3 h0.n3 h0.c3, .slice h0.A4 h0.n4 h0.c4] 28)).alloc (.cells #[.slice none 0 0, .slice none 0 0, .slice none 0 0, .slice none 0 0, .slice none 0 0] 28)) := ((Below.refl v.heap.size v).alloc (Nat.le_refl _) _).alloc (by simp) _
 have P : Blk ((v.alloc (.cells #[.slice h0.A0 h0.n0 h0.c0, .slice h0.A1 h0.n1 h0.c1, .slice h0.A2 h0.n2 h0.c2, .slice h0.A3 h0.n3 h0.c3, .slice h0.A4 h0.n4 h0.c4] 28)).alloc (.cells #[.slice none 0 0, .slice none 0 0, .slice none 0 0, .slice none 0 0, .slice none 0 0] 28)) v.heap.size 28 [.slice h0.A0 h0.n0 h0.c0, .slice h0.A1 h0.n1 h0.c1, .slice h0.A2 h0.n2 h0.c2, .slice h0.A3 h0.n3 h0.c3, .slice h0.A4 h0.n4 h0.c4] := (Blk.at_ rfl).alloc _
 have R : Blk ((v.alloc (.cells #[.slice h0.A0 h0.n0 h0.c0, .slice h0.A1 h0.n1 h0.c1, .slice h0.A2 h0.n2 h0.c2, .slice h0.A3 h0.n3 h0.c3, .slice h0.A4 h0.n4 h0.c4] 28)).alloc (.cells #[.slice none 0 0, .slice none 0 0, .slice none 0 0, .slice none 0 0, .slice none 0 0] 28)) (v.heap.size + 1) 28 [.slice none 0 0, .slice none 0 0, .slice none 0 0, .slice none 0 0, .slice none 0 0] := Blk.at_ (by simp)
 have z0 : v.heap.size + 2 ≤ (((v.alloc (.cells #[.slice h0.A0 h0.n0 h0.c0, .slice h0.A1 h0.n1 h0.c1, .slice h0.A2 h0.n2 h0.c2, .slice h0.A3 h0.n3 h0.c3, .slice h0.A4 h0.n4 h0.c4] 28)).alloc (.cells #[.slice none 0 0, .slice none 0 0, .slice none 0 0, .slice none 0 0, .slice none 0 0] 28))).heap.size := by simp
 go_enter Tryz.func56, Tryz.ntmps56
 go_wp2_with fail
 generalize ((v.alloc (.cells #[.slice h0.A0 h0.n0 h0.c0, .slice h0.A1 h0.n1 h0.c1, .slice h0.A2 h0.n2 h0.c2, .slice h0.A3 h0.n3 h0.c3, .slice h0.A4 h0.n4 h0.c4] 28)).alloc (.cells #[.slice none 0 0, .slice none 0 0, .slice none 0 0, .slice none 0 0, .slice none 0 0] 28)) = w0 at *
 refine (l25OwnW_any h0 d _ (hs.below K0 (Nat.le_refl _)) (hsm.fit hs (by decide) (by decide))).mono ?_
 rintro e v2 ⟨h, rfl, M, F, C3, C2, b2⟩
 have K2 := bel_then K0 b2
 have R2 := R.next b2
 have z2 := b2.size
 have hlen := Lib.hid (hsm.lens M.desk.sees)
 have U : Below v2.heap.size v2 (v2.alloc (.cells #[.slice h.A0 h.n0 h.c0, .slice h.A1 h.n1 h.c1, .slice h.A2 h.n2 h.c2, .slice h.A3 h.n3 h.c3, .slice h.A4 h.n4 h.c4] 28)) := (Below.refl _ _).alloc (Nat.le_refl _) _
 have hB : Blk (v2.alloc (.cells #[.slice h.A0 h.n0 h.c0, .slice h.A1 h.n1 h.c1, .slice h.A2 h.n2 h.c2, .slice h.A3 h.n3 h.c3, .slice h.A4 h.n4 h.c4] 28)) v2.heap.size 28 [.slice h.A0 h.n0 h.c0, .slice h.A1 h.n1 h.c1, .slice h.A2 h.n2 h.c2, .slice h.A3 h.n3 h.c3, .slice h.A4 h.n4 h.c4] := Blk.at_ rfl
 have KW := bel_then K2 U
 have Rr := R2.next U
 have M3 := (M.next U).wide (T := fun b => b ≠ v2.heap.size ∧ v.heap.size + 2 ≤ b ∧ b < (v2.alloc (.cells #[.slice h.A0 h.n0 h.c0, .slice h.A1 h.n1 h.c1, .slice h.A2 h.n2 h.c2, .slice h.A3 h.n3 h.c3, .slice h.A4 h.n4 h.c4] 28)).heap.size) (fun b hb => ⟨by have := hb.2; omega, by have := hb.1; omega, Nat.lt_of_lt_of_le hb.2 U.size⟩)
 have hg2 : v.heap.size + 2 ≤ v2.heap.size := by omega
 clear hs P R K0 b2 M K2 R2 U F C3
 go_upto_region 2 with fail
 generalize v2.alloc (.cells #[.slice h.A0 h.n0 h.c0, .slice h.A1 h.n1 h.c1, .slice h.A2 h.n2 h.c2, .slice h.A3 h.n3 h.c3, .slice h.A4 h.n4 h.c4] 28) = w at *
 generalize v2.heap.size = g at *
 generalize hzb : v.heap.size = zb at *
 have HZB := Lib.hid hzb
 clear hzb
 generalize hSS : (fun b => b ≠ g ∧ zb + 2 ≤ b ∧ b < w.heap.size) = S at *
 have hS : ∀ b, S b → b < w.heap.size := fun b hb => by rw [← hSS] at hb; exact hb.2.2
 have hg : ¬ S g := fun hb => by rw [← hSS] at hb; exact hb.1 rfl
 have hS2 : ∀ b, S b → b ≠ g ∧ zb + 2 ≤ b ∧ b < w.heap.size := fun b hb => by rw [← hSS] at hb; exact hb
 have hlow : ∀ b, S b ∨ b = g → zb ≤ b := fun b hb => by
  rcases hb with hb | hb
  ·have := (hS2 b hb).2.1; omega
  ·omega
 clear hSS
 obtain ⟨l0, l1, l2, l3, l4⟩ := hlen.out
 obtain ⟨A0, n0, e0, A1, n1, e1, A2, n2, e2, A3, n3, e3, A4, n4, e4⟩ := h
 obtain ⟨col, m⟩ := M3
 dsimp only at hB C2 l0 l1 l2 l3 l4
 obtain rfl : n2 = k + 1 := by omega
 have hn0 : n0 ≤ 1000000 := by have := hsm.codes; omega
 have hn1 : n1 ≤ 1000000 := by have := hsm.known; omega
 have hn3 : n3 ≤ 1000000 := by have := hsm.total; omega
 have hn4 : n4 ≤ 1000000 := by have := hsm.total; omega
 clear l0 l1 l2 l3 l4 hk0
 obtain ⟨r, q, gq, off, hq, hA2, ⟨c0, c1, c2, c3⟩, mr, m2⟩ := m.first rfl
 dsimp only at hA2
 subst hA2
 have hgl := hB.lt
 have hql := World.block_lt_of_cell? w _ c0
 have cg := hB.cell
 have fg := hB.frozen
 have HQ := Lib.hid hq
 have HD := Lib.hid (show checkD d = if putsB d r.x then { d with queue := q, done := d.done ++ [rowOf d r.x] } else { d with queue := q, trouble := d.trouble ++ [r.x] } by unfold checkD; rw [hq])
 clear hq
 by_cases hcap : e2 = 1
 ·subst hcap
  obtain rfl : k = 0 := by omega
  have hcap3 : (1 : Int) ≤ ((0 : Nat) : Int) + 1 := by omega
  obtain rfl : q = [] := List.length_eq_zero_iff.1 m2.count
  replace m2 : MineO cardSh w (fun b => Hue S col 2 b ∧ ¬ OwnB r.A b) 31 109 (some ⟨gq, off, none⟩) 0 ([] : List Card) := MineO.empty _ _ _ _ _
  go_upto_region 4 with fail
  have ho : Only (fun b => b = g) w (w.setCell ⟨g, 2, none⟩ (.slice (some ⟨gq, off, none⟩) 0 0)) := (Only.refl (fun b => b = g) w).setCell (p := ⟨g, 2, none⟩) rfl _
  have U : Below (w.setCell ⟨g, 2, none⟩ (.slice (some ⟨gq, off, none⟩) 0 0)).heap.size (w.setCell ⟨g, 2, none⟩ (.slice (some ⟨gq, off, none⟩) 0 0)) ((w.setCell ⟨g, 2, none⟩ (.slice (some ⟨gq, off, none⟩) 0 0)).alloc (.cells #[.int .i64 r.x.number, .int .i64 r.x.start, .int .i64 r.x.finish, .slice r.A r.n r.c] 31)) := (Below.refl _ _).alloc (Nat.le_refl _) _
  have hsz : (w.setCell ⟨g, 2, none⟩ (.slice (some ⟨gq, off, none⟩) 0 0)).heap.size = w.heap.size := by simp [World.setCell]
  have Bg : Blk ((w.setCell ⟨g, 2, none⟩ (.slice (some ⟨gq, off, none⟩) 0 0)).alloc (.cells #[.int .i64 r.x.number, .int .i64 r.x.start, .int .i64 r.x.finish, .slice r.A r.n r.c] 31)) g 28 [.slice A0 n0 e0, .slice A1 n1 e1, .slice (some ⟨gq, off, none⟩) 0 0, .slice A3 n3 e3, .slice A4 n4 e4] := (show Blk (w.setCell ⟨g, 2, none⟩ (.slice (some ⟨gq, off, none⟩) 0 0)) g 28 [.slice A0 n0 e0, .slice A1 n1 e1, .slice (some ⟨gq, off, none⟩) 0 0, .slice A3 n3 e3, .slice A4 n4 e4] from hB.set_ 2 (.slice (some ⟨gq, off, none⟩) 0 0)).alloc _
  have Bc : Blk ((w.setCell ⟨g, 2, none⟩ (.slice (some ⟨gq, off, none⟩) 0 0)).alloc (.cells #[.int .i64 r.x.number, .int .i64 r.x.start, .int .i64 r.x.finish, .slice r.A r.n r.c] 31)) w.heap.size 31 [.int .i64 r.x.number, .int .i64 r.x.start, .int .i64 r.x.finish, .slice r.A r.n r.c] := Blk.at_ (by simp [World.setCell])
  have hSg : ∀ b, S b → b = g → False := fun b h1 h2 => hg (h2 ▸ h1)
  have mr := (mr.only ho (fun b h1 h2 => hSg b h1.1 h2)).next U
  have m2 := (m2.only ho (fun b h1 h2 => hSg b h1.1.1 h2)).next U
  have mc := (m.only ho hSg).next U
  have Rr := (Rr.only ho (fun h => by omega)).next U
  have x1 := ((m.f1.only ho (fun b h1 h2 => hSg b h1.1 h2)).next U).sees
  have x3 := ((m.f3.only ho (fun b h1 h2 => hSg b h1.1 h2)).next U).sees
  clear hsz
  generalize hcb0 : w.heap.size = cb at *
  have HCB := Lib.hid hcb0
  clear hcb0
  generalize ((w.setCell ⟨g, 2, none⟩ (.slice (some ⟨gq, off, none⟩) 0 0)).alloc (.cells #[.int .i64 r.x.number, .int .i64 r.x.start, .int .i64 r.x.finish, .slice r.A r.n r.c] 31)) = w3 at *
  have Kq := Below.refl w3.heap.size w3
  have pg := Bg.cell
  have pc := Bc.cell
  cases hkn : hasI d.known r.x.number
  ·have HK := Lib.hid hkn
   clear hkn
   go_upto_if 27 with (first
   | (go_at_call 69
      refine (l1Has_any A1 n1 e1 d.known r.x.number _ x1 (by omega)).mono ?_
      rw [HK.out]
      rintro e w4 ⟨rfl, qq⟩
      have b := qq.below w3.heap.size
      replace Bg := Bg.next b
      replace Bc := Bc.next b
      replace mr := mr.next b
      replace m2 := m2.next b
      replace mc := mc.next b
      replace x1 := x1.next b
      replace x3 := x3.next b
      replace Rr := Rr.next b
      replace Kq := bel_then Kq b
      clear b qq pg pc
      have pg := Bg.cell
      have pc := Bc.cell))
   have U4 : Below w4.heap.size w4 (w4.alloc (.cells #[.int .i64 r.x.number, .int .i64 r.x.start, .int .i64 r.x.finish, .slice r.A r.n r.c] 31)) := (Below.refl _ _).alloc (Nat.le_refl _) _
   have BA : Blk (w4.alloc (.cells #[.int .i64 r.x.number, .int .i64 r.x.start, .int .i64 r.x.finish, .slice r.A r.n r.c] 31)) w4.heap.size 31 [.int .i64 r.x.number, .int .i64 r.x.start, .int .i64 r.x.finish, .slice r.A r.n r.c] := Blk.at_ rfl
   replace Bg := Bg.next U4
   replace Bc := Bc.next U4
   replace mr := mr.next U4
   replace m2 := m2.next U4
   replace mc := mc.next U4
   replace x1 := x1.next U4
   replace x3 := x3.next U4
   replace Rr := Rr.next U4
   replace Kq := bel_then Kq U4
   have pgA := Bg.cell
   have pcA := Bc.cell
   obtain ⟨rs, hrs, M4⟩ := mc.f4
   dsimp only at M4 hrs
   go_wp2_with (at_builtin
                go_loud (refine wpList_cat rfl _ _ _ rfl Tryz.underlying25 info_impl_Card rfl (by decide) rfl M4.outer.own rfl (m := 1) (BA.sees (s := 4) (Nat.zero_le _) rfl) rfl (by omega) (by omega) (by decide) (Nat.zero_le _) ?_)
                intro A6 c6 w6 o6 h6 b6 q6
                have hA4 : ∀ b, OwnB A4 b → Hue S col 4 b := M4.outer.top
                have Bg6 := Bg.only h6 (fun h => hg (hA4 g h).1)
                have Bg7 := Bg6.set_ 4 (.slice A6 (n4 + 1) c6)
                have fg6 := Bg6.frozen
                have pg6 := Bg6.cell
                have pg7 := Bg7.cell
                have hSlow : ∀ b, OwnB A4 b → zb + 2 ≤ b := fun b hb => (hS2 _ (hA4 b hb).1).2.1
                have Rr6 := Rr.only h6 (fun h => by have := hSlow _ h; omega)
                have rc6 := Rr6.cell
                have rf6 := Rr6.frozen
                have Rr7 := Rr6.only ((Only.refl (fun b => b = g) w6).setCell (p := ⟨g, 4, none⟩) rfl (.slice A6 (n4 + 1) c6)) (fun h => by omega)
                have rc7 := Rr7.cell
                have rf7 := Rr7.frozen)
   have hp : putsB d r.x = false := by unfold putsB; rw [HK.out]; rfl
   have hgw := Bg.lt
   have hcw := Bc.lt
   have hSw : ∀ b, S b → b < ((w4.alloc (.cells #[.int .i64 r.x.number, .int .i64 r.x.start, .int .i64 r.x.finish, .slice r.A r.n r.c] 31))).heap.size := fun b hb => Nat.lt_trans (hS b hb) Bc.lt
   have hst : Only (fun b => b = g) w6 (w6.setCell ⟨g, 4, none⟩ (.slice A6 (n4 + 1) c6)) := (Only.refl (fun b => b = g) w6).setCell (p := ⟨g, 4, none⟩) rfl _
   have hz7 : (w6.setCell ⟨g, 4, none⟩ (.slice A6 (n4 + 1) c6)).heap.size = w6.heap.size := by simp [World.setCell]
   have hz6 := h6.size
   have hz5 := Kq.size
   have T := MineCW.trouble (A2 := (some ⟨gq, off, none⟩)) (n2 := 0) (c2 := 0) mc hSw hrs M4.inners M4.apart mr m2 hA4 h6 (fun b hb => (q6 b hb).imp id fun h => ⟨h, (own_top o6 hb).2⟩) (by rw [List.flatMap_append]; exact o6)
   have KF := ((KW.trans (Only.below ((((ho.mono fun b hb => .inr hb).trans (Only.of_below U)).trans (Only.of_below Kq)).trans ((h6.mono fun b hb => .inl (hA4 b hb).1).trans (hst.mono fun b hb => .inr hb))) (fun b hb => hlow b hb) (by rw [HCB.out]; omega))))
   go_wp2_with fail
   have EE := ((((((Only.refl (fun b => b = zb + 1) (w6.setCell ⟨g, 4, none⟩ (.slice A6 (n4 + 1) c6))).setCell (p := ⟨zb + 1, 0, none⟩) rfl (.slice A0 n0 e0)).setCell (p := ⟨zb + 1, 1, none⟩) rfl (.slice A1 n1 e1)).setCell (p := ⟨zb + 1, 2, none⟩) rfl (.slice (some ⟨gq, off, none⟩) 0 0)).setCell (p := ⟨zb + 1, 3, none⟩) rfl (.slice A3 n3 e3)).setCell (p := ⟨zb + 1, 4, none⟩) rfl (.slice A6 (n4 + 1) c6))
   have RF := (((((Rr7.set_ 0 (.slice A0 n0 e0)).set_ 1 (.slice A1 n1 e1)).set_ 2 (.slice (some ⟨gq, off, none⟩) 0 0)).set_ 3 (.slice A3 n3 e3)).set_ 4 (.slice A6 (n4 + 1) c6))
   refine bodyPost_ret (results_cell_row rfl _ _ (zb + 1) _ _ (0, 0) _ rfl RF Tryz.underlying28 rfl (by kernel_rfl)) rfl ⟨⟨A0, n0, e0, A1, n1, e1, (some ⟨gq, off, none⟩), 0, 0, A3, n3, e3, A6, n4 + 1, c6⟩, rfl, ?_, Nat.le_refl _, ?_⟩
   ·have T2 := (T.only hst (fun b h1 (h2 : b = g) => by
     rcases h1 with h1 | h1
     ·exact hSg b h1 h2
     ·exact absurd (h2 ▸ h1.1) (Nat.not_le_of_lt hgw))).only EE (fun b h1 h2 => by
     rcases h1 with h1 | h1
     ·have := (hS2 _ h1).2.1; omega
     ·have := h1.1; omega)
    rw [HD.out, hp]
    refine T2.wide fun b h1 => ?_
    rw [HZB.out]
    have := EE.size
    rcases h1 with h1 | h1
    ·have := (hS2 _ h1).2.1; have := (hS2 _ h1).2.2; exact ⟨by omega, by omega⟩
    ·have := h1.1; have := h1.2; exact ⟨by omega, by omega⟩
   ·rw [HZB.out]
    exact KF.trans (EE.below (fun b hb => by omega) (Nat.le_trans (Nat.le_of_eq HZB.out.symm) KF.size))
  have HK := Lib.hid hkn
  clear hkn
  cases hdn : doneB d.done r.x.number
  ·have HDN := Lib.hid hdn
   clear hdn
   go_upto_if 27 with (first
   | (go_at_call 69
      refine (l1Has_any A1 n1 e1 d.known r.x.number _ x1 (by omega)).mono ?_
      rw [HK.out]
      rintro e w4 ⟨rfl, qq⟩
      have b := qq.below w3.heap.size
      replace Bg := Bg.next b
      replace Bc := Bc.next b
      replace mr := mr.next b
      replace m2 := m2.next b
      replace mc := mc.next b
      replace x1 := x1.next b
      replace x3 := x3.next b
      replace Rr := Rr.next b
      replace Kq := bel_then Kq b
      clear b qq pg pc
      have pg := Bg.cell
      have pc := Bc.cell)
   | (go_at_call 65
      refine (l25Done_any A3 n3 e3 d.done r.x.number _ x3 (by omega)).mono ?_
      rw [HDN.out]
      rintro e w5 ⟨rfl, rfl⟩))
   have hrc : r.n ≤ r.c := own_cap mr.own
   have hin : r.x ∈ d.queue := by rw [HQ.out]; exact List.mem_cons_self
   have hrn : r.n ≤ 1000000 := by
    have h1 := mr.sees.count (by decide) (fun _ => rfl)
    have h2 := (hsm.qc _ hin).1
    unfold Card.cnt at h2
    omega
   obtain ⟨tm, htm⟩ : ∃ tm, r.x.finish - r.x.start = tm := ⟨_, rfl⟩
   have hwm : IntKind.i64.wrap tm = tm := by
    have h1 := (hsm.qc _ hin).2
    exact IntWalk.i64_in _ (by omega)
   clear hin
   have b := (Quiet.one w4).below w4.heap.size
   replace Bg := Bg.next b
   replace Bc := Bc.next b
   replace mr := mr.next b
   replace m2 := m2.next b
   replace mc := mc.next b
   replace x1 := x1.next b
   replace x3 := x3.next b
   replace Rr := Rr.next b
   replace Kq := bel_then Kq b
   clear b
   have pg := Bg.cell
   have pc := Bc.cell
   go_wp2_with fail
   refine wp_region_held_drew (S := fun w' => w'.cell? ⟨g, 0, none⟩ = some (.slice A0 n0 e0) ∧ w'.cell? ⟨cb, 0, none⟩ = some (.int .i64 r.x.number) ∧ w'.cell? ⟨cb, 1, none⟩ = some (.int .i64 r.x.start) ∧ w'.cell? ⟨cb, 2, none⟩ = some (.int .i64 r.x.finish) ∧ w'.cell? ⟨cb, 3, none⟩ = some (.slice r.A r.n r.c)) (by kernel_rfl) (by (try dsimp only); first | exact ⟨pg 0, pc 0, pc 1, pc 2, pc 3⟩ | exact ⟨pgB 0, pcB 0, pcB 1, pcB 2, pcB 3⟩ | exact ⟨pg6 0, pc6 0, pc6 1, pc6 2, pc6 3⟩) (fun hH => ?_)
   refine wT (i := 0) (v := ?_) rfl (by kernel_rfl) (by kernel_rfl) (by kernel_rfl) (fun _ _ _ h => h) (Or.inl ⟨by rfl, ?_⟩) (by assumption) ?_
   rotate_left 1
   ·(intro w hSw; (try dsimp only at hSw); go_simp; try with_reducible rfl)
   simp only [Act.put, pX]
   refine wT (i := 2) (v := ?_) rfl (by kernel_rfl) (by kernel_rfl) (by kernel_rfl) (fun _ _ _ h => h) (Or.inl ⟨by rfl, ?_⟩) (by assumption) ?_
   rotate_left 1
   ·(intro w hSw; (try dsimp only at hSw); go_simp; try with_reducible rfl)
   simp only [Act.put, pX]
   refine wT (i := 3) (v := ?_) rfl (by kernel_rfl) (by kernel_rfl) (by kernel_rfl) (fun _ _ _ h => h) (Or.inl ⟨by rfl, ?_⟩) (by assumption) ?_
   rotate_left 1
   ·(intro w hSw; (try dsimp only at hSw); go_simp; try with_reducible rfl)
   simp only [Act.put, pX]
   refine wT (i := 4) (v := ?_) rfl (by kernel_rfl) (by kernel_rfl) (by kernel_rfl) (fun _ _ _ h => h) (Or.inl ⟨by rfl, ?_⟩) (by assumption) ?_
   rotate_left 1
   ·(intro w hSw; (try dsimp only at hSw); go_simp; try with_reducible rfl)
   simp only [Act.put, pX]
   refine wT (i := 5) (v := ?_) rfl (by kernel_rfl) (by kernel_rfl) (by kernel_rfl) (fun _ _ _ h => h) (Or.inl ⟨by rfl, ?_⟩) (by assumption) ?_
   rotate_left 1
   ·(intro w hSw; (try dsimp only at hSw); go_simp; try with_reducible rfl)
   simp only [Act.put, pX]
   refine wT (i := 6) (v := ?_) rfl (by kernel_rfl) (by kernel_rfl) (by kernel_rfl) (fun _ _ _ h => h) (Or.inl ⟨by rfl, ?_⟩) (by assumption) ?_
   rotate_left 1
   ·(intro w hSw; (try dsimp only at hSw); go_simp; try with_reducible rfl)
   simp only [Act.put, pX]
   refine wT (i := 9) (v := ?_) rfl (by kernel_rfl) (by kernel_rfl) (by kernel_rfl) (fun _ _ _ h => h) (Or.inl ⟨by rfl, ?_⟩) (by assumption) ?_
   rotate_left 1
   ·(intro w hSw; (try dsimp only at hSw); go_simp; try with_reducible rfl)
   simp only [Act.put, pX]
   refine wT (i := 10) (v := ?_) rfl (by kernel_rfl) (by kernel_rfl) (by kernel_rfl) (fun _ _ _ h => h) (Or.inl ⟨by rfl, ?_⟩) (by assumption) ?_
   rotate_left 1
   ·(intro w hSw; (try dsimp only at hSw); go_simp; try with_reducible rfl)
   simp only [Act.put, pX]
   refine wT (i := 11) (v := ?_) rfl (by kernel_rfl) (by kernel_rfl) (by kernel_rfl) (fun _ _ _ h => h) (Or.inl ⟨by rfl, ?_⟩) (by assumption) ?_
   rotate_left 1
   ·(intro w hSw; (try dsimp only at hSw); go_simp; try with_reducible rfl)
   simp only [Act.put, pX]
   refine wT (i := 12) (v := ?_) rfl (by kernel_rfl) (by kernel_rfl) (by kernel_rfl) (fun _ _ _ h => h) (Or.inl ⟨by rfl, ?_⟩) (by assumption) ?_
   rotate_left 1
   ·(intro w hSw; (try dsimp only at hSw); go_simp; try with_reducible rfl)
   simp only [Act.put, pX]
   refine wT (i := 13) (v := ?_) rfl (by kernel_rfl) (by kernel_rfl) (by kernel_rfl) (fun _ _ _ h => h) (Or.inl ⟨by rfl, ?_⟩) (by assumption) ?_
   rotate_left 1
   ·(intro w hSw; (try dsimp only at hSw); go_simp; try with_reducible rfl)
   simp only [Act.put, pX]
   refine wR (rs := [1, 7]) (by kernel_rfl) (by simp) ?_
   refine aC rfl (fun K hK => ?_) ?_
   ·go_simp
    refine hK.out _ _ (by (try dsimp only); first | exact ⟨pg 0, pc 0, pc 1, pc 2, pc 3⟩ | exact ⟨pgB 0, pcB 0, pcB 1, pcB 2, pcB 3⟩ | exact ⟨pg6 0, pc6 0, pc6 1, pc6 2, pc6 3⟩) (fun hH => ?_)
    clear hK K
    try simp only [Act.put, pX]
    refine wR (rs := [7]) (by kernel_rfl) (by simp) ?_
    refine aC rfl (fun K hK => ?_) aN
    go_simp
    refine (l12Missing_any r.A r.n r.c r.x A0 n0 e0 d.codes _ mr.sees (by omega) (mc.f0.sees) (by omega)).mono ?_
    rintro e w6 ⟨AM, cM, rfl, oM, b⟩
    clear oM pg pc
    replace Bg := Bg.next b
    replace Bc := Bc.next b
    replace mr := mr.next b
    replace m2 := m2.next b
    replace mc := mc.next b
    replace x1 := x1.next b
    replace x3 := x3.next b
    replace Rr := Rr.next b
    replace Kq := bel_then Kq b
    clear b
    have pg := Bg.cell
    have pc := Bc.cell
    have UB : Below w6.heap.size w6 (w6.alloc (.cells #[.int .i64 r.x.number, .int .i64 (((missL r.x d.codes).length : Nat) : Int), .int .i64 tm] 41)) := (Below.refl _ _).alloc (Nat.le_refl _) _
    have BR : Blk (w6.alloc (.cells #[.int .i64 r.x.number, .int .i64 (((missL r.x d.codes).length : Nat) : Int), .int .i64 tm] 41)) w6.heap.size 41 [.int .i64 r.x.number, .int .i64 (((missL r.x d.codes).length : Nat) : Int), .int .i64 tm] := Blk.at_ rfl
    have BgB := Bg.next UB
    have BcB := Bc.next UB
    have mcB := mc.next UB
    have mrB := mr.next UB
    have m2B := m2.next UB
    have RrB := Rr.next UB
    have KqB := bel_then Kq UB
    have pgB := BgB.cell
    have pcB := BcB.cell
    go_wp2_with fail
    refine hK.out _ _ (by (try dsimp only); first | exact ⟨pg 0, pc 0, pc 1, pc 2, pc 3⟩ | exact ⟨pgB 0, pcB 0, pcB 1, pcB 2, pcB 3⟩ | exact ⟨pg6 0, pc6 0, pc6 1, pc6 2, pc6 3⟩) (fun hH => ?_)
    clear hK K
    refine wT (i := 8) (v := ?_) rfl (by kernel_rfl) (by kernel_rfl) (by kernel_rfl) (fun _ _ _ h => h) (Or.inl ⟨by rfl, ?_⟩) (by assumption) ?_
    rotate_left 1
    ·(intro w hSw; (try dsimp only at hSw); go_simp; try with_reducible rfl)
    simp only [Act.put, pX]
    refine wT (i := 14) (v := ?_) rfl (by kernel_rfl) (by kernel_rfl) (by kernel_rfl) (fun _ _ _ h => h) (Or.inl ⟨by rfl, ?_⟩) (by assumption) ?_
    rotate_left 1
    ·(intro w hSw; (try dsimp only at hSw); go_simp; try with_reducible rfl)
    simp only [Act.put, pX]
    refine wR (rs := [15]) (by kernel_rfl) (by simp) ?_
    refine aC rfl (fun K hK => ?_) aN
    go_simp
    refine hK.out _ _ (by (try dsimp only); first | exact ⟨pg 0, pc 0, pc 1, pc 2, pc 3⟩ | exact ⟨pgB 0, pcB 0, pcB 1, pcB 2, pcB 3⟩ | exact ⟨pg6 0, pc6 0, pc6 1, pc6 2, pc6 3⟩) (fun hH => ?_)
    clear hK K
    try simp only [Act.put, pX]
    refine wR (rs := [16]) (by kernel_rfl) (by simp) ?_
    refine aC rfl (fun K hK => ?_) aN
    refine step_cat rfl _ _ _ (by rfl) Tryz.underlying26 info_impl_DeskRow rfl (by decide) (by rfl) mcB.f3.own (by rfl) (m := 1) (BR.sees (s := 3) (Nat.zero_le _) rfl) (by rfl) (show n3 ≤ 1000000000 by omega) (by omega) (by decide) (Nat.zero_le _) ?_
    intro A6 c6 w7 o6 h6 b6 q6
    have hA3 : ∀ b, OwnB A3 b → Hue S col 3 b := mcB.f3.top
    have Bg6 := BgB.only h6 (fun h => hg (hA3 g h).1)
    have pg6 := Bg6.cell
    have fg6 := Bg6.frozen
    have Bc6 := BcB.only h6 (fun h => Nat.lt_irrefl _ (hS cb (hA3 cb h).1))
    have pc6 := Bc6.cell
    have Bg7 := Bg6.set_ 3 (.slice A6 (n3 + 1) c6)
    have pc7 := (Bc6.far (p := ⟨g, 3, none⟩) (fun (e : cb = g) => by omega) (.slice A6 (n3 + 1) c6)).cell
    have pg7 := Bg7.cell
    have hSlow : ∀ b, OwnB A3 b → zb + 2 ≤ b := fun b hb => (hS2 _ (hA3 b hb).1).2.1
    have Rr6 := RrB.only h6 (fun h => by have := hSlow _ h; omega)
    have rc6 := Rr6.cell
    have rf6 := Rr6.frozen
    have Rr7 := Rr6.only ((Only.refl (fun b => b = g) w7).setCell (p := ⟨g, 3, none⟩) rfl (.slice A6 (n3 + 1) c6)) (fun h => by omega)
    have rc7 := Rr7.cell
    have rf7 := Rr7.frozen
    refine hK.out _ _ (by (try dsimp only); first | exact ⟨pg 0, pc 0, pc 1, pc 2, pc 3⟩ | exact ⟨pgB 0, pcB 0, pcB 1, pcB 2, pcB 3⟩ | exact ⟨pg6 0, pc6 0, pc6 1, pc6 2, pc6 3⟩) (fun hH => ?_)
    clear hK K
    try simp only [Act.put, pX]
    refine wT (i := 17) (v := ?_) rfl (by kernel_rfl) (by kernel_rfl) (by kernel_rfl) (fun _ _ _ h => h) (Or.inl ⟨by rfl, ?_⟩) (by assumption) ?_
    rotate_left 1
    ·(intro w hSw; (try dsimp only at hSw); go_simp; try with_reducible rfl)
    simp only [Act.put, pX]
    refine wR (rs := [18]) (by kernel_rfl) (by simp) ?_
    refine aC rfl (fun K hK => ?_) aN
    go_simp
    refine hK.out _ _ (by (try dsimp only); exact ⟨pg7 0, pc7 0, pc7 1, pc7 2, pc7 3⟩) (fun hH => ?_)
    clear hK K
    try simp only [Act.put, pX]
    refine wD (by kernel_rfl) ?_ _
    have hp : putsB d r.x = true := by unfold putsB; rw [HK.out, HDN.out]; rfl
    have hgw := BgB.lt
    have hcw := BcB.lt
    have hSw : ∀ b, S b → b < ((w6.alloc (.cells #[.int .i64 r.x.number, .int .i64 (((missL r.x d.codes).length : Nat) : Int), .int .i64 tm] 41))).heap.size := fun b hb => Nat.lt_trans (hS b hb) BcB.lt
    have hst : Only (fun b => b = g) w7 (w7.setCell ⟨g, 3, none⟩ (.slice A6 (n3 + 1) c6)) := (Only.refl (fun b => b = g) w7).setCell (p := ⟨g, 3, none⟩) rfl _
    have hz7 : (w7.setCell ⟨g, 3, none⟩ (.slice A6 (n3 + 1) c6)).heap.size = w7.heap.size := by simp [World.setCell]
    have hz6 := h6.size
    have hz5 := KqB.size
    have hro : (rowOf d r.x).enc = [.int .i64 r.x.number, .int .i64 (((missL r.x d.codes).length : Nat) : Int), .int .i64 tm] := by unfold rowOf; rw [htm]; rfl
    have T := MineCW.done (A2 := (some ⟨gq, off, none⟩)) (n2 := 0) (c2 := 0) (ds := d.done ++ [rowOf d r.x]) mcB hSw m2B (h6.mono hA3) ⟨by rw [List.flatMap_append, List.flatMap_singleton, hro]; exact o6, fun b hb => (q6 b hb).imp (hA3 b) fun h => ⟨h, (own_top o6 hb).2⟩⟩
    have KF := ((KW.trans (Only.below ((((ho.mono fun b hb => .inr hb).trans (Only.of_below U)).trans (Only.of_below KqB)).trans ((h6.mono fun b hb => .inl (hA3 b hb).1).trans (hst.mono fun b hb => .inr hb))) (fun b hb => hlow b hb) (by rw [HCB.out]; omega))))
    go_wp2_with fail
    have EE := ((((((Only.refl (fun b => b = zb + 1) (w7.setCell ⟨g, 3, none⟩ (.slice A6 (n3 + 1) c6))).setCell (p := ⟨zb + 1, 0, none⟩) rfl (.slice A0 n0 e0)).setCell (p := ⟨zb + 1, 1, none⟩) rfl (.slice A1 n1 e1)).setCell (p := ⟨zb + 1, 2, none⟩) rfl (.slice (some ⟨gq, off, none⟩) 0 0)).setCell (p := ⟨zb + 1, 3, none⟩) rfl (.slice A6 (n3 + 1) c6)).setCell (p := ⟨zb + 1, 4, none⟩) rfl (.slice A4 n4 e4))
    have RF := (((((Rr7.set_ 0 (.slice A0 n0 e0)).set_ 1 (.slice A1 n1 e1)).set_ 2 (.slice (some ⟨gq, off, none⟩) 0 0)).set_ 3 (.slice A6 (n3 + 1) c6)).set_ 4 (.slice A4 n4 e4))
    refine bodyPost_ret (results_cell_row rfl _ _ (zb + 1) _ _ (0, 0) _ rfl RF Tryz.underlying28 rfl (by kernel_rfl)) rfl ⟨⟨A0, n0, e0, A1, n1, e1, (some ⟨gq, off, none⟩), 0, 0, A6, n3 + 1, c6, A4, n4, e4⟩, rfl, ?_, Nat.le_refl _, ?_⟩
    ·have T2 := (T.only hst (fun b h1 (h2 : b = g) => by
      rcases h1 with h1 | h1
      ·exact hSg b h1 h2
      ·exact absurd (h2 ▸ h1.1) (Nat.not_le_of_lt hgw))).only EE (fun b h1 h2 => by
      rcases h1 with h1 | h1
      ·have := (hS2 _ h1).2.1; omega
      ·have := h1.1; omega)
     rw [HD.out, hp]
     refine T2.wide fun b h1 => ?_
     rw [HZB.out]
     have := EE.size
     rcases h1 with h1 | h1
     ·have := (hS2 _ h1).2.1; have := (hS2 _ h1).2.2; exact ⟨by omega, by omega⟩
     ·have := h1.1; have := h1.2; exact ⟨by omega, by omega⟩
    ·rw [HZB.out]
     exact KF.trans (EE.below (fun b hb => by omega) (Nat.le_trans (Nat.le_of_eq HZB.out.symm) KF.size))
   refine aC rfl (fun K hK => ?_) aN
   ·go_simp
    refine (l12Missing_any r.A r.n r.c r.x A0 n0 e0 d.codes _ mr.sees (by omega) (mc.f0.sees) (by omega)).mono ?_
    rintro e w6 ⟨AM, cM, rfl, oM, b⟩
    clear oM pg pc
    replace Bg := Bg.next b
    replace Bc := Bc.next b
    replace mr := mr.next b
    replace m2 := m2.next b
    replace mc := mc.next b
    replace x1 := x1.next b
    replace x3 := x3.next b
    replace Rr := Rr.next b
    replace Kq := bel_then Kq b
    clear b
    have pg := Bg.cell
    have pc := Bc.cell
    have UB : Below w6.heap.size w6 (w6.alloc (.cells #[.int .i64 r.x.number, .int .i64 (((missL r.x d.codes).length : Nat) : Int), .int .i64 tm] 41)) := (Below.refl _ _).alloc (Nat.le_refl _) _
    have BR : Blk (w6.alloc (.cells #[.int .i64 r.x.number, .int .i64 (((missL r.x d.codes).length : Nat) : Int), .int .i64 tm] 41)) w6.heap.size 41 [.int .i64 r.x.number, .int .i64 (((missL r.x d.codes).length : Nat) : Int), .int .i64 tm] := Blk.at_ rfl
    have BgB := Bg.next UB
    have BcB := Bc.next UB
    have mcB := mc.next UB
    have mrB := mr.next UB
    have m2B := m2.next UB
    have RrB := Rr.next UB
    have KqB := bel_then Kq UB
    have pgB := BgB.cell
    have pcB := BcB.cell
    go_wp2_with fail
    refine hK.out _ _ (by (try dsimp only); first | exact ⟨pg 0, pc 0, pc 1, pc 2, pc 3⟩ | exact ⟨pgB 0, pcB 0, pcB 1, pcB 2, pcB 3⟩ | exact ⟨pg6 0, pc6 0, pc6 1, pc6 2, pc6 3⟩) (fun hH => ?_)
    clear hK K
    refine wT (i := 8) (v := ?_) rfl (by kernel_rfl) (by kernel_rfl) (by kernel_rfl) (fun _ _ _ h => h) (Or.inl ⟨by rfl, ?_⟩) (by assumption) ?_
    rotate_left 1
    ·(intro w hSw; (try dsimp only at hSw); go_simp; try with_reducible rfl)
    simp only [Act.put, pX]
    refine wT (i := 14) (v := ?_) rfl (by kernel_rfl) (by kernel_rfl) (by kernel_rfl) (fun _ _ _ h => h) (Or.inl ⟨by rfl, ?_⟩) (by assumption) ?_
    rotate_left 1
    ·(intro w hSw; (try dsimp only at hSw); go_simp; try with_reducible rfl)
    simp only [Act.put, pX]
    refine wR (rs := [1, 15]) (by kernel_rfl) (by simp) ?_
    refine aC rfl (fun K hK => ?_) ?_
    ·go_simp
     refine hK.out _ _ (by (try dsimp only); first | exact ⟨pg 0, pc 0, pc 1, pc 2, pc 3⟩ | exact ⟨pgB 0, pcB 0, pcB 1, pcB 2, pcB 3⟩ | exact ⟨pg6 0, pc6 0, pc6 1, pc6 2, pc6 3⟩) (fun hH => ?_)
     clear hK K
     try simp only [Act.put, pX]
     refine wR (rs := [15]) (by kernel_rfl) (by simp) ?_
     refine aC rfl (fun K hK => ?_) aN
     go_simp
     refine hK.out _ _ (by (try dsimp only); first | exact ⟨pg 0, pc 0, pc 1, pc 2, pc 3⟩ | exact ⟨pgB 0, pcB 0, pcB 1, pcB 2, pcB 3⟩ | exact ⟨pg6 0, pc6 0, pc6 1, pc6 2, pc6 3⟩) (fun hH => ?_)
     clear hK K
     try simp only [Act.put, pX]
     refine wR (rs := [16]) (by kernel_rfl) (by simp) ?_
     refine aC rfl (fun K hK => ?_) aN
     refine step_cat rfl _ _ _ (by rfl) Tryz.underlying26 info_impl_DeskRow rfl (by decide) (by rfl) mcB.f3.own (by rfl) (m := 1) (BR.sees (s := 3) (Nat.zero_le _) rfl) (by rfl) (show n3 ≤ 1000000000 by omega) (by omega) (by decide) (Nat.zero_le _) ?_
     intro A6 c6 w7 o6 h6 b6 q6
     have hA3 : ∀ b, OwnB A3 b → Hue S col 3 b := mcB.f3.top
     have Bg6 := BgB.only h6 (fun h => hg (hA3 g h).1)
     have pg6 := Bg6.cell
     have fg6 := Bg6.frozen
     have Bc6 := BcB.only h6 (fun h => Nat.lt_irrefl _ (hS cb (hA3 cb h).1))
     have pc6 := Bc6.cell
     have Bg7 := Bg6.set_ 3 (.slice A6 (n3 + 1) c6)
     have pc7 := (Bc6.far (p := ⟨g, 3, none⟩) (fun (e : cb = g) => by omega) (.slice A6 (n3 + 1) c6)).cell
     have pg7 := Bg7.cell
     have hSlow : ∀ b, OwnB A3 b → zb + 2 ≤ b := fun b hb => (hS2 _ (hA3 b hb).1).2.1
     have Rr6 := RrB.only h6 (fun h => by have := hSlow _ h; omega)
     have rc6 := Rr6.cell
     have rf6 := Rr6.frozen
     have Rr7 := Rr6.only ((Only.refl (fun b => b = g) w7).setCell (p := ⟨g, 3, none⟩) rfl (.slice A6 (n3 + 1) c6)) (fun h => by omega)
     have rc7 := Rr7.cell
     have rf7 := Rr7.frozen
     refine hK.out _ _ (by (try dsimp only); first | exact ⟨pg 0, pc 0, pc 1, pc 2, pc 3⟩ | exact ⟨pgB 0, pcB 0, pcB 1, pcB 2, pcB 3⟩ | exact ⟨pg6 0, pc6 0, pc6 1, pc6 2, pc6 3⟩) (fun hH => ?_)
     clear hK K
     try simp only [Act.put, pX]
     refine wT (i := 17) (v := ?_) rfl (by kernel_rfl) (by kernel_rfl) (by kernel_rfl) (fun _ _ _ h => h) (Or.inl ⟨by rfl, ?_⟩) (by assumption) ?_
     rotate_left 1
     ·(intro w hSw; (try dsimp only at hSw); go_simp; try with_reducible rfl)
     simp only [Act.put, pX]
     refine wR (rs := [18]) (by kernel_rfl) (by simp) ?_
     refine aC rfl (fun K hK => ?_) aN
     go_simp
     refine hK.out _ _ (by (try dsimp only); exact ⟨pg7 0, pc7 0, pc7 1, pc7 2, pc7 3⟩) (fun hH => ?_)
     clear hK K
     try simp only [Act.put, pX]
     refine wD (by kernel_rfl) ?_ _
     have hp : putsB d r.x = true := by unfold putsB; rw [HK.out, HDN.out]; rfl
     have hgw := BgB.lt
     have hcw := BcB.lt
     have hSw : ∀ b, S b → b < ((w6.alloc (.cells #[.int .i64 r.x.number, .int .i64 (((missL r.x d.codes).length : Nat) : Int), .int .i64 tm] 41))).heap.size := fun b hb => Nat.lt_trans (hS b hb) BcB.lt
     have hst : Only (fun b => b = g) w7 (w7.setCell ⟨g, 3, none⟩ (.slice A6 (n3 + 1) c6)) := (Only.refl (fun b => b = g) w7).setCell (p := ⟨g, 3, none⟩) rfl _
     have hz7 : (w7.setCell ⟨g, 3, none⟩ (.slice A6 (n3 + 1) c6)).heap.size = w7.heap.size := by simp [World.setCell]
     have hz6 := h6.size
     have hz5 := KqB.size
     have hro : (rowOf d r.x).enc = [.int .i64 r.x.number, .int .i64 (((missL r.x d.codes).length : Nat) : Int), .int .i64 tm] := by unfold rowOf; rw [htm]; rfl
     have T := MineCW.done (A2 := (some ⟨gq, off, none⟩)) (n2 := 0) (c2 := 0) (ds := d.done ++ [rowOf d r.x]) mcB hSw m2B (h6.mono hA3) ⟨by rw [List.flatMap_append, List.flatMap_singleton, hro]; exact o6, fun b hb => (q6 b hb).imp (hA3 b) fun h => ⟨h, (own_top o6 hb).2⟩⟩
     have KF := ((KW.trans (Only.below ((((ho.mono fun b hb => .inr hb).trans (Only.of_below U)).trans (Only.of_below KqB)).trans ((h6.mono fun b hb => .inl (hA3 b hb).1).trans (hst.mono fun b hb => .inr hb))) (fun b hb => hlow b hb) (by rw [HCB.out]; omega))))
     go_wp2_with fail
     have EE := ((((((Only.refl (fun b => b = zb + 1) (w7.setCell ⟨g, 3, none⟩ (.slice A6 (n3 + 1) c6))).setCell (p := ⟨zb + 1, 0, none⟩) rfl (.slice A0 n0 e0)).setCell (p := ⟨zb + 1, 1, none⟩) rfl (.slice A1 n1 e1)).setCell (p := ⟨zb + 1, 2, none⟩) rfl (.slice (some ⟨gq, off, none⟩) 0 0)).setCell (p := ⟨zb + 1, 3, none⟩) rfl (.slice A6 (n3 + 1) c6)).setCell (p := ⟨zb + 1, 4, none⟩) rfl (.slice A4 n4 e4))
     have RF := (((((Rr7.set_ 0 (.slice A0 n0 e0)).set_ 1 (.slice A1 n1 e1)).set_ 2 (.slice (some ⟨gq, off, none⟩) 0 0)).set_ 3 (.slice A6 (n3 + 1) c6)).set_ 4 (.slice A4 n4 e4))
     refine bodyPost_ret (results_cell_row rfl _ _ (zb + 1) _ _ (0, 0) _ rfl RF Tryz.underlying28 rfl (by kernel_rfl)) rfl ⟨⟨A0, n0, e0, A1, n1, e1, (some ⟨gq, off, none⟩), 0, 0, A6, n3 + 1, c6, A4, n4, e4⟩, rfl, ?_, Nat.le_refl _, ?_⟩
     ·have T2 := (T.only hst (fun b h1 (h2 : b = g) => by
       rcases h1 with h1 | h1
       ·exact hSg b h1 h2
       ·exact absurd (h2 ▸ h1.1) (Nat.not_le_of_lt hgw))).only EE (fun b h1 h2 => by
       rcases h1 with h1 | h1
       ·have := (hS2 _ h1).2.1; omega
       ·have := h1.1; omega)
      rw [HD.out, hp]
      refine T2.wide fun b h1 => ?_
      rw [HZB.out]
      have := EE.size
      rcases h1 with h1 | h1
      ·have := (hS2 _ h1).2.1; have := (hS2 _ h1).2.2; exact ⟨by omega, by omega⟩
      ·have := h1.1; have := h1.2; exact ⟨by omega, by omega⟩
     ·rw [HZB.out]
      exact KF.trans (EE.below (fun b hb => by omega) (Nat.le_trans (Nat.le_of_eq HZB.out.symm) KF.size))
    refine aC rfl (fun K hK => ?_) aN
    ·go_simp
     refine hK.out _ _ (by (try dsimp only); first | exact ⟨pg 0, pc 0, pc 1, pc 2, pc 3⟩ | exact ⟨pgB 0, pcB 0, pcB 1, pcB 2, pcB 3⟩ | exact ⟨pg6 0, pc6 0, pc6 1, pc6 2, pc6 3⟩) (fun hH => ?_)
     clear hK K
     try simp only [Act.put, pX]
     refine wR (rs := [1]) (by kernel_rfl) (by simp) ?_
     refine aC rfl (fun K hK => ?_) aN
     go_simp
     refine hK.out _ _ (by (try dsimp only); first | exact ⟨pg 0, pc 0, pc 1, pc 2, pc 3⟩ | exact ⟨pgB 0, pcB 0, pcB 1, pcB 2, pcB 3⟩ | exact ⟨pg6 0, pc6 0, pc6 1, pc6 2, pc6 3⟩) (fun hH => ?_)
     clear hK K
     try simp only [Act.put, pX]
     refine wR (rs := [16]) (by kernel_rfl) (by simp) ?_
     refine aC rfl (fun K hK => ?_) aN
     refine step_cat rfl _ _ _ (by rfl) Tryz.underlying26 info_impl_DeskRow rfl (by decide) (by rfl) mcB.f3.own (by rfl) (m := 1) (BR.sees (s := 3) (Nat.zero_le _) rfl) (by rfl) (show n3 ≤ 1000000000 by omega) (by omega) (by decide) (Nat.zero_le _) ?_
     intro A6 c6 w7 o6 h6 b6 q6
     have hA3 : ∀ b, OwnB A3 b → Hue S col 3 b := mcB.f3.top
     have Bg6 := BgB.only h6 (fun h => hg (hA3 g h).1)
     have pg6 := Bg6.cell
     have fg6 := Bg6.frozen
     have Bc6 := BcB.only h6 (fun h => Nat.lt_irrefl _ (hS cb (hA3 cb h).1))
     have pc6 := Bc6.cell
     have Bg7 := Bg6.set_ 3 (.slice A6 (n3 + 1) c6)
     have pc7 := (Bc6.far (p := ⟨g, 3, none⟩) (fun (e : cb = g) => by omega) (.slice A6 (n3 + 1) c6)).cell
     have pg7 := Bg7.cell
     have hSlow : ∀ b, OwnB A3 b → zb + 2 ≤ b := fun b hb => (hS2 _ (hA3 b hb).1).2.1
     have Rr6 := RrB.only h6 (fun h => by have := hSlow _ h; omega)
     have rc6 := Rr6.cell
     have rf6 := Rr6.frozen
     have Rr7 := Rr6.only ((Only.refl (fun b => b = g) w7).setCell (p := ⟨g, 3, none⟩) rfl (.slice A6 (n3 + 1) c6)) (fun h => by omega)
     have rc7 := Rr7.cell
     have rf7 := Rr7.frozen
     refine hK.out _ _ (by (try dsimp only); first | exact ⟨pg 0, pc 0, pc 1, pc 2, pc 3⟩ | exact ⟨pgB 0, pcB 0, pcB 1, pcB 2, pcB 3⟩ | exact ⟨pg6 0, pc6 0, pc6 1, pc6 2, pc6 3⟩) (fun hH => ?_)
     clear hK K
     try simp only [Act.put, pX]
     refine wT (i := 17) (v := ?_) rfl (by kernel_rfl) (by kernel_rfl) (by kernel_rfl) (fun _ _ _ h => h) (Or.inl ⟨by rfl, ?_⟩) (by assumption) ?_
     rotate_left 1
     ·(intro w hSw; (try dsimp only at hSw); go_simp; try with_reducible rfl)
     simp only [Act.put, pX]
     refine wR (rs := [18]) (by kernel_rfl) (by simp) ?_
     refine aC rfl (fun K hK => ?_) aN
     go_simp
     refine hK.out _ _ (by (try dsimp only); exact ⟨pg7 0, pc7 0, pc7 1, pc7 2, pc7 3⟩) (fun hH => ?_)
     clear hK K
     try simp only [Act.put, pX]
     refine wD (by kernel_rfl) ?_ _
     have hp : putsB d r.x = true := by unfold putsB; rw [HK.out, HDN.out]; rfl
     have hgw := BgB.lt
     have hcw := BcB.lt
     have hSw : ∀ b, S b → b < ((w6.alloc (.cells #[.int .i64 r.x.number, .int .i64 (((missL r.x d.codes).length : Nat) : Int), .int .i64 tm] 41))).heap.size := fun b hb => Nat.lt_trans (hS b hb) BcB.lt
     have hst : Only (fun b => b = g) w7 (w7.setCell ⟨g, 3, none⟩ (.slice A6 (n3 + 1) c6)) := (Only.refl (fun b => b = g) w7).setCell (p := ⟨g, 3, none⟩) rfl _
     have hz7 : (w7.setCell ⟨g, 3, none⟩ (.slice A6 (n3 + 1) c6)).heap.size = w7.heap.size := by simp [World.setCell]
     have hz6 := h6.size
     have hz5 := KqB.size
     have hro : (rowOf d r.x).enc = [.int .i64 r.x.number, .int .i64 (((missL r.x d.codes).length : Nat) : Int), .int .i64 tm] := by unfold rowOf; rw [htm]; rfl
     have T := MineCW.done (A2 := (some ⟨gq, off, none⟩)) (n2 := 0) (c2 := 0) (ds := d.done ++ [rowOf d r.x]) mcB hSw m2B (h6.mono hA3) ⟨by rw [List.flatMap_append, List.flatMap_singleton, hro]; exact o6, fun b hb => (q6 b hb).imp (hA3 b) fun h => ⟨h, (own_top o6 hb).2⟩⟩
     have KF := ((KW.trans (Only.below ((((ho.mono fun b hb => .inr hb).trans (Only.of_below U)).trans (Only.of_below KqB)).trans ((h6.mono fun b hb => .inl (hA3 b hb).1).trans (hst.mono fun b hb => .inr hb))) (fun b hb => hlow b hb) (by rw [HCB.out]; omega))))
     go_wp2_with fail
     have EE := ((((((Only.refl (fun b => b = zb + 1) (w7.setCell ⟨g, 3, none⟩ (.slice A6 (n3 + 1) c6))).setCell (p := ⟨zb + 1, 0, none⟩) rfl (.slice A0 n0 e0)).setCell (p := ⟨zb + 1, 1, none⟩) rfl (.slice A1 n1 e1)).setCell (p := ⟨zb + 1, 2, none⟩) rfl (.slice (some ⟨gq, off, none⟩) 0 0)).setCell (p := ⟨zb + 1, 3, none⟩) rfl (.slice A6 (n3 + 1) c6)).setCell (p := ⟨zb + 1, 4, none⟩) rfl (.slice A4 n4 e4))
     have RF := (((((Rr7.set_ 0 (.slice A0 n0 e0)).set_ 1 (.slice A1 n1 e1)).set_ 2 (.slice (some ⟨gq, off, none⟩) 0 0)).set_ 3 (.slice A6 (n3 + 1) c6)).set_ 4 (.slice A4 n4 e4))
     refine bodyPost_ret (results_cell_row rfl _ _ (zb + 1) _ _ (0, 0) _ rfl RF Tryz.underlying28 rfl (by kernel_rfl)) rfl ⟨⟨A0, n0, e0, A1, n1, e1, (some ⟨gq, off, none⟩), 0, 0, A6, n3 + 1, c6, A4, n4, e4⟩, rfl, ?_, Nat.le_refl _, ?_⟩
     ·have T2 := (T.only hst (fun b h1 (h2 : b = g) => by
       rcases h1 with h1 | h1
       ·exact hSg b h1 h2
       ·exact absurd (h2 ▸ h1.1) (Nat.not_le_of_lt hgw))).only EE (fun b h1 h2 => by
       rcases h1 with h1 | h1
       ·have := (hS2 _ h1).2.1; omega
       ·have := h1.1; omega)
      rw [HD.out, hp]
      refine T2.wide fun b h1 => ?_
      rw [HZB.out]
      have := EE.size
      rcases h1 with h1 | h1
      ·have := (hS2 _ h1).2.1; have := (hS2 _ h1).2.2; exact ⟨by omega, by omega⟩
      ·have := h1.1; have := h1.2; exact ⟨by omega, by omega⟩
     ·rw [HZB.out]
      exact KF.trans (EE.below (fun b hb => by omega) (Nat.le_trans (Nat.le_of_eq HZB.out.symm) KF.size))
  have HDN := Lib.hid hdn
  clear hdn
  go_upto_if 27 with (first
   | (go_at_call 69
      refine (l1Has_any A1 n1 e1 d.known r.x.number _ x1 (by omega)).mono ?_
      rw [HK.out]
      rintro e w4 ⟨rfl, qq⟩
      have b := qq.below w3.heap.size
      replace Bg := Bg.next b
      replace Bc := Bc.next b
      replace mr := mr.next b
      replace m2 := m2.next b
      replace mc := mc.next b
      replace x1 := x1.next b
      replace x3 := x3.next b
      replace Rr := Rr.next b
      replace Kq := bel_then Kq b
      clear b qq pg pc
      have pg := Bg.cell
      have pc := Bc.cell)
   | (go_at_call 65
      refine (l25Done_any A3 n3 e3 d.done r.x.number _ x3 (by omega)).mono ?_
      rw [HDN.out]
      rintro e w5 ⟨rfl, rfl⟩))
  have U4 : Below w4.heap.size w4 (w4.alloc (.cells #[.int .i64 r.x.number, .int .i64 r.x.start, .int .i64 r.x.finish, .slice r.A r.n r.c] 31)) := (Below.refl _ _).alloc (Nat.le_refl _) _
  have BA : Blk (w4.alloc (.cells #[.int .i64 r.x.number, .int .i64 r.x.start, .int .i64 r.x.finish, .slice r.A r.n r.c] 31)) w4.heap.size 31 [.int .i64 r.x.number, .int .i64 r.x.start, .int .i64 r.x.finish, .slice r.A r.n r.c] := Blk.at_ rfl
  replace Bg := Bg.next U4
  replace Bc := Bc.next U4
  replace mr := mr.next U4
  replace m2 := m2.next U4
  replace mc := mc.next U4
  replace x1 := x1.next U4
  replace x3 := x3.next U4
  replace Rr := Rr.next U4
  replace Kq := bel_then Kq U4
  have pgA := Bg.cell
  have pcA := Bc.cell
  obtain ⟨rs, hrs, M4⟩ := mc.f4
  dsimp only at M4 hrs
  go_wp2_with (at_builtin
               go_loud (refine wpList_cat rfl _ _ _ rfl Tryz.underlying25 info_impl_Card rfl (by decide) rfl M4.outer.own rfl (m := 1) (BA.sees (s := 4) (Nat.zero_le _) rfl) rfl (by omega) (by omega) (by decide) (Nat.zero_le _) ?_)
               intro A6 c6 w6 o6 h6 b6 q6
               have hA4 : ∀ b, OwnB A4 b → Hue S col 4 b := M4.outer.top
               have Bg6 := Bg.only h6 (fun h => hg (hA4 g h).1)
               have Bg7 := Bg6.set_ 4 (.slice A6 (n4 + 1) c6)
               have fg6 := Bg6.frozen
               have pg6 := Bg6.cell
               have pg7 := Bg7.cell
               have hSlow : ∀ b, OwnB A4 b → zb + 2 ≤ b := fun b hb => (hS2 _ (hA4 b hb).1).2.1
               have Rr6 := Rr.only h6 (fun h => by have := hSlow _ h; omega)
               have rc6 := Rr6.cell
               have rf6 := Rr6.frozen
               have Rr7 := Rr6.only ((Only.refl (fun b => b = g) w6).setCell (p := ⟨g, 4, none⟩) rfl (.slice A6 (n4 + 1) c6)) (fun h => by omega)
               have rc7 := Rr7.cell
               have rf7 := Rr7.frozen)
  have hp : putsB d r.x = false := by unfold putsB; rw [HK.out, HDN.out]; rfl
  have hgw := Bg.lt
  have hcw := Bc.lt
  have hSw : ∀ b, S b → b < ((w4.alloc (.cells #[.int .i64 r.x.number, .int .i64 r.x.start, .int .i64 r.x.finish, .slice r.A r.n r.c] 31))).heap.size := fun b hb => Nat.lt_trans (hS b hb) Bc.lt
  have hst : Only (fun b => b = g) w6 (w6.setCell ⟨g, 4, none⟩ (.slice A6 (n4 + 1) c6)) := (Only.refl (fun b => b = g) w6).setCell (p := ⟨g, 4, none⟩) rfl _
  have hz7 : (w6.setCell ⟨g, 4, none⟩ (.slice A6 (n4 + 1) c6)).heap.size = w6.heap.size := by simp [World.setCell]
  have hz6 := h6.size
  have hz5 := Kq.size
  have T := MineCW.trouble (A2 := (some ⟨gq, off, none⟩)) (n2 := 0) (c2 := 0) mc hSw hrs M4.inners M4.apart mr m2 hA4 h6 (fun b hb => (q6 b hb).imp id fun h => ⟨h, (own_top o6 hb).2⟩) (by rw [List.flatMap_append]; exact o6)
  have KF := ((KW.trans (Only.below ((((ho.mono fun b hb => .inr hb).trans (Only.of_below U)).trans (Only.of_below Kq)).trans ((h6.mono fun b hb => .inl (hA4 b hb).1).trans (hst.mono fun b hb => .inr hb))) (fun b hb => hlow b hb) (by rw [HCB.out]; omega))))
  go_wp2_with fail
  have EE := ((((((Only.refl (fun b => b = zb + 1) (w6.setCell ⟨g, 4, none⟩ (.slice A6 (n4 + 1) c6))).setCell (p := ⟨zb + 1, 0, none⟩) rfl (.slice A0 n0 e0)).setCell (p := ⟨zb + 1, 1, none⟩) rfl (.slice A1 n1 e1)).setCell (p := ⟨zb + 1, 2, none⟩) rfl (.slice (some ⟨gq, off, none⟩) 0 0)).setCell (p := ⟨zb + 1, 3, none⟩) rfl (.slice A3 n3 e3)).setCell (p := ⟨zb + 1, 4, none⟩) rfl (.slice A6 (n4 + 1) c6))
  have RF := (((((Rr7.set_ 0 (.slice A0 n0 e0)).set_ 1 (.slice A1 n1 e1)).set_ 2 (.slice (some ⟨gq, off, none⟩) 0 0)).set_ 3 (.slice A3 n3 e3)).set_ 4 (.slice A6 (n4 + 1) c6))
  refine bodyPost_ret (results_cell_row rfl _ _ (zb + 1) _ _ (0, 0) _ rfl RF Tryz.underlying28 rfl (by kernel_rfl)) rfl ⟨⟨A0, n0, e0, A1, n1, e1, (some ⟨gq, off, none⟩), 0, 0, A3, n3, e3, A6, n4 + 1, c6⟩, rfl, ?_, Nat.le_refl _, ?_⟩
  ·have T2 := (T.only hst (fun b h1 (h2 : b = g) => by
    rcases h1 with h1 | h1
    ·exact hSg b h1 h2
    ·exact absurd (h2 ▸ h1.1) (Nat.not_le_of_lt hgw))).only EE (fun b h1 h2 => by
    rcases h1 with h1 | h1
    ·have := (hS2 _ h1).2.1; omega
    ·have := h1.1; omega)
   rw [HD.out, hp]
   refine T2.wide fun b h1 => ?_
   rw [HZB.out]
   have := EE.size
   rcases h1 with h1 | h1
   ·have := (hS2 _ h1).2.1; have := (hS2 _ h1).2.2; exact ⟨by omega, by omega⟩
   ·have := h1.1; have := h1.2; exact ⟨by omega, by omega⟩
  ·rw [HZB.out]
   exact KF.trans (EE.below (fun b hb => by omega) (Nat.le_trans (Nat.le_of_eq HZB.out.symm) KF.size))
 have hcap2 : 1 < e2 := by omega
 have hcap3 : (1 : Int) ≤ (k : Int) + 1 := by omega
 clear hcap
 go_upto_region 4 with fail
 have ho : Only (fun b => b = g) w (w.setCell ⟨g, 2, none⟩ (.slice (some ⟨gq, off + 4, none⟩) k (e2 - 1))) := (Only.refl (fun b => b = g) w).setCell (p := ⟨g, 2, none⟩) rfl _
 have U : Below (w.setCell ⟨g, 2, none⟩ (.slice (some ⟨gq, off + 4, none⟩) k (e2 - 1))).heap.size (w.setCell ⟨g, 2, none⟩ (.slice (some ⟨gq, off + 4, none⟩) k (e2 - 1))) ((w.setCell ⟨g, 2, none⟩ (.slice (some ⟨gq, off + 4, none⟩) k (e2 - 1))).alloc (.cells #[.int .i64 r.x.number, .int .i64 r.x.start, .int .i64 r.x.finish, .slice r.A r.n r.c] 31)) := (Below.refl _ _).alloc (Nat.le_refl _) _
 have hsz : (w.setCell ⟨g, 2, none⟩ (.slice (some ⟨gq, off + 4, none⟩) k (e2 - 1))).heap.size = w.heap.size := by simp [World.setCell]
 have Bg : Blk ((w.setCell ⟨g, 2, none⟩ (.slice (some ⟨gq, off + 4, none⟩) k (e2 - 1))).alloc (.cells #[.int .i64 r.x.number, .int .i64 r.x.start, .int .i64 r.x.finish, .slice r.A r.n r.c] 31)) g 28 [.slice A0 n0 e0, .slice A1 n1 e1, .slice (some ⟨gq, off + 4, none⟩) k (e2 - 1), .slice A3 n3 e3, .slice A4 n4 e4] := (show Blk (w.setCell ⟨g, 2, none⟩ (.slice (some ⟨gq, off + 4, none⟩) k (e2 - 1))) g 28 [.slice A0 n0 e0, .slice A1 n1 e1, .slice (some ⟨gq, off + 4, none⟩) k (e2 - 1), .slice A3 n3 e3, .slice A4 n4 e4] from hB.set_ 2 (.slice (some ⟨gq, off + 4, none⟩) k (e2 - 1))).alloc _
 have Bc : Blk ((w.setCell ⟨g, 2, none⟩ (.slice (some ⟨gq, off + 4, none⟩) k (e2 - 1))).alloc (.cells #[.int .i64 r.x.number, .int .i64 r.x.start, .int .i64 r.x.finish, .slice r.A r.n r.c] 31)) w.heap.size 31 [.int .i64 r.x.number, .int .i64 r.x.start, .int .i64 r.x.finish, .slice r.A r.n r.c] := Blk.at_ (by simp [World.setCell])
 have hSg : ∀ b, S b → b = g → False := fun b h1 h2 => hg (h2 ▸ h1)
 have mr := (mr.only ho (fun b h1 h2 => hSg b h1.1 h2)).next U
 have m2 := (m2.only ho (fun b h1 h2 => hSg b h1.1.1 h2)).next U
 have mc := (m.only ho hSg).next U
 have Rr := (Rr.only ho (fun h => by omega)).next U
 have x1 := ((m.f1.only ho (fun b h1 h2 => hSg b h1.1 h2)).next U).sees
 have x3 := ((m.f3.only ho (fun b h1 h2 => hSg b h1.1 h2)).next U).sees
 clear hsz
 generalize hcb0 : w.heap.size = cb at *
 have HCB := Lib.hid hcb0
 clear hcb0
 generalize ((w.setCell ⟨g, 2, none⟩ (.slice (some ⟨gq, off + 4, none⟩) k (e2 - 1))).alloc (.cells #[.int .i64 r.x.number, .int .i64 r.x.start, .int .i64 r.x.finish, .slice r.A r.n r.c] 31)) = w3 at *
 have Kq := Below.refl w3.heap.size w3
 have pg := Bg.cell
 have pc := Bc.cell
 cases hkn : hasI d.known r.x.number
 ·have HK := Lib.hid hkn
  clear hkn
  go_upto_if 27 with (first
  | (go_at_call 69
     refine (l1Has_any A1 n1 e1 d.known r.x.number _ x1 (by omega)).mono ?_
     rw [HK.out]
     rintro e w4 ⟨rfl, qq⟩
     have b := qq.below w3.heap.size
     replace Bg := Bg.next b
     replace Bc := Bc.next b
     replace mr := mr.next b
     replace m2 := m2.next b
     replace mc := mc.next b
     replace x1 := x1.next b
     replace x3 := x3.next b
     replace Rr := Rr.next b
     replace Kq := bel_then Kq b
     clear b qq pg pc
     have pg := Bg.cell
     have pc := Bc.cell))
  have U4 : Below w4.heap.size w4 (w4.alloc (.cells #[.int .i64 r.x.number, .int .i64 r.x.start, .int .i64 r.x.finish, .slice r.A r.n r.c] 31)) := (Below.refl _ _).alloc (Nat.le_refl _) _
  have BA : Blk (w4.alloc (.cells #[.int .i64 r.x.number, .int .i64 r.x.start, .int .i64 r.x.finish, .slice r.A r.n r.c] 31)) w4.heap.size 31 [.int .i64 r.x.number, .int .i64 r.x.start, .int .i64 r.x.finish, .slice r.A r.n r.c] := Blk.at_ rfl
  replace Bg := Bg.next U4
  replace Bc := Bc.next U4
  replace mr := mr.next U4
  replace m2 := m2.next U4
  replace mc := mc.next U4
  replace x1 := x1.next U4
  replace x3 := x3.next U4
  replace Rr := Rr.next U4
  replace Kq := bel_then Kq U4
  have pgA := Bg.cell
  have pcA := Bc.cell
  obtain ⟨rs, hrs, M4⟩ := mc.f4
  dsimp only at M4 hrs
  go_wp2_with (at_builtin
               go_loud (refine wpList_cat rfl _ _ _ rfl Tryz.underlying25 info_impl_Card rfl (by decide) rfl M4.outer.own rfl (m := 1) (BA.sees (s := 4) (Nat.zero_le _) rfl) rfl (by omega) (by omega) (by decide) (Nat.zero_le _) ?_)
               intro A6 c6 w6 o6 h6 b6 q6
               have hA4 : ∀ b, OwnB A4 b → Hue S col 4 b := M4.outer.top
               have Bg6 := Bg.only h6 (fun h => hg (hA4 g h).1)
               have Bg7 := Bg6.set_ 4 (.slice A6 (n4 + 1) c6)
               have fg6 := Bg6.frozen
               have pg6 := Bg6.cell
               have pg7 := Bg7.cell
               have hSlow : ∀ b, OwnB A4 b → zb + 2 ≤ b := fun b hb => (hS2 _ (hA4 b hb).1).2.1
               have Rr6 := Rr.only h6 (fun h => by have := hSlow _ h; omega)
               have rc6 := Rr6.cell
               have rf6 := Rr6.frozen
               have Rr7 := Rr6.only ((Only.refl (fun b => b = g) w6).setCell (p := ⟨g, 4, none⟩) rfl (.slice A6 (n4 + 1) c6)) (fun h => by omega)
               have rc7 := Rr7.cell
               have rf7 := Rr7.frozen)
  have hp : putsB d r.x = false := by unfold putsB; rw [HK.out]; rfl
  have hgw := Bg.lt
  have hcw := Bc.lt
  have hSw : ∀ b, S b → b < ((w4.alloc (.cells #[.int .i64 r.x.number, .int .i64 r.x.start, .int .i64 r.x.finish, .slice r.A r.n r.c] 31))).heap.size := fun b hb => Nat.lt_trans (hS b hb) Bc.lt
  have hst : Only (fun b => b = g) w6 (w6.setCell ⟨g, 4, none⟩ (.slice A6 (n4 + 1) c6)) := (Only.refl (fun b => b = g) w6).setCell (p := ⟨g, 4, none⟩) rfl _
  have hz7 : (w6.setCell ⟨g, 4, none⟩ (.slice A6 (n4 + 1) c6)).heap.size = w6.heap.size := by simp [World.setCell]
  have hz6 := h6.size
  have hz5 := Kq.size
  have T := MineCW.trouble (A2 := (some ⟨gq, off + 4, none⟩)) (n2 := k) (c2 := (e2 - 1)) mc hSw hrs M4.inners M4.apart mr m2 hA4 h6 (fun b hb => (q6 b hb).imp id fun h => ⟨h, (own_top o6 hb).2⟩) (by rw [List.flatMap_append]; exact o6)
  have KF := ((KW.trans (Only.below ((((ho.mono fun b hb => .inr hb).trans (Only.of_below U)).trans (Only.of_below Kq)).trans ((h6.mono fun b hb => .inl (hA4 b hb).1).trans (hst.mono fun b hb => .inr hb))) (fun b hb => hlow b hb) (by rw [HCB.out]; omega))))
  go_wp2_with fail
  have EE := ((((((Only.refl (fun b => b = zb + 1) (w6.setCell ⟨g, 4, none⟩ (.slice A6 (n4 + 1) c6))).setCell (p := ⟨zb + 1, 0, none⟩) rfl (.slice A0 n0 e0)).setCell (p := ⟨zb + 1, 1, none⟩) rfl (.slice A1 n1 e1)).setCell (p := ⟨zb + 1, 2, none⟩) rfl (.slice (some ⟨gq, off + 4, none⟩) k (e2 - 1))).setCell (p := ⟨zb + 1, 3, none⟩) rfl (.slice A3 n3 e3)).setCell (p := ⟨zb + 1, 4, none⟩) rfl (.slice A6 (n4 + 1) c6))
  have RF := (((((Rr7.set_ 0 (.slice A0 n0 e0)).set_ 1 (.slice A1 n1 e1)).set_ 2 (.slice (some ⟨gq, off + 4, none⟩) k (e2 - 1))).set_ 3 (.slice A3 n3 e3)).set_ 4 (.slice A6 (n4 + 1) c6))
  refine bodyPost_ret (results_cell_row rfl _ _ (zb + 1) _ _ (0, 0) _ rfl RF Tryz.underlying28 rfl (by kernel_rfl)) rfl ⟨⟨A0, n0, e0, A1, n1, e1, (some ⟨gq, off + 4, none⟩), k, (e2 - 1), A3, n3, e3, A6, n4 + 1, c6⟩, rfl, ?_, by show k ≤ e2 - 1; omega, ?_⟩
  ·have T2 := (T.only hst (fun b h1 (h2 : b = g) => by
    rcases h1 with h1 | h1
    ·exact hSg b h1 h2
    ·exact absurd (h2 ▸ h1.1) (Nat.not_le_of_lt hgw))).only EE (fun b h1 h2 => by
    rcases h1 with h1 | h1
    ·have := (hS2 _ h1).2.1; omega
    ·have := h1.1; omega)
   rw [HD.out, hp]
   refine T2.wide fun b h1 => ?_
   rw [HZB.out]
   have := EE.size
   rcases h1 with h1 | h1
   ·have := (hS2 _ h1).2.1; have := (hS2 _ h1).2.2; exact ⟨by omega, by omega⟩
   ·have := h1.1; have := h1.2; exact ⟨by omega, by omega⟩
  ·rw [HZB.out]
   exact KF.trans (EE.below (fun b hb => by omega) (Nat.le_trans (Nat.le_of_eq HZB.out.symm) KF.size))
 have HK := Lib.hid hkn
 clear hkn
 cases hdn : doneB d.done r.x.number
 ·have HDN := Lib.hid hdn
  clear hdn
  go_upto_if 27 with (first
  | (go_at_call 69
     refine (l1Has_any A1 n1 e1 d.known r.x.number _ x1 (by omega)).mono ?_
     rw [HK.out]
     rintro e w4 ⟨rfl, qq⟩
     have b := qq.below w3.heap.size
     replace Bg := Bg.next b
     replace Bc := Bc.next b
     replace mr := mr.next b
     replace m2 := m2.next b
     replace mc := mc.next b
     replace x1 := x1.next b
     replace x3 := x3.next b
     replace Rr := Rr.next b
     replace Kq := bel_then Kq b
     clear b qq pg pc
     have pg := Bg.cell
     have pc := Bc.cell)
  | (go_at_call 65
     refine (l25Done_any A3 n3 e3 d.done r.x.number _ x3 (by omega)).mono ?_
     rw [HDN.out]
     rintro e w5 ⟨rfl, rfl⟩))
  have hrc : r.n ≤ r.c := own_cap mr.own
  have hin : r.x ∈ d.queue := by rw [HQ.out]; exact List.mem_cons_self
  have hrn : r.n ≤ 1000000 := by
   have h1 := mr.sees.count (by decide) (fun _ => rfl)
   have h2 := (hsm.qc _ hin).1
   unfold Card.cnt at h2
   omega
  obtain ⟨tm, htm⟩ : ∃ tm, r.x.finish - r.x.start = tm := ⟨_, rfl⟩
  have hwm : IntKind.i64.wrap tm = tm := by
   have h1 := (hsm.qc _ hin).2
   exact IntWalk.i64_in _ (by omega)
  clear hin
  have b := (Quiet.one w4).below w4.heap.size
  replace Bg := Bg.next b
  replace Bc := Bc.next b
  replace mr := mr.next b
  replace m2 := m2.next b
  replace mc := mc.next b
  replace x1 := x1.next b
  replace x3 := x3.next b
  replace Rr := Rr.next b
  replace Kq := bel_then Kq b
  clear b
  have pg := Bg.cell
  have pc := Bc.cell
  go_wp2_with fail
  refine wp_region_held_drew (S := fun w' => w'.cell? ⟨g, 0, none⟩ = some (.slice A0 n0 e0) ∧ w'.cell? ⟨cb, 0, none⟩ = some (.int .i64 r.x.number) ∧ w'.cell? ⟨cb, 1, none⟩ = some (.int .i64 r.x.start) ∧ w'.cell? ⟨cb, 2, none⟩ = some (.int .i64 r.x.finish) ∧ w'.cell? ⟨cb, 3, none⟩ = some (.slice r.A r.n r.c)) (by kernel_rfl) (by (try dsimp only); first | exact ⟨pg 0, pc 0, pc 1, pc 2, pc 3⟩ | exact ⟨pgB 0, pcB 0, pcB 1, pcB 2, pcB 3⟩ | exact ⟨pg6 0, pc6 0, pc6 1, pc6 2, pc6 3⟩) (fun hH => ?_)
  refine wT (i := 0) (v := ?_) rfl (by kernel_rfl) (by kernel_rfl) (by kernel_rfl) (fun _ _ _ h => h) (Or.inl ⟨by rfl, ?_⟩) (by assumption) ?_
  rotate_left 1
  ·(intro w hSw; (try dsimp only at hSw); go_simp; try with_reducible rfl)
  simp only [Act.put, pX]
  refine wT (i := 2) (v := ?_) rfl (by kernel_rfl) (by kernel_rfl) (by kernel_rfl) (fun _ _ _ h => h) (Or.inl ⟨by rfl, ?_⟩) (by assumption) ?_
  rotate_left 1
  ·(intro w hSw; (try dsimp only at hSw); go_simp; try with_reducible rfl)
  simp only [Act.put, pX]
  refine wT (i := 3) (v := ?_) rfl (by kernel_rfl) (by kernel_rfl) (by kernel_rfl) (fun _ _ _ h => h) (Or.inl ⟨by rfl, ?_⟩) (by assumption) ?_
  rotate_left 1
  ·(intro w hSw; (try dsimp only at hSw); go_simp; try with_reducible rfl)
  simp only [Act.put, pX]
  refine wT (i := 4) (v := ?_) rfl (by kernel_rfl) (by kernel_rfl) (by kernel_rfl) (fun _ _ _ h => h) (Or.inl ⟨by rfl, ?_⟩) (by assumption) ?_
  rotate_left 1
  ·(intro w hSw; (try dsimp only at hSw); go_simp; try with_reducible rfl)
  simp only [Act.put, pX]
  refine wT (i := 5) (v := ?_) rfl (by kernel_rfl) (by kernel_rfl) (by kernel_rfl) (fun _ _ _ h => h) (Or.inl ⟨by rfl, ?_⟩) (by assumption) ?_
  rotate_left 1
  ·(intro w hSw; (try dsimp only at hSw); go_simp; try with_reducible rfl)
  simp only [Act.put, pX]
  refine wT (i := 6) (v := ?_) rfl (by kernel_rfl) (by kernel_rfl) (by kernel_rfl) (fun _ _ _ h => h) (Or.inl ⟨by rfl, ?_⟩) (by assumption) ?_
  rotate_left 1
  ·(intro w hSw; (try dsimp only at hSw); go_simp; try with_reducible rfl)
  simp only [Act.put, pX]
  refine wT (i := 9) (v := ?_) rfl (by kernel_rfl) (by kernel_rfl) (by kernel_rfl) (fun _ _ _ h => h) (Or.inl ⟨by rfl, ?_⟩) (by assumption) ?_
  rotate_left 1
  ·(intro w hSw; (try dsimp only at hSw); go_simp; try with_reducible rfl)
  simp only [Act.put, pX]
  refine wT (i := 10) (v := ?_) rfl (by kernel_rfl) (by kernel_rfl) (by kernel_rfl) (fun _ _ _ h => h) (Or.inl ⟨by rfl, ?_⟩) (by assumption) ?_
  rotate_left 1
  ·(intro w hSw; (try dsimp only at hSw); go_simp; try with_reducible rfl)
  simp only [Act.put, pX]
  refine wT (i := 11) (v := ?_) rfl (by kernel_rfl) (by kernel_rfl) (by kernel_rfl) (fun _ _ _ h => h) (Or.inl ⟨by rfl, ?_⟩) (by assumption) ?_
  rotate_left 1
  ·(intro w hSw; (try dsimp only at hSw); go_simp; try with_reducible rfl)
  simp only [Act.put, pX]
  refine wT (i := 12) (v := ?_) rfl (by kernel_rfl) (by kernel_rfl) (by kernel_rfl) (fun _ _ _ h => h) (Or.inl ⟨by rfl, ?_⟩) (by assumption) ?_
  rotate_left 1
  ·(intro w hSw; (try dsimp only at hSw); go_simp; try with_reducible rfl)
  simp only [Act.put, pX]
  refine wT (i := 13) (v := ?_) rfl (by kernel_rfl) (by kernel_rfl) (by kernel_rfl) (fun _ _ _ h => h) (Or.inl ⟨by rfl, ?_⟩) (by assumption) ?_
  rotate_left 1
  ·(intro w hSw; (try dsimp only at hSw); go_simp; try with_reducible rfl)
  simp only [Act.put, pX]
  refine wR (rs := [1, 7]) (by kernel_rfl) (by simp) ?_
  refine aC rfl (fun K hK => ?_) ?_
  ·go_simp
   refine hK.out _ _ (by (try dsimp only); first | exact ⟨pg 0, pc 0, pc 1, pc 2, pc 3⟩ | exact ⟨pgB 0, pcB 0, pcB 1, pcB 2, pcB 3⟩ | exact ⟨pg6 0, pc6 0, pc6 1, pc6 2, pc6 3⟩) (fun hH => ?_)
   clear hK K
   try simp only [Act.put, pX]
   refine wR (rs := [7]) (by kernel_rfl) (by simp) ?_
   refine aC rfl (fun K hK => ?_) aN
   go_simp
   refine (l12Missing_any r.A r.n r.c r.x A0 n0 e0 d.codes _ mr.sees (by omega) (mc.f0.sees) (by omega)).mono ?_
   rintro e w6 ⟨AM, cM, rfl, oM, b⟩
   clear oM pg pc
   replace Bg := Bg.next b
   replace Bc := Bc.next b
   replace mr := mr.next b
   replace m2 := m2.next b
   replace mc := mc.next b
   replace x1 := x1.next b
   replace x3 := x3.next b
   replace Rr := Rr.next b
   replace Kq := bel_then Kq b
   clear b
   have pg := Bg.cell
   have pc := Bc.cell
   have UB : Below w6.heap.size w6 (w6.alloc (.cells #[.int .i64 r.x.number, .int .i64 (((missL r.x d.codes).length : Nat) : Int), .int .i64 tm] 41)) := (Below.refl _ _).alloc (Nat.le_refl _) _
   have BR : Blk (w6.alloc (.cells #[.int .i64 r.x.number, .int .i64 (((missL r.x d.codes).length : Nat) : Int), .int .i64 tm] 41)) w6.heap.size 41 [.int .i64 r.x.number, .int .i64 (((missL r.x d.codes).length : Nat) : Int), .int .i64 tm] := Blk.at_ rfl
   have BgB := Bg.next UB
   have BcB := Bc.next UB
   have mcB := mc.next UB
   have mrB := mr.next UB
   have m2B := m2.next UB
   have RrB := Rr.next UB
   have KqB := bel_then Kq UB
   have pgB := BgB.cell
   have pcB := BcB.cell
   go_wp2_with fail
   refine hK.out _ _ (by (try dsimp only); first | exact ⟨pg 0, pc 0, pc 1, pc 2, pc 3⟩ | exact ⟨pgB 0, pcB 0, pcB 1, pcB 2, pcB 3⟩ | exact ⟨pg6 0, pc6 0, pc6 1, pc6 2, pc6 3⟩) (fun hH => ?_)
   clear hK K
   refine wT (i := 8) (v := ?_) rfl (by kernel_rfl) (by kernel_rfl) (by kernel_rfl) (fun _ _ _ h => h) (Or.inl ⟨by rfl, ?_⟩) (by assumption) ?_
   rotate_left 1
   ·(intro w hSw; (try dsimp only at hSw); go_simp; try with_reducible rfl)
   simp only [Act.put, pX]
   refine wT (i := 14) (v := ?_) rfl (by kernel_rfl) (by kernel_rfl) (by kernel_rfl) (fun _ _ _ h => h) (Or.inl ⟨by rfl, ?_⟩) (by assumption) ?_
   rotate_left 1
   ·(intro w hSw; (try dsimp only at hSw); go_simp; try with_reducible rfl)
   simp only [Act.put, pX]
   refine wR (rs := [15]) (by kernel_rfl) (by simp) ?_
   refine aC rfl (fun K hK => ?_) aN
   go_simp
   refine hK.out _ _ (by (try dsimp only); first | exact ⟨pg 0, pc 0, pc 1, pc 2, pc 3⟩ | exact ⟨pgB 0, pcB 0, pcB 1, pcB 2, pcB 3⟩ | exact ⟨pg6 0, pc6 0, pc6 1, pc6 2, pc6 3⟩) (fun hH => ?_)
   clear hK K
   try simp only [Act.put, pX]
   refine wR (rs := [16]) (by kernel_rfl) (by simp) ?_
   refine aC rfl (fun K hK => ?_) aN
   refine step_cat rfl _ _ _ (by rfl) Tryz.underlying26 info_impl_DeskRow rfl (by decide) (by rfl) mcB.f3.own (by rfl) (m := 1) (BR.sees (s := 3) (Nat.zero_le _) rfl) (by rfl) (show n3 ≤ 1000000000 by omega) (by omega) (by decide) (Nat.zero_le _) ?_
   intro A6 c6 w7 o6 h6 b6 q6
   have hA3 : ∀ b, OwnB A3 b → Hue S col 3 b := mcB.f3.top
   have Bg6 := BgB.only h6 (fun h => hg (hA3 g h).1)
   have pg6 := Bg6.cell
   have fg6 := Bg6.frozen
   have Bc6 := BcB.only h6 (fun h => Nat.lt_irrefl _ (hS cb (hA3 cb h).1))
   have pc6 := Bc6.cell
   have Bg7 := Bg6.set_ 3 (.slice A6 (n3 + 1) c6)
   have pc7 := (Bc6.far (p := ⟨g, 3, none⟩) (fun (e : cb = g) => by omega) (.slice A6 (n3 + 1) c6)).cell
   have pg7 := Bg7.cell
   have hSlow : ∀ b, OwnB A3 b → zb + 2 ≤ b := fun b hb => (hS2 _ (hA3 b hb).1).2.1
   have Rr6 := RrB.only h6 (fun h => by have := hSlow _ h; omega)
   have rc6 := Rr6.cell
   have rf6 := Rr6.frozen
   have Rr7 := Rr6.only ((Only.refl (fun b => b = g) w7).setCell (p := ⟨g, 3, none⟩) rfl (.slice A6 (n3 + 1) c6)) (fun h => by omega)
   have rc7 := Rr7.cell
   have rf7 := Rr7.frozen
   refine hK.out _ _ (by (try dsimp only); first | exact ⟨pg 0, pc 0, pc 1, pc 2, pc 3⟩ | exact ⟨pgB 0, pcB 0, pcB 1, pcB 2, pcB 3⟩ | exact ⟨pg6 0, pc6 0, pc6 1, pc6 2, pc6 3⟩) (fun hH => ?_)
   clear hK K
   try simp only [Act.put, pX]
   refine wT (i := 17) (v := ?_) rfl (by kernel_rfl) (by kernel_rfl) (by kernel_rfl) (fun _ _ _ h => h) (Or.inl ⟨by rfl, ?_⟩) (by assumption) ?_
   rotate_left 1
   ·(intro w hSw; (try dsimp only at hSw); go_simp; try with_reducible rfl)
   simp only [Act.put, pX]
   refine wR (rs := [18]) (by kernel_rfl) (by simp) ?_
   refine aC rfl (fun K hK => ?_) aN
   go_simp
   refine hK.out _ _ (by (try dsimp only); exact ⟨pg7 0, pc7 0, pc7 1, pc7 2, pc7 3⟩) (fun hH => ?_)
   clear hK K
   try simp only [Act.put, pX]
   refine wD (by kernel_rfl) ?_ _
   have hp : putsB d r.x = true := by unfold putsB; rw [HK.out, HDN.out]; rfl
   have hgw := BgB.lt
   have hcw := BcB.lt
   have hSw : ∀ b, S b → b < ((w6.alloc (.cells #[.int .i64 r.x.number, .int .i64 (((missL r.x d.codes).length : Nat) : Int), .int .i64 tm] 41))).heap.size := fun b hb => Nat.lt_trans (hS b hb) BcB.lt
   have hst : Only (fun b => b = g) w7 (w7.setCell ⟨g, 3, none⟩ (.slice A6 (n3 + 1) c6)) := (Only.refl (fun b => b = g) w7).setCell (p := ⟨g, 3, none⟩) rfl _
   have hz7 : (w7.setCell ⟨g, 3, none⟩ (.slice A6 (n3 + 1) c6)).heap.size = w7.heap.size := by simp [World.setCell]
   have hz6 := h6.size
   have hz5 := KqB.size
   have hro : (rowOf d r.x).enc = [.int .i64 r.x.number, .int .i64 (((missL r.x d.codes).length : Nat) : Int), .int .i64 tm] := by unfold rowOf; rw [htm]; rfl
   have T := MineCW.done (A2 := (some ⟨gq, off + 4, none⟩)) (n2 := k) (c2 := (e2 - 1)) (ds := d.done ++ [rowOf d r.x]) mcB hSw m2B (h6.mono hA3) ⟨by rw [List.flatMap_append, List.flatMap_singleton, hro]; exact o6, fun b hb => (q6 b hb).imp (hA3 b) fun h => ⟨h, (own_top o6 hb).2⟩⟩
   have KF := ((KW.trans (Only.below ((((ho.mono fun b hb => .inr hb).trans (Only.of_below U)).trans (Only.of_below KqB)).trans ((h6.mono fun b hb => .inl (hA3 b hb).1).trans (hst.mono fun b hb => .inr hb))) (fun b hb => hlow b hb) (by rw [HCB.out]; omega))))
   go_wp2_with fail
   have EE := ((((((Only.refl (fun b => b = zb + 1) (w7.setCell ⟨g, 3, none⟩ (.slice A6 (n3 + 1) c6))).setCell (p := ⟨zb + 1, 0, none⟩) rfl (.slice A0 n0 e0)).setCell (p := ⟨zb + 1, 1, none⟩) rfl (.slice A1 n1 e1)).setCell (p := ⟨zb + 1, 2, none⟩) rfl (.slice (some ⟨gq, off + 4, none⟩) k (e2 - 1))).setCell (p := ⟨zb + 1, 3, none⟩) rfl (.slice A6 (n3 + 1) c6)).setCell (p := ⟨zb + 1, 4, none⟩) rfl (.slice A4 n4 e4))
   have RF := (((((Rr7.set_ 0 (.slice A0 n0 e0)).set_ 1 (.slice A1 n1 e1)).set_ 2 (.slice (some ⟨gq, off + 4, none⟩) k (e2 - 1))).set_ 3 (.slice A6 (n3 + 1) c6)).set_ 4 (.slice A4 n4 e4))
   refine bodyPost_ret (results_cell_row rfl _ _ (zb + 1) _ _ (0, 0) _ rfl RF Tryz.underlying28 rfl (by kernel_rfl)) rfl ⟨⟨A0, n0, e0, A1, n1, e1, (some ⟨gq, off + 4, none⟩), k, (e2 - 1), A6, n3 + 1, c6, A4, n4, e4⟩, rfl, ?_, by show k ≤ e2 - 1; omega, ?_⟩
   ·have T2 := (T.only hst (fun b h1 (h2 : b = g) => by
     rcases h1 with h1 | h1
     ·exact hSg b h1 h2
     ·exact absurd (h2 ▸ h1.1) (Nat.not_le_of_lt hgw))).only EE (fun b h1 h2 => by
     rcases h1 with h1 | h1
     ·have := (hS2 _ h1).2.1; omega
     ·have := h1.1; omega)
    rw [HD.out, hp]
    refine T2.wide fun b h1 => ?_
    rw [HZB.out]
    have := EE.size
    rcases h1 with h1 | h1
    ·have := (hS2 _ h1).2.1; have := (hS2 _ h1).2.2; exact ⟨by omega, by omega⟩
    ·have := h1.1; have := h1.2; exact ⟨by omega, by omega⟩
   ·rw [HZB.out]
    exact KF.trans (EE.below (fun b hb => by omega) (Nat.le_trans (Nat.le_of_eq HZB.out.symm) KF.size))
  refine aC rfl (fun K hK => ?_) aN
  ·go_simp
   refine (l12Missing_any r.A r.n r.c r.x A0 n0 e0 d.codes _ mr.sees (by omega) (mc.f0.sees) (by omega)).mono ?_
   rintro e w6 ⟨AM, cM, rfl, oM, b⟩
   clear oM pg pc
   replace Bg := Bg.next b
   replace Bc := Bc.next b
   replace mr := mr.next b
   replace m2 := m2.next b
   replace mc := mc.next b
   replace x1 := x1.next b
   replace x3 := x3.next b
   replace Rr := Rr.next b
   replace Kq := bel_then Kq b
   clear b
   have pg := Bg.cell
   have pc := Bc.cell
   have UB : Below w6.heap.size w6 (w6.alloc (.cells #[.int .i64 r.x.number, .int .i64 (((missL r.x d.codes).length : Nat) : Int), .int .i64 tm] 41)) := (Below.refl _ _).alloc (Nat.le_refl _) _
   have BR : Blk (w6.alloc (.cells #[.int .i64 r.x.number, .int .i64 (((missL r.x d.codes).length : Nat) : Int), .int .i64 tm] 41)) w6.heap.size 41 [.int .i64 r.x.number, .int .i64 (((missL r.x d.codes).length : Nat) : Int), .int .i64 tm] := Blk.at_ rfl
   have BgB := Bg.next UB
   have BcB := Bc.next UB
   have mcB := mc.next UB
   have mrB := mr.next UB
   have m2B := m2.next UB
   have RrB := Rr.next UB
   have KqB := bel_then Kq UB
   have pgB := BgB.cell
   have pcB := BcB.cell
   go_wp2_with fail
   refine hK.out _ _ (by (try dsimp only); first | exact ⟨pg 0, pc 0, pc 1, pc 2, pc 3⟩ | exact ⟨pgB 0, pcB 0, pcB 1, pcB 2, pcB 3⟩ | exact ⟨pg6 0, pc6 0, pc6 1, pc6 2, pc6 3⟩) (fun hH => ?_)
   clear hK K
   refine wT (i := 8) (v := ?_) rfl (by kernel_rfl) (by kernel_rfl) (by kernel_rfl) (fun _ _ _ h => h) (Or.inl ⟨by rfl, ?_⟩) (by assumption) ?_
   rotate_left 1
   ·(intro w hSw; (try dsimp only at hSw); go_simp; try with_reducible rfl)
   simp only [Act.put, pX]
   refine wT (i := 14) (v := ?_) rfl (by kernel_rfl) (by kernel_rfl) (by kernel_rfl) (fun _ _ _ h => h) (Or.inl ⟨by rfl, ?_⟩) (by assumption) ?_
   rotate_left 1
   ·(intro w hSw; (try dsimp only at hSw); go_simp; try with_reducible rfl)
   simp only [Act.put, pX]
   refine wR (rs := [1, 15]) (by kernel_rfl) (by simp) ?_
   refine aC rfl (fun K hK => ?_) ?_
   ·go_simp
    refine hK.out _ _ (by (try dsimp only); first | exact ⟨pg 0, pc 0, pc 1, pc 2, pc 3⟩ | exact ⟨pgB 0, pcB 0, pcB 1, pcB 2, pcB 3⟩ | exact ⟨pg6 0, pc6 0, pc6 1, pc6 2, pc6 3⟩) (fun hH => ?_)
    clear hK K
    try simp only [Act.put, pX]
    refine wR (rs := [15]) (by kernel_rfl) (by simp) ?_
    refine aC rfl (fun K hK => ?_) aN
    go_simp
    refine hK.out _ _ (by (try dsimp only); first | exact ⟨pg 0, pc 0, pc 1, pc 2, pc 3⟩ | exact ⟨pgB 0, pcB 0, pcB 1, pcB 2, pcB 3⟩ | exact ⟨pg6 0, pc6 0, pc6 1, pc6 2, pc6 3⟩) (fun hH => ?_)
    clear hK K
    try simp only [Act.put, pX]
    refine wR (rs := [16]) (by kernel_rfl) (by simp) ?_
    refine aC rfl (fun K hK => ?_) aN
    refine step_cat rfl _ _ _ (by rfl) Tryz.underlying26 info_impl_DeskRow rfl (by decide) (by rfl) mcB.f3.own (by rfl) (m := 1) (BR.sees (s := 3) (Nat.zero_le _) rfl) (by rfl) (show n3 ≤ 1000000000 by omega) (by omega) (by decide) (Nat.zero_le _) ?_
    intro A6 c6 w7 o6 h6 b6 q6
    have hA3 : ∀ b, OwnB A3 b → Hue S col 3 b := mcB.f3.top
    have Bg6 := BgB.only h6 (fun h => hg (hA3 g h).1)
    have pg6 := Bg6.cell
    have fg6 := Bg6.frozen
    have Bc6 := BcB.only h6 (fun h => Nat.lt_irrefl _ (hS cb (hA3 cb h).1))
    have pc6 := Bc6.cell
    have Bg7 := Bg6.set_ 3 (.slice A6 (n3 + 1) c6)
    have pc7 := (Bc6.far (p := ⟨g, 3, none⟩) (fun (e : cb = g) => by omega) (.slice A6 (n3 + 1) c6)).cell
    have pg7 := Bg7.cell
    have hSlow : ∀ b, OwnB A3 b → zb + 2 ≤ b := fun b hb => (hS2 _ (hA3 b hb).1).2.1
    have Rr6 := RrB.only h6 (fun h => by have := hSlow _ h; omega)
    have rc6 := Rr6.cell
    have rf6 := Rr6.frozen
    have Rr7 := Rr6.only ((Only.refl (fun b => b = g) w7).setCell (p := ⟨g, 3, none⟩) rfl (.slice A6 (n3 + 1) c6)) (fun h => by omega)
    have rc7 := Rr7.cell
    have rf7 := Rr7.frozen
    refine hK.out _ _ (by (try dsimp only); first | exact ⟨pg 0, pc 0, pc 1, pc 2, pc 3⟩ | exact ⟨pgB 0, pcB 0, pcB 1, pcB 2, pcB 3⟩ | exact ⟨pg6 0, pc6 0, pc6 1, pc6 2, pc6 3⟩) (fun hH => ?_)
    clear hK K
    try simp only [Act.put, pX]
    refine wT (i := 17) (v := ?_) rfl (by kernel_rfl) (by kernel_rfl) (by kernel_rfl) (fun _ _ _ h => h) (Or.inl ⟨by rfl, ?_⟩) (by assumption) ?_
    rotate_left 1
    ·(intro w hSw; (try dsimp only at hSw); go_simp; try with_reducible rfl)
    simp only [Act.put, pX]
    refine wR (rs := [18]) (by kernel_rfl) (by simp) ?_
    refine aC rfl (fun K hK => ?_) aN
    go_simp
    refine hK.out _ _ (by (try dsimp only); exact ⟨pg7 0, pc7 0, pc7 1, pc7 2, pc7 3⟩) (fun hH => ?_)
    clear hK K
    try simp only [Act.put, pX]
    refine wD (by kernel_rfl) ?_ _
    have hp : putsB d r.x = true := by unfold putsB; rw [HK.out, HDN.out]; rfl
    have hgw := BgB.lt
    have hcw := BcB.lt
    have hSw : ∀ b, S b → b < ((w6.alloc (.cells #[.int .i64 r.x.number, .int .i64 (((missL r.x d.codes).length : Nat) : Int), .int .i64 tm] 41))).heap.size := fun b hb => Nat.lt_trans (hS b hb) BcB.lt
    have hst : Only (fun b => b = g) w7 (w7.setCell ⟨g, 3, none⟩ (.slice A6 (n3 + 1) c6)) := (Only.refl (fun b => b = g) w7).setCell (p := ⟨g, 3, none⟩) rfl _
    have hz7 : (w7.setCell ⟨g, 3, none⟩ (.slice A6 (n3 + 1) c6)).heap.size = w7.heap.size := by simp [World.setCell]
    have hz6 := h6.size
    have hz5 := KqB.size
    have hro : (rowOf d r.x).enc = [.int .i64 r.x.number, .int .i64 (((missL r.x d.codes).length : Nat) : Int), .int .i64 tm] := by unfold rowOf; rw [htm]; rfl
    have T := MineCW.done (A2 := (some ⟨gq, off + 4, none⟩)) (n2 := k) (c2 := (e2 - 1)) (ds := d.done ++ [rowOf d r.x]) mcB hSw m2B (h6.mono hA3) ⟨by rw [List.flatMap_append, List.flatMap_singleton, hro]; exact o6, fun b hb => (q6 b hb).imp (hA3 b) fun h => ⟨h, (own_top o6 hb).2⟩⟩
    have KF := ((KW.trans (Only.below ((((ho.mono fun b hb => .inr hb).trans (Only.of_below U)).trans (Only.of_below KqB)).trans ((h6.mono fun b hb => .inl (hA3 b hb).1).trans (hst.mono fun b hb => .inr hb))) (fun b hb => hlow b hb) (by rw [HCB.out]; omega))))
    go_wp2_with fail
    have EE := ((((((Only.refl (fun b => b = zb + 1) (w7.setCell ⟨g, 3, none⟩ (.slice A6 (n3 + 1) c6))).setCell (p := ⟨zb + 1, 0, none⟩) rfl (.slice A0 n0 e0)).setCell (p := ⟨zb + 1, 1, none⟩) rfl (.slice A1 n1 e1)).setCell (p := ⟨zb + 1, 2, none⟩) rfl (.slice (some ⟨gq, off + 4, none⟩) k (e2 - 1))).setCell (p := ⟨zb + 1, 3, none⟩) rfl (.slice A6 (n3 + 1) c6)).setCell (p := ⟨zb + 1, 4, none⟩) rfl (.slice A4 n4 e4))
    have RF := (((((Rr7.set_ 0 (.slice A0 n0 e0)).set_ 1 (.slice A1 n1 e1)).set_ 2 (.slice (some ⟨gq, off + 4, none⟩) k (e2 - 1))).set_ 3 (.slice A6 (n3 + 1) c6)).set_ 4 (.slice A4 n4 e4))
    refine bodyPost_ret (results_cell_row rfl _ _ (zb + 1) _ _ (0, 0) _ rfl RF Tryz.underlying28 rfl (by kernel_rfl)) rfl ⟨⟨A0, n0, e0, A1, n1, e1, (some ⟨gq, off + 4, none⟩), k, (e2 - 1), A6, n3 + 1, c6, A4, n4, e4⟩, rfl, ?_, by show k ≤ e2 - 1; omega, ?_⟩
    ·have T2 := (T.only hst (fun b h1 (h2 : b = g) => by
      rcases h1 with h1 | h1
      ·exact hSg b h1 h2
      ·exact absurd (h2 ▸ h1.1) (Nat.not_le_of_lt hgw))).only EE (fun b h1 h2 => by
      rcases h1 with h1 | h1
      ·have := (hS2 _ h1).2.1; omega
      ·have := h1.1; omega)
     rw [HD.out, hp]
     refine T2.wide fun b h1 => ?_
     rw [HZB.out]
     have := EE.size
     rcases h1 with h1 | h1
     ·have := (hS2 _ h1).2.1; have := (hS2 _ h1).2.2; exact ⟨by omega, by omega⟩
     ·have := h1.1; have := h1.2; exact ⟨by omega, by omega⟩
    ·rw [HZB.out]
     exact KF.trans (EE.below (fun b hb => by omega) (Nat.le_trans (Nat.le_of_eq HZB.out.symm) KF.size))
   refine aC rfl (fun K hK => ?_) aN
   ·go_simp
    refine hK.out _ _ (by (try dsimp only); first | exact ⟨pg 0, pc 0, pc 1, pc 2, pc 3⟩ | exact ⟨pgB 0, pcB 0, pcB 1, pcB 2, pcB 3⟩ | exact ⟨pg6 0, pc6 0, pc6 1, pc6 2, pc6 3⟩) (fun hH => ?_)
    clear hK K
    try simp only [Act.put, pX]
    refine wR (rs := [1]) (by kernel_rfl) (by simp) ?_
    refine aC rfl (fun K hK => ?_) aN
    go_simp
    refine hK.out _ _ (by (try dsimp only); first | exact ⟨pg 0, pc 0, pc 1, pc 2, pc 3⟩ | exact ⟨pgB 0, pcB 0, pcB 1, pcB 2, pcB 3⟩ | exact ⟨pg6 0, pc6 0, pc6 1, pc6 2, pc6 3⟩) (fun hH => ?_)
    clear hK K
    try simp only [Act.put, pX]
    refine wR (rs := [16]) (by kernel_rfl) (by simp) ?_
    refine aC rfl (fun K hK => ?_) aN
    refine step_cat rfl _ _ _ (by rfl) Tryz.underlying26 info_impl_DeskRow rfl (by decide) (by rfl) mcB.f3.own (by rfl) (m := 1) (BR.sees (s := 3) (Nat.zero_le _) rfl) (by rfl) (show n3 ≤ 1000000000 by omega) (by omega) (by decide) (Nat.zero_le _) ?_
    intro A6 c6 w7 o6 h6 b6 q6
    have hA3 : ∀ b, OwnB A3 b → Hue S col 3 b := mcB.f3.top
    have Bg6 := BgB.only h6 (fun h => hg (hA3 g h).1)
    have pg6 := Bg6.cell
    have fg6 := Bg6.frozen
    have Bc6 := BcB.only h6 (fun h => Nat.lt_irrefl _ (hS cb (hA3 cb h).1))
    have pc6 := Bc6.cell
    have Bg7 := Bg6.set_ 3 (.slice A6 (n3 + 1) c6)
    have pc7 := (Bc6.far (p := ⟨g, 3, none⟩) (fun (e : cb = g) => by omega) (.slice A6 (n3 + 1) c6)).cell
    have pg7 := Bg7.cell
    have hSlow : ∀ b, OwnB A3 b → zb + 2 ≤ b := fun b hb => (hS2 _ (hA3 b hb).1).2.1
    have Rr6 := RrB.only h6 (fun h => by have := hSlow _ h; omega)
    have rc6 := Rr6.cell
    have rf6 := Rr6.frozen
    have Rr7 := Rr6.only ((Only.refl (fun b => b = g) w7).setCell (p := ⟨g, 3, none⟩) rfl (.slice A6 (n3 + 1) c6)) (fun h => by omega)
    have rc7 := Rr7.cell
    have rf7 := Rr7.frozen
    refine hK.out _ _ (by (try dsimp only); first | exact ⟨pg 0, pc 0, pc 1, pc 2, pc 3⟩ | exact ⟨pgB 0, pcB 0, pcB 1, pcB 2, pcB 3⟩ | exact ⟨pg6 0, pc6 0, pc6 1, pc6 2, pc6 3⟩) (fun hH => ?_)
    clear hK K
    try simp only [Act.put, pX]
    refine wT (i := 17) (v := ?_) rfl (by kernel_rfl) (by kernel_rfl) (by kernel_rfl) (fun _ _ _ h => h) (Or.inl ⟨by rfl, ?_⟩) (by assumption) ?_
    rotate_left 1
    ·(intro w hSw; (try dsimp only at hSw); go_simp; try with_reducible rfl)
    simp only [Act.put, pX]
    refine wR (rs := [18]) (by kernel_rfl) (by simp) ?_
    refine aC rfl (fun K hK => ?_) aN
    go_simp
    refine hK.out _ _ (by (try dsimp only); exact ⟨pg7 0, pc7 0, pc7 1, pc7 2, pc7 3⟩) (fun hH => ?_)
    clear hK K
    try simp only [Act.put, pX]
    refine wD (by kernel_rfl) ?_ _
    have hp : putsB d r.x = true := by unfold putsB; rw [HK.out, HDN.out]; rfl
    have hgw := BgB.lt
    have hcw := BcB.lt
    have hSw : ∀ b, S b → b < ((w6.alloc (.cells #[.int .i64 r.x.number, .int .i64 (((missL r.x d.codes).length : Nat) : Int), .int .i64 tm] 41))).heap.size := fun b hb => Nat.lt_trans (hS b hb) BcB.lt
    have hst : Only (fun b => b = g) w7 (w7.setCell ⟨g, 3, none⟩ (.slice A6 (n3 + 1) c6)) := (Only.refl (fun b => b = g) w7).setCell (p := ⟨g, 3, none⟩) rfl _
    have hz7 : (w7.setCell ⟨g, 3, none⟩ (.slice A6 (n3 + 1) c6)).heap.size = w7.heap.size := by simp [World.setCell]
    have hz6 := h6.size
    have hz5 := KqB.size
    have hro : (rowOf d r.x).enc = [.int .i64 r.x.number, .int .i64 (((missL r.x d.codes).length : Nat) : Int), .int .i64 tm] := by unfold rowOf; rw [htm]; rfl
    have T := MineCW.done (A2 := (some ⟨gq, off + 4, none⟩)) (n2 := k) (c2 := (e2 - 1)) (ds := d.done ++ [rowOf d r.x]) mcB hSw m2B (h6.mono hA3) ⟨by rw [List.flatMap_append, List.flatMap_singleton, hro]; exact o6, fun b hb => (q6 b hb).imp (hA3 b) fun h => ⟨h, (own_top o6 hb).2⟩⟩
    have KF := ((KW.trans (Only.below ((((ho.mono fun b hb => .inr hb).trans (Only.of_below U)).trans (Only.of_below KqB)).trans ((h6.mono fun b hb => .inl (hA3 b hb).1).trans (hst.mono fun b hb => .inr hb))) (fun b hb => hlow b hb) (by rw [HCB.out]; omega))))
    go_wp2_with fail
    have EE := ((((((Only.refl (fun b => b = zb + 1) (w7.setCell ⟨g, 3, none⟩ (.slice A6 (n3 + 1) c6))).setCell (p := ⟨zb + 1, 0, none⟩) rfl (.slice A0 n0 e0)).setCell (p := ⟨zb + 1, 1, none⟩) rfl (.slice A1 n1 e1)).setCell (p := ⟨zb + 1, 2, none⟩) rfl (.slice (some ⟨gq, off + 4, none⟩) k (e2 - 1))).setCell (p := ⟨zb + 1, 3, none⟩) rfl (.slice A6 (n3 + 1) c6)).setCell (p := ⟨zb + 1, 4, none⟩) rfl (.slice A4 n4 e4))
    have RF := (((((Rr7.set_ 0 (.slice A0 n0 e0)).set_ 1 (.slice A1 n1 e1)).set_ 2 (.slice (some ⟨gq, off + 4, none⟩) k (e2 - 1))).set_ 3 (.slice A6 (n3 + 1) c6)).set_ 4 (.slice A4 n4 e4))
    refine bodyPost_ret (results_cell_row rfl _ _ (zb + 1) _ _ (0, 0) _ rfl RF Tryz.underlying28 rfl (by kernel_rfl)) rfl ⟨⟨A0, n0, e0, A1, n1, e1, (some ⟨gq, off + 4, none⟩), k, (e2 - 1), A6, n3 + 1, c6, A4, n4, e4⟩, rfl, ?_, by show k ≤ e2 - 1; omega, ?_⟩
    ·have T2 := (T.only hst (fun b h1 (h2 : b = g) => by
      rcases h1 with h1 | h1
      ·exact hSg b h1 h2
      ·exact absurd (h2 ▸ h1.1) (Nat.not_le_of_lt hgw))).only EE (fun b h1 h2 => by
      rcases h1 with h1 | h1
      ·have := (hS2 _ h1).2.1; omega
      ·have := h1.1; omega)
     rw [HD.out, hp]
     refine T2.wide fun b h1 => ?_
     rw [HZB.out]
     have := EE.size
     rcases h1 with h1 | h1
     ·have := (hS2 _ h1).2.1; have := (hS2 _ h1).2.2; exact ⟨by omega, by omega⟩
     ·have := h1.1; have := h1.2; exact ⟨by omega, by omega⟩
    ·rw [HZB.out]
     exact KF.trans (EE.below (fun b hb => by omega) (Nat.le_trans (Nat.le_of_eq HZB.out.symm) KF.size))
 have HDN := Lib.hid hdn
 clear hdn
 go_upto_if 27 with (first
  | (go_at_call 69
     refine (l1Has_any A1 n1 e1 d.known r.x.number _ x1 (by omega)).mono ?_
     rw [HK.out]
     rintro e w4 ⟨rfl, qq⟩
     have b := qq.below w3.heap.size
     replace Bg := Bg.next b
     replace Bc := Bc.next b
     replace mr := mr.next b
     replace m2 := m2.next b
     replace mc := mc.next b
     replace x1 := x1.next b
     replace x3 := x3.next b
     replace Rr := Rr.next b
     replace Kq := bel_then Kq b
     clear b qq pg pc
     have pg := Bg.cell
     have pc := Bc.cell)
  | (go_at_call 65
     refine (l25Done_any A3 n3 e3 d.done r.x.number _ x3 (by omega)).mono ?_
     rw [HDN.out]
     rintro e w5 ⟨rfl, rfl⟩))
 have U4 : Below w4.heap.size w4 (w4.alloc (.cells #[.int .i64 r.x.number, .int .i64 r.x.start, .int .i64 r.x.finish, .slice r.A r.n r.c] 31)) := (Below.refl _ _).alloc (Nat.le_refl _) _
 have BA : Blk (w4.alloc (.cells #[.int .i64 r.x.number, .int .i64 r.x.start, .int .i64 r.x.finish, .slice r.A r.n r.c] 31)) w4.heap.size 31 [.int .i64 r.x.number, .int .i64 r.x.start, .int .i64 r.x.finish, .slice r.A r.n r.c] := Blk.at_ rfl
 replace Bg := Bg.next U4
 replace Bc := Bc.next U4
 replace mr := mr.next U4
 replace m2 := m2.next U4
 replace mc := mc.next U4
 replace x1 := x1.next U4
 replace x3 := x3.next U4
 replace Rr := Rr.next U4
 replace Kq := bel_then Kq U4
 have pgA := Bg.cell
 have pcA := Bc.cell
 obtain ⟨rs, hrs, M4⟩ := mc.f4
 dsimp only at M4 hrs
 go_wp2_with (at_builtin
              go_loud (refine wpList_cat rfl _ _ _ rfl Tryz.underlying25 info_impl_Card rfl (by decide) rfl M4.outer.own rfl (m := 1) (BA.sees (s := 4) (Nat.zero_le _) rfl) rfl (by omega) (by omega) (by decide) (Nat.zero_le _) ?_)
              intro A6 c6 w6 o6 h6 b6 q6
              have hA4 : ∀ b, OwnB A4 b → Hue S col 4 b := M4.outer.top
              have Bg6 := Bg.only h6 (fun h => hg (hA4 g h).1)
              have Bg7 := Bg6.set_ 4 (.slice A6 (n4 + 1) c6)
              have fg6 := Bg6.frozen
              have pg6 := Bg6.cell
              have pg7 := Bg7.cell
              have hSlow : ∀ b, OwnB A4 b → zb + 2 ≤ b := fun b hb => (hS2 _ (hA4 b hb).1).2.1
              have Rr6 := Rr.only h6 (fun h => by have := hSlow _ h; omega)
              have rc6 := Rr6.cell
              have rf6 := Rr6.frozen
              have Rr7 := Rr6.only ((Only.refl (fun b => b = g) w6).setCell (p := ⟨g, 4, none⟩) rfl (.slice A6 (n4 + 1) c6)) (fun h => by omega)
              have rc7 := Rr7.cell
              have rf7 := Rr7.frozen)
 have hp : putsB d r.x = false := by unfold putsB; rw [HK.out, HDN.out]; rfl
 have hgw := Bg.lt
 have hcw := Bc.lt
 have hSw : ∀ b, S b → b < ((w4.alloc (.cells #[.int .i64 r.x.number, .int .i64 r.x.start, .int .i64 r.x.finish, .slice r.A r.n r.c] 31))).heap.size := fun b hb => Nat.lt_trans (hS b hb) Bc.lt
 have hst : Only (fun b => b = g) w6 (w6.setCell ⟨g, 4, none⟩ (.slice A6 (n4 + 1) c6)) := (Only.refl (fun b => b = g) w6).setCell (p := ⟨g, 4, none⟩) rfl _
 have hz7 : (w6.setCell ⟨g, 4, none⟩ (.slice A6 (n4 + 1) c6)).heap.size = w6.heap.size := by simp [World.setCell]
 have hz6 := h6.size
 have hz5 := Kq.size
 have T := MineCW.trouble (A2 := (some ⟨gq, off + 4, none⟩)) (n2 := k) (c2 := (e2 - 1)) mc hSw hrs M4.inners M4.apart mr m2 hA4 h6 (fun b hb => (q6 b hb).imp id fun h => ⟨h, (own_top o6 hb).2⟩) (by rw [List.flatMap_append]; exact o6)
 have KF := ((KW.trans (Only.below ((((ho.mono fun b hb => .inr hb).trans (Only.of_below U)).trans (Only.of_below Kq)).trans ((h6.mono fun b hb => .inl (hA4 b hb).1).trans (hst.mono fun b hb => .inr hb))) (fun b hb => hlow b hb) (by rw [HCB.out]; omega))))
 go_wp2_with fail
 have EE := ((((((Only.refl (fun b => b = zb + 1) (w6.setCell ⟨g, 4, none⟩ (.slice A6 (n4 + 1) c6))).setCell (p := ⟨zb + 1, 0, none⟩) rfl (.slice A0 n0 e0)).setCell (p := ⟨zb + 1, 1, none⟩) rfl (.slice A1 n1 e1)).setCell (p := ⟨zb + 1, 2, none⟩) rfl (.slice (some ⟨gq, off + 4, none⟩) k (e2 - 1))).setCell (p := ⟨zb + 1, 3, none⟩) rfl (.slice A3 n3 e3)).setCell (p := ⟨zb + 1, 4, none⟩) rfl (.slice A6 (n4 + 1) c6))
 have RF := (((((Rr7.set_ 0 (.slice A0 n0 e0)).set_ 1 (.slice A1 n1 e1)).set_ 2 (.slice (some ⟨gq, off + 4, none⟩) k (e2 - 1))).set_ 3 (.slice A3 n3 e3)).set_ 4 (.slice A6 (n4 + 1) c6))
 refine bodyPost_ret (results_cell_row rfl _ _ (zb + 1) _ _ (0, 0) _ rfl RF Tryz.underlying28 rfl (by kernel_rfl)) rfl ⟨⟨A0, n0, e0, A1, n1, e1, (some ⟨gq, off + 4, none⟩), k, (e2 - 1), A3, n3, e3, A6, n4 + 1, c6⟩, rfl, ?_, by show k ≤ e2 - 1; omega, ?_⟩
 ·have T2 := (T.only hst (fun b h1 (h2 : b = g) => by
   rcases h1 with h1 | h1
   ·exact hSg b h1 h2
   ·exact absurd (h2 ▸ h1.1) (Nat.not_le_of_lt hgw))).only EE (fun b h1 h2 => by
   rcases h1 with h1 | h1
   ·have := (hS2 _ h1).2.1; omega
   ·have := h1.1; omega)
  rw [HD.out, hp]
  refine T2.wide fun b h1 => ?_
  rw [HZB.out]
  have := EE.size
  rcases h1 with h1 | h1
  ·have := (hS2 _ h1).2.1; have := (hS2 _ h1).2.2; exact ⟨by omega, by omega⟩
  ·have := h1.1; have := h1.2; exact ⟨by omega, by omega⟩
 ·rw [HZB.out]
  exact KF.trans (EE.below (fun b hb => by omega) (Nat.le_trans (Nat.le_of_eq HZB.out.symm) KF.size))

end Go.Proofs.YtkimlajfhepfgaaGreat
