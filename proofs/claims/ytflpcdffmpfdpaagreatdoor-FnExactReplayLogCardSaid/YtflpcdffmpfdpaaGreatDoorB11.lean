/- Joined texts of this proof: MissC, FoundD, RunC, LogT, ShelfKZD. -/
import Derived.Shelf.Strings.Builder1
import Derived.Shelf.Strings.Builder2
import Derived.Shelf.Strings.OnBuilder
import Derived.Shelf.Small.Wraps
import Derived.Shelf.Strings.BuilderF
import Derived.Shelf.Strings.BuilderK
import Derived.Shelf.Utf8.RuneCount
import Derived.Shelf.Strings.Builder2Cap
import Derived.Shelf.Strconv.Atoi
import Derived.Shelf.Strconv.Itoa0
import Derived.Shelf.Strconv.Itoa1
import Derived.Shelf.LaysM
import Derived.Shelf.Strconv.Itoa2
import Derived.Shelf.Strconv.Itoa3
import Derived.Shelf.Strconv.AtoiErrFast
import Derived.Shelf.Strconv.ParseIntEmpty
import Derived.Shelf.Strconv.AtoiFail
import Derived.Shelf.Strconv.Clone
import Derived.Shelf.Strconv.SyntaxError
import Derived.Shelf.LaysC
import Derived.Shelf.Strconv.ToError
import Derived.Shelf.Strconv.AtoiErr
import Derived.Shelf.Strconv.ErrVar
import Derived.Shelf.Strconv.Lower
import Derived.Shelf.Strconv.ParseUint10
import Derived.Shelf.Strconv.ParseUint10Empty
import Derived.Shelf.Strconv.ParseUint10Any
import Derived.Shelf.Strconv.ParseInt10
import Derived.Shelf.Strconv.AtoiLong
import Derived.Shelf.Strconv.AtoiInnerAll
import Derived.Shelf.Strconv.RangeError
import Derived.Shelf.Strconv.ToErrorRange
import Derived.Shelf.Strconv.AtoiAll
import Derived.Shelf.Strconv.ErrVarAll
import Derived.Shelf.Strconv.ParseUintEmpty
import Derived.Shelf.Strconv.ParseUint10b64
import Derived.Shelf.Strconv.ParseUint10b32
import Derived.Shelf.Strconv.ParseUint10b16
import Derived.Shelf.Strconv.ParseUint10b8
import Derived.Shelf.Strconv.ParseUint10At
import Derived.Shelf.Strings.Search1
import Derived.Shelf.Strings.Search2
import Derived.Shelf.Strings.Search3
import Derived.Shelf.Strings.Cut
import Derived.Shelf.Strings.Count
import Derived.Shelf.Strings.Shaped
import Derived.Shelf.Strings.Split
import Derived.Shelf.Strings.SplitShaped
import Derived.Shelf.Unicode.Decode
import Derived.Shelf.Strings.RuneCount
import Derived.Shelf.Strings.Explode
import Derived.Shelf.Unicode.DecodeSlow
import Derived.Shelf.Unicode.DecodeAny
import Derived.Shelf.Strings.BuilderCap
import Derived.Ground.Names2Prog
import Derived.Shelf.Slices.SearchI
import Derived.Test.YtflpcdffmpfdpaaGreatDoorChecked
import Derived.Test.YtflpcdffmpfdpaaGreatDoorB10
import Derived.Test.YtflpcdffmpfdpaaGreatDoorB06
import Derived.Test.YtflpcdffmpfdpaaGreatDoorB02
import Derived.Test.YtflpcdffmpfdpaaGreatDoorB01
set_option maxRecDepth 100000
set_option maxHeartbeats 8000000
namespace Go.Proofs.YtflpcdffmpfdpaaGreatDoor
open Go.RowKit
theorem joq (ps : List Punch) (cs : List Int) : ∀ k, k ≤ cs.length → (fTo ps cs k).1.length = k
 | 0, _ => by simp [fTo]
 | k + 1, hk => by
  have ih := joq ps cs k (by omega)
  rw [jdl ps cs (by omega)]
  unfold jne
  split <;> simp [ih]
theorem jjw (ps : List Punch) (cs : List Int) : (jdb ps cs).length = cs.length := joq ps cs _ (Nat.le_refl _)
def jev (fs cs : List Int) (k : Nat) : List Int := ((List.range k).filter fun i => decide (fs.getD i 0 < 0)).map fun i => cs.getD i 0
def jgh (x : Card) (cs : List Int) : List Int := jev (jdb x.punches cs) cs cs.length
theorem jir (fs cs : List Int) {k : Nat} (hf : k < fs.length) (hc : k < cs.length) : jev fs cs (k + 1) = if fs[k] < 0 then jev fs cs k ++ [cs[k]] else jev fs cs k := by
 unfold jev
 rw [List.range_succ, List.filter_append, List.map_append]
 by_cases h : fs[k] < 0 <;> simp [List.getD, hf, hc, h]
theorem jnv (fs cs : List Int) (k : Nat) : (jev fs cs k).length ≤ k := by
 unfold jev
 rw [List.length_map]
 exact Nat.le_trans (List.length_filter_le _ _) (by simp)
theorem jlj (x : Card) (cs : List Int) : (jgh x cs).length ≤ cs.length := jnv _ _ _
theorem jhe (A : Option Addr) (n c : Nat) (x : Card) (B : Option Addr) (m e : Nat) (cs : List Int) (w : World) (hx : Sees w 0 2 A n (x.punches.flatMap Punch.enc)) (hn : n ≤ 1048576) (hnc : n ≤ c) (hy : Sees w 0 1 B m (jb4 cs)) (hm : m ≤ 1048576) :
  Calls Tryz.prog 219 #[.agg #[x.number, x.start, x.finish, .slice A n c], .slice B m e] w (jjy w (jgh x cs)) := by
 have HM := Lib.hid hy.icount
 have HF := Lib.hid (jjw x.punches cs)
 have hfm1 : (jdb x.punches cs).length ≤ m := by rw [HF.out, HM.out]; exact Nat.le_refl _
 have hfm2 : m ≤ (jdb x.punches cs).length := by rw [HF.out, HM.out]; exact Nat.le_refl _
 have K0 := nB2 w (.cells #[x.number, x.start, x.finish, .slice A n c] 106) (.cells #[] 3)
 have P0 := nPa w [x.number, x.start, x.finish, .slice A n c] 106 (.cells #[] 3)
 have o0 := ja5 (w := (w.alloc (.cells #[x.number, x.start, x.finish, .slice A n c] 106))) (g := w.heap.size + 1) 3 1 (by simp)
 have z0 := nZ2 w (.cells #[x.number, x.start, x.finish, .slice A n c] 106) (.cells #[] 3)
 go_enter Tryz.func219, Tryz.ntmps219
 go_wp2_with fail
 generalize (w.alloc _).alloc _ = w0 at *
 refine (jm5 A n c x B m e cs _ (hx.below K0 (Nat.le_refl _)) hn hnc (hy.below K0 (Nat.le_refl _)) hm).mono ?_
 have HD := Lib.hid (show jgh x cs = jev (jdb x.punches cs) cs cs.length from rfl)
 generalize jdb x.punches cs = fs at *
 rintro e1 w1 ⟨F, cf, rfl, of_, b1⟩
 have K1 := jaa K0 b1
 have o1 := jad o0 b1
 have hF : ∀ b, jaj F b → w.heap.size + 2 ≤ b := fun b hb => by have := (jai of_ hb).1; omega
 have hz1 := b1.size
 clear P0 o0 K0
 go_wp2_with fail
 go_loopw [5, 13] (fun v i wr => ∃ (k : Nat) (out : List Int) (A' : Option Addr) (c' : Nat), k ≤ fs.length ∧ i = .int .i64 (k : Int) ∧ v = .slice A' out.length c' ∧ wr.ownsRow (w.heap.size + 1) 3 1 (.slice A' out.length c') out.length (jb4 out) ∧ out.length ≤ k ∧ Hid (jev fs cs k = out) ∧ wr.ownsRow w0.heap.size 3 1 (.slice F fs.length cf) fs.length (jb4 fs) ∧ (∀ b, jaj F b → jaj A' b → False) ∧ w0.heap.size ≤ wr.heap.size ∧ Below w.heap.size w wr) (fun _ i _ => fs.length - (intOf i).toNat)
 case atStart => exact ⟨0, [], _, 0, Nat.zero_le _, rfl, rfl, o1, Nat.le_refl _, Lib.hid rfl, of_, (fun b h1 h2 => by have h3 := hF b h1; have h4 : w.heap.size + 1 = b := (by simpa [jaj, Value.ownBlock] using h2); omega), hz1, K1⟩
 case round =>
  obtain ⟨k, out, A', c', hk, rfl, rfl, own, hlo, HO, ofr, hap, hzr, hb⟩ := hrel
  by_cases hlt : k < fs.length
  ·have hkc : k < cs.length := by rw [HM.out]; omega
   obtain ⟨bk, offk, rfl, hkx, x0⟩ := ((Sees.of_own ofr)).int hlt
   obtain ⟨by_, offy, rfl, hky, y0⟩ := (hy.next hb).int (show k < m by omega)
   have hN := jir fs cs hlt hkc
   rw [HO.out] at hN
   have hblt := World.block_lt_of_cell? wr _ x0
   have hblty := World.block_lt_of_cell? wr _ y0
   have hkm : (k : Int) < (m : Int) := by omega
   have hkf : (k : Int) < (fs.length : Int) := by omega
   by_cases h0 : fs[k] < 0
   ·have HN := Lib.hid (hN.trans (if_pos h0))
    clear hN
    go_wp2_with (at_builtin; go_loud (refine jac rfl _ _ _ rfl Tryz.underlying90 ja8 rfl (by decide) rfl own rfl (by simp) (by rfl) (by rfl) (by omega) (by decide) (by omega) ?_); intro A9 c9 w9 o9 h9 b9 q9)
    go_roundw
    case rel => exact ⟨k + 1, out ++ [cs[k]], A9, c9, by omega, by go_num, by simp, by simpa [jb4] using o9, by simp; omega, HN, jbc ofr h9 (fun b h1 h2 => hap b h1 h2), (fun b h1 h2 => (q9 b h2).elim (hap b h1) (fun h5 => by have := (jai ofr h1).2; omega)), by have := h9.size; omega, hb.trans (b9.mono (by omega))⟩
    case measure => simp [intOf]; omega
   ·have HN := Lib.hid (hN.trans (if_neg h0))
    clear hN
    go_wp2_with fail
    go_roundw
    case rel => exact ⟨k + 1, out, A', c', by omega, by go_num, rfl, own, by omega, HN, ofr, hap, hzr, hb⟩
    case measure => simp [intOf]; omega
  ·have HE := Lib.hid (show jgh x cs = out by rw [HD.out, ← HO.out, show cs.length = k by rw [HM.out]; omega])
   go_wp2_with fail
   go_ret
   rw [HE.out]
   exact ⟨A', c', rfl, jax own (by omega), hb⟩
def InF (ps : List Punch) (c : Int) (nx : Nat) (f a kv : Value) : Prop :=
 ∃ kk : Nat, nx ≤ kk ∧ kk ≤ ps.length ∧ kv = .int .i64 (kk : Int) ∧ ((a = .int .i64 (-1) ∧ f = .int .i64 (nx : Int) ∧ ((ps.drop nx).take (kk - nx)).any (jj6 c) = false) ∨
  ∃ j : Nat, a = .int .i64 ((nx + j : Nat) : Int) ∧ f = .int .i64 ((nx + j + 1 : Nat) : Int) ∧ ∃ hj : j < (ps.drop nx).length, jj6 c (ps.drop nx)[j] = true ∧ ((ps.drop nx).take j).any (jj6 c) = false)
theorem jo7 {ps : List Punch} {c : Int} {nx : Nat} (h : nx ≤ ps.length) : InF ps c nx (.int .i64 (nx : Int)) (.int .i64 (-1)) (.int .i64 (nx : Int)) :=
 ⟨nx, Nat.le_refl _, h, rfl, .inl ⟨rfl, rfl, by simp⟩⟩
theorem inF_no {ps : List Punch} {c : Int} {nx kk : Nat} (h1 : nx ≤ kk) (hk : kk < ps.length) (hb : ((ps.drop nx).take (kk - nx)).any (jj6 c) = false) (hn : jj6 c ps[kk] = false) : InF ps c nx (.int .i64 (nx : Int)) (.int .i64 (-1)) (.int .i64 ((kk + 1 : Nat) : Int)) :=
 ⟨kk + 1, by omega, hk, rfl, .inl ⟨rfl, rfl, by
   have h2 : kk - nx < (ps.drop nx).length := by rw [List.length_drop]; omega
   have h3 : (ps.drop nx)[kk - nx] = ps[kk] := by rw [List.getElem_drop]; congr 1; omega
   rw [show kk + 1 - nx = kk - nx + 1 by omega]
   exact jen h2 hb (by rw [h3]; exact hn)⟩⟩
theorem jqq {ps : List Punch} {c : Int} {nx kk : Nat} (h1 : nx ≤ kk) (hk : kk < ps.length) (hb : ((ps.drop nx).take (kk - nx)).any (jj6 c) = false) (hn : jj6 c ps[kk] = true) : InF ps c nx (.int .i64 ((kk + 1 : Nat) : Int)) (.int .i64 (kk : Int)) (.int .i64 ((kk + 1 : Nat) : Int)) := by
 have h2 : kk - nx < (ps.drop nx).length := by rw [List.length_drop]; omega
 have h3 : (ps.drop nx)[kk - nx] = ps[kk] := by rw [List.getElem_drop]; congr 1; omega
 exact ⟨kk + 1, by omega, hk, rfl, .inr ⟨kk - nx, by congr 1; omega, by congr 1; omega, h2, by rw [h3]; exact hn, hb⟩⟩
theorem jlp (A : Option Addr) (n c : Nat) (x : Card) (B : Option Addr) (m e : Nat) (cs : List Int) (w : World) (hx : Sees w 0 2 A n (x.punches.flatMap Punch.enc)) (hn : n ≤ 1048576) (hy : Sees w 0 1 B m (jb4 cs)) (hm : m ≤ 1048576) :
  Calls Tryz.prog 228 #[.agg #[x.number, x.start, x.finish, .slice A n c], .slice B m e] w (jjy w (jdb x.punches cs)) := by
 have HL := Lib.hid (hx.count (by decide) (fun _ => rfl))
 have HM := Lib.hid hy.icount
 have K0 := nB2 w (.cells #[x.number, x.start, x.finish, .slice A n c] 106) (.cells #[] 3)
 have P0 := nPa w [x.number, x.start, x.finish, .slice A n c] 106 (.cells #[] 3)
 have o0 := ja5 (w := (w.alloc (.cells #[x.number, x.start, x.finish, .slice A n c] 106))) (g := w.heap.size + 1) 3 1 (by simp)
 go_enter Tryz.func228, Tryz.ntmps228
 go_wp2_with fail
 go_loopw [5, 6, 7] (fun v q i wr => ∃ (k : Nat) (out : List Int) (nx : Nat) (A' : Option Addr) (c' : Nat), k ≤ m ∧ i = .int .i64 (k : Int) ∧ q = .int .i64 (nx : Int) ∧ v = .slice A' k c' ∧ wr.ownsRow (w.heap.size + 1) 3 1 (.slice A' k c') k (jb4 out) ∧ nx ≤ n ∧ Hid (fTo x.punches cs k = (out, nx)) ∧ Blk wr w.heap.size 106 [.int .i64 x.number, .int .i64 x.start, .int .i64 x.finish, .slice A n c] ∧ Below w.heap.size w wr) (fun _ _ i _ => m - (intOf i).toNat)
 case atStart => exact ⟨0, [], 0, _, 0, Nat.zero_le _, rfl, rfl, rfl, o0, Nat.zero_le _, Lib.hid rfl, P0, K0⟩
 case round =>
  obtain ⟨k, out, nx, A', c', hk, rfl, rfl, rfl, own, hnx, HO, PB, hb⟩ := hrel
  clear o0 P0 K0
  have pc := PB.cell
  by_cases hlt : k < m
  ·obtain ⟨bk, offk, rfl, hkx, x0⟩ := (hy.next hb).int hlt
   have hblt := World.block_lt_of_cell? wr _ x0
   have hkm : (k : Int) < (m : Int) := by omega
   have HS := Lib.hid (jo7 (ps := x.punches) (c := cs[k]) (nx := nx) (by rw [HL.out]; exact hnx))
   go_wp2_with fail
   obtain ⟨wo, hwo⟩ : ∃ wo : World, wo = wr := ⟨_, rfl⟩
   subst hwo
   go_loopw [6, 8, 9] (fun f a kv wx => InF x.punches cs[k] nx f a kv ∧ Quiet wo wx) (fun _ _ kv _ => n + 1 - (intOf kv).toNat)
   case atStart => exact ⟨HS.out, Quiet.refl _⟩
   case round =>
    obtain ⟨⟨kk, h1, h2, rfl, hw⟩, qx⟩ := hrel
    have hkn : kk ≤ n := by rw [← HL.out]; exact h2
    replace own := jad own (qx.below _)
    replace PB := PB.quiet qx
    replace hb := ja3 hb qx
    have x0' := ((jp1 (qx.below wo.heap.size)).1 _ (offk + k) hblt).trans x0
    have hblt' : bk < wr.heap.size := World.block_lt_of_cell? wr _ x0'
    clear pc x0 hblt HS
    have pc := PB.cell
    have QX := Lib.hid qx
    clear qx
    rcases hw with ⟨rfl, rfl, hno⟩ | ⟨j, rfl, rfl, hj, hpj, hbj⟩
    ·by_cases hk2 : kk < n
     ·obtain ⟨bp, offp, rfl, hkp, y0, y1⟩ := (hx.next hb).elem2 (fun _ => rfl) hk2
      have hbp := World.block_lt_of_cell? wr _ y0
      have hkki : (kk : Int) < (n : Int) := by omega
      by_cases he : x.punches[kk].code = cs[k]
      ·have HY := Lib.hid (jqq h1 hkp hno (by simp [jj6, he]))
       have e1 : (x.punches[kk].code == cs[k]) = true := by simp [he]
       clear he hno
       go_wp2_with fail
       go_quiet (fail)
       go_wp2_with fail
       go_roundw
       case rel => exact ⟨HY.out, QX.out.more _⟩
       case measure => simp [intOf]; omega
      ·have HY := Lib.hid (inF_no h1 hkp hno (by simp [jj6, he]))
       have e1 : (x.punches[kk].code == cs[k]) = false := by simp [he]
       clear he hno
       go_wp2_with fail
       go_quiet (fail)
       go_wp2_with fail
       go_roundw
       case rel => exact ⟨HY.out, QX.out.more _⟩
       case measure => simp [intOf]; omega
     ·have HN := Lib.hid (show fTo x.punches cs (k + 1) = (out ++ [-1], nx) by
       rw [jdl _ _ hkx, HO.out]
       refine je7 ?_
       rwa [List.take_of_length_le (by rw [List.length_drop, HL.out]; omega)] at hno)
      clear hno
      go_wp2_with (at_builtin; go_loud (refine jac rfl _ _ _ rfl Tryz.underlying90 ja8 rfl (by decide) rfl own rfl (by simp) (by rfl) (by rfl) (by omega) (by decide) PB.lt ?_); intro A9 c9 w9 o9 h9 b9 q9)
      go_roundw
      case rel => exact ⟨k + 1, out ++ [-1], nx, A9, c9, by omega, by go_num, rfl, rfl, by simpa [jb4] using o9, hnx, HN, PB.only h9 (jcj own (by omega)), hb.trans (b9.mono (by omega))⟩
      case measure => simp [intOf]; omega
    ·have HN := Lib.hid (show fTo x.punches cs (k + 1) = (out ++ [((nx + j : Nat) : Int)], nx + j + 1) by rw [jdl _ _ hkx, HO.out, jl9 hj hpj hbj])
     have hjn : nx + j + 1 ≤ n := by have h := hj; rw [List.length_drop, HL.out] at h; omega
     clear hj hpj hbj
     have hge : ¬ (((nx + j : Nat) : Int) < 0) := by omega
     by_cases hk2 : kk < n
     ·have hkki : (kk : Int) < (n : Int) := by omega
      go_wp2_with (at_builtin; go_loud (refine jac rfl _ _ _ rfl Tryz.underlying90 ja8 rfl (by decide) rfl own rfl (by simp) (by rfl) (by rfl) (by omega) (by decide) PB.lt ?_); intro A9 c9 w9 o9 h9 b9 q9)
      go_roundw
      case rel => exact ⟨k + 1, out ++ [((nx + j : Nat) : Int)], nx + j + 1, A9, c9, by omega, by go_num, rfl, rfl, by simpa [jb4] using o9, hjn, HN, PB.only h9 (jcj own (by omega)), hb.trans (b9.mono (by omega))⟩
      case measure => simp [intOf]; omega
     ·have hkki : ¬ ((kk : Int) < (n : Int)) := by omega
      go_wp2_with (at_builtin; go_loud (refine jac rfl _ _ _ rfl Tryz.underlying90 ja8 rfl (by decide) rfl own rfl (by simp) (by rfl) (by rfl) (by omega) (by decide) PB.lt ?_); intro A9 c9 w9 o9 h9 b9 q9)
      go_roundw
      case rel => exact ⟨k + 1, out ++ [((nx + j : Nat) : Int)], nx + j + 1, A9, c9, by omega, by go_num, rfl, rfl, by simpa [jb4] using o9, hjn, HN, PB.only h9 (jcj own (by omega)), hb.trans (b9.mono (by omega))⟩
      case measure => simp [intOf]; omega
  ·obtain rfl : k = m := by omega
   have HE := Lib.hid (show jdb x.punches cs = out by unfold jdb; rw [show cs.length = k from HM.out, HO.out])
   go_wp2_with fail
   go_ret
   rw [HE.out]
   have h9 := jpd own
   subst h9
   exact ⟨A', c', rfl, jax own (by omega), hb⟩
theorem jjc (A : Option Addr) (n c : Nat) (x : Card) (B : Option Addr) (m e : Nat) (cs : List Int) (w : World) (hx : Sees w 0 2 A n (x.punches.flatMap Punch.enc)) (hn : n ≤ 1048576) (hy : Sees w 0 1 B m (jb4 cs)) (hm : m ≤ 1048576) :
  Calls Tryz.prog 201 #[.agg #[x.number, x.start, x.finish, .slice A n c], .slice B m e] w (jjy w (jgh x cs)) := by
 have HM := Lib.hid hy.icount
 have HF := Lib.hid (jjw x.punches cs)
 have hfm1 : (jdb x.punches cs).length ≤ m := by rw [HF.out, HM.out]; exact Nat.le_refl _
 have hfm2 : m ≤ (jdb x.punches cs).length := by rw [HF.out, HM.out]; exact Nat.le_refl _
 have K0 := nB2 w (.cells #[x.number, x.start, x.finish, .slice A n c] 106) (.cells #[] 3)
 have P0 := nPa w [x.number, x.start, x.finish, .slice A n c] 106 (.cells #[] 3)
 have o0 := ja5 (w := (w.alloc (.cells #[x.number, x.start, x.finish, .slice A n c] 106))) (g := w.heap.size + 1) 3 1 (by simp)
 have z0 := nZ2 w (.cells #[x.number, x.start, x.finish, .slice A n c] 106) (.cells #[] 3)
 go_enter Tryz.func201, Tryz.ntmps201
 go_wp2_with fail
 generalize (w.alloc _).alloc _ = w0 at *
 refine (jlp A n c x B m e cs _ (hx.below K0 (Nat.le_refl _)) hn (hy.below K0 (Nat.le_refl _)) hm).mono ?_
 have HD := Lib.hid (show jgh x cs = jev (jdb x.punches cs) cs cs.length from rfl)
 generalize jdb x.punches cs = fs at *
 rintro e1 w1 ⟨F, cf, rfl, of_, b1⟩
 have K1 := jaa K0 b1
 have o1 := jad o0 b1
 have hF : ∀ b, jaj F b → w.heap.size + 2 ≤ b := fun b hb => by have := (jai of_ hb).1; omega
 have hz1 := b1.size
 clear P0 o0 K0
 go_wp2_with fail
 go_loopw [5, 7] (fun v i wr => ∃ (k : Nat) (out : List Int) (A' : Option Addr) (c' : Nat), k ≤ fs.length ∧ i = .int .i64 (k : Int) ∧ v = .slice A' out.length c' ∧ wr.ownsRow (w.heap.size + 1) 3 1 (.slice A' out.length c') out.length (jb4 out) ∧ out.length ≤ k ∧ Hid (jev fs cs k = out) ∧ wr.ownsRow w0.heap.size 3 1 (.slice F fs.length cf) fs.length (jb4 fs) ∧ (∀ b, jaj F b → jaj A' b → False) ∧ w0.heap.size ≤ wr.heap.size ∧ Below w.heap.size w wr) (fun _ i _ => fs.length - (intOf i).toNat)
 case atStart => exact ⟨0, [], _, 0, Nat.zero_le _, rfl, rfl, o1, Nat.le_refl _, Lib.hid rfl, of_, (fun b h1 h2 => by have h3 := hF b h1; have h4 : w.heap.size + 1 = b := (by simpa [jaj, Value.ownBlock] using h2); omega), hz1, K1⟩
 case round =>
  obtain ⟨k, out, A', c', hk, rfl, rfl, own, hlo, HO, ofr, hap, hzr, hb⟩ := hrel
  by_cases hlt : k < fs.length
  ·have hkc : k < cs.length := by rw [HM.out]; omega
   obtain ⟨bk, offk, rfl, hkx, x0⟩ := ((Sees.of_own ofr)).int hlt
   obtain ⟨by_, offy, rfl, hky, y0⟩ := (hy.next hb).int (show k < m by omega)
   have hN := jir fs cs hlt hkc
   rw [HO.out] at hN
   have hblt := World.block_lt_of_cell? wr _ x0
   have hblty := World.block_lt_of_cell? wr _ y0
   have hkm : (k : Int) < (m : Int) := by omega
   have hkf : (k : Int) < (fs.length : Int) := by omega
   by_cases h0 : fs[k] < 0
   ·have HN := Lib.hid (hN.trans (if_pos h0))
    clear hN
    go_wp2_with (at_builtin; go_loud (refine jac rfl _ _ _ rfl Tryz.underlying90 ja8 rfl (by decide) rfl own rfl (by simp) (by rfl) (by rfl) (by omega) (by decide) (by omega) ?_); intro A9 c9 w9 o9 h9 b9 q9)
    go_roundw
    case rel => exact ⟨k + 1, out ++ [cs[k]], A9, c9, by omega, by go_num, by simp, by simpa [jb4] using o9, by simp; omega, HN, jbc ofr h9 (fun b h1 h2 => hap b h1 h2), (fun b h1 h2 => (q9 b h2).elim (hap b h1) (fun h5 => by have := (jai ofr h1).2; omega)), by have := h9.size; omega, hb.trans (b9.mono (by omega))⟩
    case measure => simp [intOf]; omega
   ·have HN := Lib.hid (hN.trans (if_neg h0))
    clear hN
    go_wp2_with fail
    go_roundw
    case rel => exact ⟨k + 1, out, A', c', by omega, by go_num, rfl, own, by omega, HN, ofr, hap, hzr, hb⟩
    case measure => simp [intOf]; omega
  ·have HE := Lib.hid (show jgh x cs = out by rw [HD.out, ← HO.out, show cs.length = k by rw [HM.out]; omega])
   go_wp2_with fail
   go_ret
   rw [HE.out]
   exact ⟨A', c', rfl, jax own (by omega), hb⟩
def jd3 (x : RunE) : Bool := inB x.runner 1 99 && (if x.started then jap x.card else !x.out && jbp x.card)
def jb0 (x : RunE) (cs : List Int) (limit : Int) : Int :=
 if x.started = false then 5 else if x.out = true then 4 else if x.finish = -1 then 2 else if 0 < (jgh x.card cs).length then 1 else if limit < x.finish - x.start then 3 else 0
theorem jga (A : Option Addr) (n c : Nat) (x : RunE) (w : World) (hx : Sees w 0 2 A n (x.punches.flatMap Punch.enc)) (hn : n ≤ 1048576) :
  Calls Tryz.prog 237 #[.agg #[x.runner, x.started, x.out, x.number, x.start, x.finish, .slice A n c]] w fun e w' => e = .returned (.bool (jd3 x)) ∧ Below w.heap.size w w' := by
 obtain ⟨rn, st, ou, nu, sa, fi, ps⟩ := x
 dsimp only at *
 have K := nB w (.cells #[rn, st, ou, nu, sa, fi, .slice A n c] 160)
 have P := nP w [rn, st, ou, nu, sa, fi, .slice A n c] 160
 obtain ⟨ib, hib⟩ : ∃ ib, inB rn 1 99 = ib := ⟨_, rfl⟩
 have HIB := Lib.hid hib
 have HR0 := Lib.hid (show jd3 ⟨rn, st, ou, nu, sa, fi, ps⟩ = (ib && (if st then jap ⟨nu, sa, fi, ps⟩ else !ou && jbp ⟨nu, sa, fi, ps⟩)) by unfold jd3 RunE.card; dsimp only; rw [hib])
 clear hib
 go_enter Tryz.func237, Tryz.ntmps237
 go_upto_region 1 with fail
 generalize w.alloc _ = w1 at *
 have pc := P.cell
 have X := hx.below K (Nat.le_refl _)
 cases ib
 ·have HR := Lib.hid (show jd3 ⟨rn, st, ou, nu, sa, fi, ps⟩ = false from HR0.out)
  go_wp2_with (go_at_call 70; refine (jaf _ _ _ _).mono ?_; rw [HIB.out]; rintro e w' ⟨rfl, rfl⟩)
  go_ret
  rw [HR.out]
  exact ⟨rfl, K⟩
 cases st
 ·cases ou
  ·have HR := Lib.hid (show jd3 ⟨rn, false, false, nu, sa, fi, ps⟩ = jbp ⟨nu, sa, fi, ps⟩ from HR0.out)
   go_wp2_with (go_at_call 70; refine (jaf _ _ _ _).mono ?_; rw [HIB.out]; rintro e w' ⟨rfl, rfl⟩)
   refine (jdz A n c 0 ⟨nu, sa, fi, ps⟩ w1 X).mono ?_
   rintro e w2 ⟨rfl, b⟩
   go_wp2_with fail
   go_ret
   rw [HR.out]
   exact ⟨rfl, jaa K b⟩
  ·have HR := Lib.hid (show jd3 ⟨rn, false, true, nu, sa, fi, ps⟩ = false from HR0.out)
   go_wp2_with (go_at_call 70; refine (jaf _ _ _ _).mono ?_; rw [HIB.out]; rintro e w' ⟨rfl, rfl⟩)
   go_ret
   rw [HR.out]
   exact ⟨rfl, K⟩
 ·have HR := Lib.hid (show jd3 ⟨rn, true, ou, nu, sa, fi, ps⟩ = jap ⟨nu, sa, fi, ps⟩ from HR0.out)
  go_wp2_with (go_at_call 70; refine (jaf _ _ _ _).mono ?_; rw [HIB.out]; rintro e w' ⟨rfl, rfl⟩)
  refine (jd6 A n c 0 ⟨nu, sa, fi, ps⟩ w1 X hn).mono ?_
  rintro e w2 ⟨rfl, b⟩
  go_wp2_with fail
  go_ret
  rw [HR.out]
  exact ⟨rfl, jaa K b⟩
theorem je9 (A : Option Addr) (n c : Nat) (x : RunE) (w : World) (hx : Sees w 0 2 A n (x.punches.flatMap Punch.enc)) (hn : n ≤ 1048576) :
  Calls Tryz.prog 200 #[.agg #[x.runner, x.started, x.out, x.number, x.start, x.finish, .slice A n c]] w fun e w' => e = .returned (.bool (jd3 x)) ∧ Below w.heap.size w w' := by
 obtain ⟨rn, st, ou, nu, sa, fi, ps⟩ := x
 dsimp only at *
 have hl := hx.count (by decide) (fun _ => rfl)
 have K := nB w (.cells #[rn, st, ou, nu, sa, fi, .slice A n c] 160)
 have P := nP w [rn, st, ou, nu, sa, fi, .slice A n c] 160
 obtain ⟨ib, hib⟩ : ∃ ib, inB rn 1 99 = ib := ⟨_, rfl⟩
 have HIB := Lib.hid hib
 have HR0 := Lib.hid (show jd3 ⟨rn, st, ou, nu, sa, fi, ps⟩ = (ib && (if st then jap ⟨nu, sa, fi, ps⟩ else !ou && jbp ⟨nu, sa, fi, ps⟩)) by unfold jd3 RunE.card; dsimp only; rw [hib])
 clear hib
 go_enter Tryz.func200, Tryz.ntmps200
 go_upto_region 1 with fail
 generalize w.alloc _ = w1 at *
 have pc := P.cell
 have X := hx.below K (Nat.le_refl _)
 cases ib
 ·have HR := Lib.hid (show jd3 ⟨rn, st, ou, nu, sa, fi, ps⟩ = false from HR0.out)
  clear hl
  go_wp2_with (go_at_call 111; refine (jae _ _ _ _).mono ?_; rw [HIB.out]; rintro e w' ⟨rfl, rfl⟩)
  go_ret
  rw [HR.out]
  exact ⟨rfl, K⟩
 cases st
 ·cases ou
  ·have HR := Lib.hid (show jd3 ⟨rn, false, false, nu, sa, fi, ps⟩ = jbp ⟨nu, sa, fi, ps⟩ from HR0.out)
   obtain ⟨zb, hzb⟩ : ∃ zb, jbp ⟨nu, sa, fi, ps⟩ = zb := ⟨_, rfl⟩
   have HZ0 := Lib.hid (show jbp ⟨nu, sa, fi, ps⟩ = (decide (nu = 0) && (decide (sa = 0) && (decide (fi = 0) && decide (ps.length = 0)))) from rfl)
   by_cases h0 : nu = 0
   rotate_left 1
   ·have f0 : (nu == 0) = false := beq_eq_false_iff_ne.2 h0
    have HZ := Lib.hid (show jd3 ⟨rn, false, false, nu, sa, fi, ps⟩ = false by rw [HR.out, HZ0.out, decide_eq_false h0]; rfl)
    clear h0 hl hzb
    go_wp2_with (go_at_call 111; refine (jae _ _ _ _).mono ?_; rw [HIB.out]; rintro e w' ⟨rfl, rfl⟩)
    go_ret
    rw [HZ.out]
    exact ⟨rfl, K⟩
   have f0 : (nu == 0) = true := beq_iff_eq.2 h0
   have H0 := Lib.hid (decide_eq_true h0)
   clear h0
   by_cases h1 : sa = 0
   rotate_left 1
   ·have f1 : (sa == 0) = false := beq_eq_false_iff_ne.2 h1
    have HZ := Lib.hid (show jd3 ⟨rn, false, false, nu, sa, fi, ps⟩ = false by rw [HR.out, HZ0.out, H0.out, decide_eq_false h1]; rfl)
    clear h1 hl hzb
    go_wp2_with (go_at_call 111; refine (jae _ _ _ _).mono ?_; rw [HIB.out]; rintro e w' ⟨rfl, rfl⟩)
    go_ret
    rw [HZ.out]
    exact ⟨rfl, K⟩
   have f1 : (sa == 0) = true := beq_iff_eq.2 h1
   have H1 := Lib.hid (decide_eq_true h1)
   clear h1
   by_cases h2 : fi = 0
   rotate_left 1
   ·have f2 : (fi == 0) = false := beq_eq_false_iff_ne.2 h2
    have HZ := Lib.hid (show jd3 ⟨rn, false, false, nu, sa, fi, ps⟩ = false by rw [HR.out, HZ0.out, H0.out, H1.out, decide_eq_false h2]; rfl)
    clear h2 hl hzb
    go_wp2_with (go_at_call 111; refine (jae _ _ _ _).mono ?_; rw [HIB.out]; rintro e w' ⟨rfl, rfl⟩)
    go_ret
    rw [HZ.out]
    exact ⟨rfl, K⟩
   have f2 : (fi == 0) = true := beq_iff_eq.2 h2
   have H2 := Lib.hid (decide_eq_true h2)
   clear h2
   by_cases h3 : n = 0
   ·have f3 : ((n : Int) == 0) = true := beq_iff_eq.2 (by omega)
    have HZ := Lib.hid (show jd3 ⟨rn, false, false, nu, sa, fi, ps⟩ = true by rw [HR.out, HZ0.out, H0.out, H1.out, H2.out, decide_eq_true (show ps.length = 0 by omega)]; rfl)
    clear h3 hl hzb
    go_wp2_with (go_at_call 111; refine (jae _ _ _ _).mono ?_; rw [HIB.out]; rintro e w' ⟨rfl, rfl⟩)
    go_ret
    rw [HZ.out]
    exact ⟨rfl, K⟩
   ·have f3 : ((n : Int) == 0) = false := beq_eq_false_iff_ne.2 (by omega)
    have HZ := Lib.hid (show jd3 ⟨rn, false, false, nu, sa, fi, ps⟩ = false by rw [HR.out, HZ0.out, H0.out, H1.out, H2.out, decide_eq_false (show ¬ ps.length = 0 by omega)]; rfl)
    clear h3 hl hzb
    go_wp2_with (go_at_call 111; refine (jae _ _ _ _).mono ?_; rw [HIB.out]; rintro e w' ⟨rfl, rfl⟩)
    go_ret
    rw [HZ.out]
    exact ⟨rfl, K⟩
  ·have HR := Lib.hid (show jd3 ⟨rn, false, true, nu, sa, fi, ps⟩ = false from HR0.out)
   clear hl
   go_wp2_with (go_at_call 111; refine (jae _ _ _ _).mono ?_; rw [HIB.out]; rintro e w' ⟨rfl, rfl⟩)
   go_ret
   rw [HR.out]
   exact ⟨rfl, K⟩
 ·have HR := Lib.hid (show jd3 ⟨rn, true, ou, nu, sa, fi, ps⟩ = jap ⟨nu, sa, fi, ps⟩ from HR0.out)
  clear hl
  go_wp2_with (go_at_call 111; refine (jae _ _ _ _).mono ?_; rw [HIB.out]; rintro e w' ⟨rfl, rfl⟩)
  refine (jc2 A n c 0 ⟨nu, sa, fi, ps⟩ w1 X hn).mono ?_
  rintro e w2 ⟨rfl, b⟩
  go_wp2_with fail
  go_ret
  rw [HR.out]
  exact ⟨rfl, jaa K b⟩
structure LogRecord where
 command : ByteArray
 reply : ByteArray
deriving DecidableEq
def LogRecord.enc (x : LogRecord) : List Value := [.string x.command, .string x.reply]
def LogRecord.upto (m : Nat) (x : LogRecord) : Prop := x.command.size ≤ m ∧ x.reply.size ≤ m
theorem jdt : (Tryz.prog.info? 69).map (fun i => (i.zero, i.size, i.bytes)) = some (some (.agg #[.string ⟨#[]⟩, .string ⟨#[]⟩]), 2, 32) := by kernel_rfl
def LogRecord.mark (k : Int) : LogRecord := ⟨jp7 (k), jp7 (k + 1)⟩
end Go.Proofs.YtflpcdffmpfdpaaGreatDoor
namespace Go.Proofs.YtflpcdffmpfdpaaGreatDoor
open Go.Shelf
def jih : Go.Shelf.Ren := ⟨fun | 243 => 116 | 246 => 156 | 283 => 194 | 284 => 195 | 285 => 196 | 286 => 197 | 129 => 224 | 317 => 223 | 318 => 225 | 319 => 226 | 320 => 227 | 337 => 244 | 338 => 245 | n => n, fun | 3 => 3 | 9 => 9 | 2 => 2 | 4 => 4 | 171 => 214 | 0 => 0 | 53 => 86 | 37 => 47 | 5 => 5 | 173 => 217 | 212 => 237 | 51 => 238 | 20 => 20 | 213 => 239 | 46 => 179 | 232 => 268 | 233 => 269 | n => n, fun | 17 => 1 | 18 => 6 | 19 => 7 | n => n⟩
theorem jmk : Go.Proofs.LaysM.n243 Tryz.prog jih := {
 mixed := by kernel_rfl
 f129 := Tryz.func224.trans (congrArg some (by kernel_rfl))
 f243 := Tryz.func116.trans (congrArg some (by kernel_rfl))
 f246 := Tryz.func156.trans (congrArg some (by kernel_rfl))
 f283 := Tryz.func194.trans (congrArg some (by kernel_rfl))
 f284 := Tryz.func195.trans (congrArg some (by kernel_rfl))
 f285 := Tryz.func196.trans (congrArg some (by kernel_rfl))
 f286 := Tryz.func197.trans (congrArg some (by kernel_rfl))
 f317 := Tryz.func223.trans (congrArg some (by kernel_rfl))
 f318 := Tryz.func225.trans (congrArg some (by kernel_rfl))
 f319 := Tryz.func226.trans (congrArg some (by kernel_rfl))
 f320 := Tryz.func227.trans (congrArg some (by kernel_rfl))
 f337 := Tryz.func244.trans (congrArg some (by kernel_rfl))
 f338 := Tryz.func245.trans (congrArg some (by kernel_rfl))
 t0 := Tryz.underlying0
 a0 := Tryz.isAgg0
 z0 := Tryz.sizeOf0
 v0 := Tryz.zeroValue0
 t2 := Tryz.underlying2
 a2 := Tryz.isAgg2
 z2 := Tryz.sizeOf2
 v2 := Tryz.zeroValue2
 t3 := Tryz.underlying3
 a3 := Tryz.isAgg3
 z3 := Tryz.sizeOf3
 v3 := Tryz.zeroValue3
 t4 := Tryz.underlying4
 a4 := Tryz.isAgg4
 z4 := Tryz.sizeOf4
 v4 := Tryz.zeroValue4
 t5 := Tryz.underlying5
 a5 := Tryz.isAgg5
 z5 := Tryz.sizeOf5
 v5 := Tryz.zeroValue5
 t9 := Tryz.underlying9
 a9 := Tryz.isAgg9
 z9 := Tryz.sizeOf9
 v9 := Tryz.zeroValue9
 t20 := Tryz.underlying20
 a20 := Tryz.isAgg20
 z20 := Tryz.sizeOf20
 v20 := Tryz.zeroValue20
 t37 := Tryz.underlying47
 a37 := Tryz.isAgg47
 z37 := Tryz.sizeOf47
 v37 := Tryz.zeroValue47
 t46 := Tryz.underlying179
 a46 := Tryz.isAgg179
 z46 := Tryz.sizeOf179
 v46 := Tryz.zeroValue179
 t51 := Tryz.underlying238
 a51 := Tryz.isAgg238
 z51 := Tryz.sizeOf238
 v51 := Tryz.zeroValue238
 t53 := Tryz.underlying86
 a53 := Tryz.isAgg86
 z53 := Tryz.sizeOf86
 v53 := Tryz.zeroValue86
 t171 := Tryz.underlying214
 a171 := Tryz.isAgg214
 z171 := Tryz.sizeOf214
 v171 := Tryz.zeroValue214
 t173 := Tryz.underlying217
 a173 := Tryz.isAgg217
 z173 := Tryz.sizeOf217
 v173 := Tryz.zeroValue217
 t212 := Tryz.underlying237
 a212 := Tryz.isAgg237
 z212 := Tryz.sizeOf237
 v212 := Tryz.zeroValue237
 t213 := Tryz.underlying239
 a213 := Tryz.isAgg239
 z213 := Tryz.sizeOf239
 t232 := Tryz.underlying268
 a232 := Tryz.isAgg268
 z232 := Tryz.sizeOf268
 v232 := Tryz.zeroValue268
 t233 := Tryz.underlying269
 a233 := Tryz.isAgg269
 z233 := Tryz.sizeOf269
 v233 := Tryz.zeroValue269
 g17 := by kernel_rfl
 g18 := by kernel_rfl
 g19 := by kernel_rfl
 i0 := by kernel_rfl
 i2 := by kernel_rfl
 i3 := by kernel_rfl
 i4 := by kernel_rfl
 i5 := by kernel_rfl
 i9 := by kernel_rfl
 i20 := by kernel_rfl
 i37 := by kernel_rfl
 i46 := by kernel_rfl
 i51 := by kernel_rfl
 i53 := by kernel_rfl
 i171 := by kernel_rfl
 i173 := by kernel_rfl
 i212 := by kernel_rfl
 i232 := by kernel_rfl
 i233 := by kernel_rfl
 m17 := by kernel_rfl
 m18 := by kernel_rfl
 m19 := by kernel_rfl }
open Go.RowKit Go.Sort Go.Lib in
theorem jjs (n : Int) (h0 : -9223372036854775808 ≤ n) (h1 : n ≤ 9223372036854775807) (w : World) (htab : Lib.TabIs Tryz.prog w "internal/strconv.uint64pow10" .u64 Lib.pow10Tab) :
  Calls Tryz.prog 116 #[.int .i64 n] w fun e w' => e = .returned (.string ⟨(Lib.itoa n).toArray⟩) ∧ ∃ k os, w' = grow (w.drewN k) os := Any.internal_strconv_Itoa jmk n h0 h1 w htab
def jh5 : Go.Shelf.Ren := ⟨fun | 171 => 74 | 243 => 116 | 246 => 156 | 283 => 194 | 284 => 195 | 285 => 196 | 286 => 197 | 129 => 224 | 317 => 223 | 318 => 225 | 319 => 226 | 320 => 227 | 337 => 244 | 338 => 245 | n => n, fun | 3 => 3 | 9 => 9 | 2 => 2 | 4 => 4 | 171 => 214 | 0 => 0 | 53 => 86 | 37 => 47 | 5 => 5 | 173 => 217 | 212 => 237 | 51 => 238 | 20 => 20 | 213 => 239 | 46 => 179 | 232 => 268 | 233 => 269 | n => n, fun | 17 => 1 | 18 => 6 | 19 => 7 | n => n⟩
theorem jmo : Go.Proofs.LaysM.n171 Tryz.prog jh5 := {
 mixed := by kernel_rfl
 f129 := Tryz.func224.trans (congrArg some (by kernel_rfl))
 f171 := Tryz.func74.trans (congrArg some (by kernel_rfl))
 f243 := Tryz.func116.trans (congrArg some (by kernel_rfl))
 f246 := Tryz.func156.trans (congrArg some (by kernel_rfl))
 f283 := Tryz.func194.trans (congrArg some (by kernel_rfl))
 f284 := Tryz.func195.trans (congrArg some (by kernel_rfl))
 f285 := Tryz.func196.trans (congrArg some (by kernel_rfl))
 f286 := Tryz.func197.trans (congrArg some (by kernel_rfl))
 f317 := Tryz.func223.trans (congrArg some (by kernel_rfl))
 f318 := Tryz.func225.trans (congrArg some (by kernel_rfl))
 f319 := Tryz.func226.trans (congrArg some (by kernel_rfl))
 f320 := Tryz.func227.trans (congrArg some (by kernel_rfl))
 f337 := Tryz.func244.trans (congrArg some (by kernel_rfl))
 f338 := Tryz.func245.trans (congrArg some (by kernel_rfl))
 t0 := Tryz.underlying0
 a0 := Tryz.isAgg0
 z0 := Tryz.sizeOf0
 v0 := Tryz.zeroValue0
 t2 := Tryz.underlying2
 a2 := Tryz.isAgg2
 z2 := Tryz.sizeOf2
 v2 := Tryz.zeroValue2
 t3 := Tryz.underlying3
 a3 := Tryz.isAgg3
 z3 := Tryz.sizeOf3
 v3 := Tryz.zeroValue3
 t4 := Tryz.underlying4
 a4 := Tryz.isAgg4
 z4 := Tryz.sizeOf4
 v4 := Tryz.zeroValue4
 t5 := Tryz.underlying5
 a5 := Tryz.isAgg5
 z5 := Tryz.sizeOf5
 v5 := Tryz.zeroValue5
 t9 := Tryz.underlying9
 a9 := Tryz.isAgg9
 z9 := Tryz.sizeOf9
 v9 := Tryz.zeroValue9
 t20 := Tryz.underlying20
 a20 := Tryz.isAgg20
 z20 := Tryz.sizeOf20
 v20 := Tryz.zeroValue20
 t37 := Tryz.underlying47
 a37 := Tryz.isAgg47
 z37 := Tryz.sizeOf47
 v37 := Tryz.zeroValue47
 t46 := Tryz.underlying179
 a46 := Tryz.isAgg179
 z46 := Tryz.sizeOf179
 v46 := Tryz.zeroValue179
 t51 := Tryz.underlying238
 a51 := Tryz.isAgg238
 z51 := Tryz.sizeOf238
 v51 := Tryz.zeroValue238
 t53 := Tryz.underlying86
 a53 := Tryz.isAgg86
 z53 := Tryz.sizeOf86
 v53 := Tryz.zeroValue86
 t171 := Tryz.underlying214
 a171 := Tryz.isAgg214
 z171 := Tryz.sizeOf214
 v171 := Tryz.zeroValue214
 t173 := Tryz.underlying217
 a173 := Tryz.isAgg217
 z173 := Tryz.sizeOf217
 v173 := Tryz.zeroValue217
 t212 := Tryz.underlying237
 a212 := Tryz.isAgg237
 z212 := Tryz.sizeOf237
 v212 := Tryz.zeroValue237
 t213 := Tryz.underlying239
 a213 := Tryz.isAgg239
 z213 := Tryz.sizeOf239
 t232 := Tryz.underlying268
 a232 := Tryz.isAgg268
 z232 := Tryz.sizeOf268
 v232 := Tryz.zeroValue268
 t233 := Tryz.underlying269
 a233 := Tryz.isAgg269
 z233 := Tryz.sizeOf269
 v233 := Tryz.zeroValue269
 g17 := by kernel_rfl
 g18 := by kernel_rfl
 g19 := by kernel_rfl
 i0 := by kernel_rfl
 i2 := by kernel_rfl
 i3 := by kernel_rfl
 i4 := by kernel_rfl
 i5 := by kernel_rfl
 i9 := by kernel_rfl
 i20 := by kernel_rfl
 i37 := by kernel_rfl
 i46 := by kernel_rfl
 i51 := by kernel_rfl
 i53 := by kernel_rfl
 i171 := by kernel_rfl
 i173 := by kernel_rfl
 i212 := by kernel_rfl
 i232 := by kernel_rfl
 i233 := by kernel_rfl
 m17 := by kernel_rfl
 m18 := by kernel_rfl
 m19 := by kernel_rfl }
open Go.RowKit Go.Sort Go.Lib in
theorem je2 (n : Int) (h0 : -9223372036854775808 ≤ n) (h1 : n ≤ 9223372036854775807) (w : World) (htab : Lib.TabIs Tryz.prog w "internal/strconv.uint64pow10" .u64 Lib.pow10Tab) :
  Calls Tryz.prog 74 #[.int .i64 n] w fun e w' => e = .returned (.string ⟨(Lib.itoa n).toArray⟩) ∧ ∃ k os, w' = grow (w.drewN k) os := Any.strconv_Itoa jmo n h0 h1 w htab
def jjg : Go.Shelf.Ren := ⟨fun | 144 => 92 | 143 => 132 | 219 => 171 | 217 => 204 | 225 => 205 | 224 => 206 | 267 => 207 | 266 => 230 | 314 => 231 | n => n, fun | 9 => 9 | 4 => 4 | 3 => 3 | 5 => 5 | 46 => 179 | 146 => 243 | 51 => 238 | n => n, fun | 1 => 0 | n => n⟩
theorem jnw : Go.Proofs.Lays.n144 Tryz.prog jjg := {
 mixed := by kernel_rfl
 f143 := Tryz.func132.trans (congrArg some (by kernel_rfl))
 f144 := Tryz.func92.trans (congrArg some (by kernel_rfl))
 f217 := Tryz.func204.trans (congrArg some (by kernel_rfl))
 f219 := Tryz.func171.trans (congrArg some (by kernel_rfl))
 f224 := Tryz.func206.trans (congrArg some (by kernel_rfl))
 f225 := Tryz.func205.trans (congrArg some (by kernel_rfl))
 f266 := Tryz.func230.trans (congrArg some (by kernel_rfl))
 f267 := Tryz.func207.trans (congrArg some (by kernel_rfl))
 f314 := Tryz.func231.trans (congrArg some (by kernel_rfl))
 t3 := Tryz.underlying3
 a3 := Tryz.isAgg3
 z3 := Tryz.sizeOf3
 v3 := Tryz.zeroValue3
 t4 := Tryz.underlying4
 a4 := Tryz.isAgg4
 z4 := Tryz.sizeOf4
 v4 := Tryz.zeroValue4
 t5 := Tryz.underlying5
 a5 := Tryz.isAgg5
 z5 := Tryz.sizeOf5
 v5 := Tryz.zeroValue5
 t9 := Tryz.underlying9
 a9 := Tryz.isAgg9
 z9 := Tryz.sizeOf9
 v9 := Tryz.zeroValue9
 t46 := Tryz.underlying179
 a46 := Tryz.isAgg179
 z46 := Tryz.sizeOf179
 v46 := Tryz.zeroValue179
 t51 := Tryz.underlying238
 a51 := Tryz.isAgg238
 z51 := Tryz.sizeOf238
 v51 := Tryz.zeroValue238
 t146 := Tryz.underlying243
 a146 := Tryz.isAgg243
 z146 := Tryz.sizeOf243
 v146 := Tryz.zeroValue243
 g1 := by kernel_rfl }
open Go.RowKit Go.Lib in
theorem jcu (s : ByteArray) (c : UInt8) (w : World) :
  Calls Tryz.prog 92 #[.string s, .string ⟨#[c]⟩] w fun e w' => e = .returned (.bool (decide (0 ≤ Lib.indexByte s.data.toList c))) ∧ w' = w := Any.strings_Contains_one jnw s c w
def jji : Go.Shelf.Ren := ⟨fun | 145 => 151 | 220 => 191 | 219 => 171 | 217 => 204 | 225 => 205 | 224 => 206 | 267 => 207 | 266 => 230 | 314 => 231 | n => n, fun | 9 => 9 | 4 => 4 | 59 => 183 | 3 => 3 | 5 => 5 | 46 => 179 | 146 => 243 | 51 => 238 | n => n, fun | 1 => 0 | n => n⟩
theorem jnz : Go.Proofs.Lays.n145 Tryz.prog jji := {
 mixed := by kernel_rfl
 f145 := Tryz.func151.trans (congrArg some (by kernel_rfl))
 f217 := Tryz.func204.trans (congrArg some (by kernel_rfl))
 f219 := Tryz.func171.trans (congrArg some (by kernel_rfl))
 f220 := Tryz.func191.trans (congrArg some (by kernel_rfl))
 f224 := Tryz.func206.trans (congrArg some (by kernel_rfl))
 f225 := Tryz.func205.trans (congrArg some (by kernel_rfl))
 f266 := Tryz.func230.trans (congrArg some (by kernel_rfl))
 f267 := Tryz.func207.trans (congrArg some (by kernel_rfl))
 f314 := Tryz.func231.trans (congrArg some (by kernel_rfl))
 t3 := Tryz.underlying3
 a3 := Tryz.isAgg3
 z3 := Tryz.sizeOf3
 v3 := Tryz.zeroValue3
 t4 := Tryz.underlying4
 a4 := Tryz.isAgg4
 z4 := Tryz.sizeOf4
 v4 := Tryz.zeroValue4
 t5 := Tryz.underlying5
 a5 := Tryz.isAgg5
 z5 := Tryz.sizeOf5
 v5 := Tryz.zeroValue5
 t9 := Tryz.underlying9
 a9 := Tryz.isAgg9
 z9 := Tryz.sizeOf9
 v9 := Tryz.zeroValue9
 t46 := Tryz.underlying179
 a46 := Tryz.isAgg179
 z46 := Tryz.sizeOf179
 v46 := Tryz.zeroValue179
 t51 := Tryz.underlying238
 a51 := Tryz.isAgg238
 z51 := Tryz.sizeOf238
 v51 := Tryz.zeroValue238
 t59 := Tryz.underlying183
 a59 := Tryz.isAgg183
 z59 := Tryz.sizeOf183
 v59 := Tryz.zeroValue183
 t146 := Tryz.underlying243
 a146 := Tryz.isAgg243
 z146 := Tryz.sizeOf243
 v146 := Tryz.zeroValue243
 g1 := by kernel_rfl }
open Go.RowKit Go.Lib in
theorem jjj (s sep : ByteArray) (m : Int) (w : World) (hs : s.size < 4294967281) (hm : w.cell? ⟨0, 0, none⟩ = some (.int .i64 m)) :
  Calls Tryz.prog 151 #[.string s, .string sep] w fun e w' => e = .returned (.tuple #[.string ⟨(Lib.cut s.data.toList sep.data.toList).1.toArray⟩, .string ⟨(Lib.cut s.data.toList sep.data.toList).2.1.toArray⟩, .bool (Lib.cut s.data.toList sep.data.toList).2.2]) ∧ ∃ n, w' = w.drewN n := Any.strings_Cut jnz s sep m w hs hm
def jip : Go.Shelf.Ren := ⟨fun | 145 => 151 | 220 => 191 | 219 => 171 | 217 => 204 | 225 => 205 | 224 => 206 | 267 => 207 | 266 => 230 | 314 => 231 | n => n, fun | 9 => 9 | 4 => 4 | 59 => 183 | 3 => 3 | 5 => 5 | 46 => 179 | 146 => 243 | 51 => 238 | n => n, fun | 1 => 0 | n => n⟩
theorem jmm : Go.Proofs.LaysM.n145 Tryz.prog jip := {
 mixed := by kernel_rfl
 f145 := Tryz.func151.trans (congrArg some (by kernel_rfl))
 f217 := Tryz.func204.trans (congrArg some (by kernel_rfl))
 f219 := Tryz.func171.trans (congrArg some (by kernel_rfl))
 f220 := Tryz.func191.trans (congrArg some (by kernel_rfl))
 f224 := Tryz.func206.trans (congrArg some (by kernel_rfl))
 f225 := Tryz.func205.trans (congrArg some (by kernel_rfl))
 f266 := Tryz.func230.trans (congrArg some (by kernel_rfl))
 f267 := Tryz.func207.trans (congrArg some (by kernel_rfl))
 f314 := Tryz.func231.trans (congrArg some (by kernel_rfl))
 t3 := Tryz.underlying3
 a3 := Tryz.isAgg3
 z3 := Tryz.sizeOf3
 v3 := Tryz.zeroValue3
 t4 := Tryz.underlying4
 a4 := Tryz.isAgg4
 z4 := Tryz.sizeOf4
 v4 := Tryz.zeroValue4
 t5 := Tryz.underlying5
 a5 := Tryz.isAgg5
 z5 := Tryz.sizeOf5
 v5 := Tryz.zeroValue5
 t9 := Tryz.underlying9
 a9 := Tryz.isAgg9
 z9 := Tryz.sizeOf9
 v9 := Tryz.zeroValue9
 t46 := Tryz.underlying179
 a46 := Tryz.isAgg179
 z46 := Tryz.sizeOf179
 v46 := Tryz.zeroValue179
 t51 := Tryz.underlying238
 a51 := Tryz.isAgg238
 z51 := Tryz.sizeOf238
 v51 := Tryz.zeroValue238
 t59 := Tryz.underlying183
 a59 := Tryz.isAgg183
 z59 := Tryz.sizeOf183
 v59 := Tryz.zeroValue183
 t146 := Tryz.underlying243
 a146 := Tryz.isAgg243
 z146 := Tryz.sizeOf243
 v146 := Tryz.zeroValue243
 g1 := by kernel_rfl
 i3 := by kernel_rfl
 i4 := by kernel_rfl
 i5 := by kernel_rfl
 i9 := by kernel_rfl
 i46 := by kernel_rfl
 i51 := by kernel_rfl
 i59 := by kernel_rfl
 i146 := by kernel_rfl
 m1 := by kernel_rfl
 s1_3 := fun w h => Go.Proofs.cell_of_shapedOpen_int (zero := #[.int .i64 0]) (t := 3) h (of_decide_eq_true (by kernel_rfl)) (by kernel_rfl) rfl (by kernel_rfl) (by kernel_rfl) Tryz.underlying3 }
open Go.RowKit Go.Lib in
theorem jl4 (s sep : ByteArray) (w : World) (h : w.ShapedOpen Tryz.prog) (hs : s.size < 4294967281) :
  Calls Tryz.prog 151 #[.string s, .string sep] w fun e w' => e = .returned (.tuple #[.string ⟨(Lib.cut s.data.toList sep.data.toList).1.toArray⟩, .string ⟨(Lib.cut s.data.toList sep.data.toList).2.1.toArray⟩, .bool (Lib.cut s.data.toList sep.data.toList).2.2]) ∧ ∃ n, w' = w.drewN n := Any.strings_Cut_shaped jmm s sep w h hs
end Go.Proofs.YtflpcdffmpfdpaaGreatDoor
