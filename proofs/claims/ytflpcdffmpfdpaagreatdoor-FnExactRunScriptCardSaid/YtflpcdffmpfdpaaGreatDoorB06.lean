/- Joined texts of this proof: RaceI, RaceG, RaceW. -/
import Derived.Deep.CutBlock
import Derived.Test.YtflpcdffmpfdpaaGreatDoorB05
import Derived.Test.YtflpcdffmpfdpaaGreatDoorB02
set_option maxRecDepth 100000
set_option maxHeartbeats 8000000
namespace Go.Proofs.YtflpcdffmpfdpaaGreatDoor
open Go.RowKit
theorem jeg (t : Int) (cl : Bool) (A : Option Addr) (n c lo : Nat) (xs : List Entrant) (s : Int) (w : World) (hx : SeesN entrantSh w lo A n xs) (hn : n ≤ 1048576) :
  Calls Tryz.prog 174 #[.agg #[t, cl, .slice A n c], .int .i64 s] w (jjy w (inL xs s)) := by
 have HL := Lib.hid hx.count
 have hl1 : xs.length ≤ n := by rw [HL.out]; exact Nat.le_refl _
 have hl2 : n ≤ xs.length := by rw [HL.out]; exact Nat.le_refl _
 have K0 := nB2 w (.cells #[t, cl, .slice A n c] 32) (.cells #[] 3)
 have P0 := nPa w [t, cl, .slice A n c] 32 (.cells #[] 3)
 have own0 := ja5 (w := (w.alloc (.cells #[t, cl, .slice A n c] 32))) (g := w.heap.size + 1) 3 1 (by simp)
 have z0 := nZ2 w (.cells #[t, cl, .slice A n c] 32) (.cells #[] 3)
 go_enter Tryz.func174, Tryz.ntmps174
 go_wp2_with fail
 generalize (w.alloc _).alloc _ = w0 at *
 go_loopw [5, 12] (fun ov iv wr => ∃ (k : Nat) (out : List Int) (A' : Option Addr) (c' : Nat), k ≤ n ∧ iv = .int .i64 (k : Int) ∧ ov = .slice A' out.length c' ∧ Blk wr w.heap.size 32 [.int .i64 t, .bool cl, .slice A n c] ∧ wr.ownsRow (w.heap.size + 1) 3 1 (.slice A' out.length c') out.length (jb4 out) ∧ out.length ≤ k ∧ Hid (jpv xs s k = out) ∧ w.heap.size + 2 ≤ wr.heap.size ∧ Below w.heap.size w wr) (fun _ iv _ => n - (intOf iv).toNat)
 case atStart => exact ⟨0, [], _, 0, Nat.zero_le _, rfl, rfl, P0, own0, Nat.le_refl _, Lib.hid rfl, z0, K0⟩
 case round =>
  clear P0 own0 z0 K0
  obtain ⟨k, out, A', c', hk, rfl, rfl, P0, own0, hlo, HO, zr, K0⟩ := hrel
  by_cases hlt : k < n
  ·obtain ⟨b, off, B0, mc, cc0, rfl, hkx, y0, y1, y2, y3, y4, hxi⟩ := SeesEntrant.elem hx hlt
   have hN := jli xs s hkx
   rw [HO.out] at hN
   obtain ⟨x, HX⟩ : ∃ x, Hid (xs[k] = x) := ⟨_, Lib.hid rfl⟩
   rw [HX.out] at y0 y1 y2 y3 hN
   have hbw : b < w.heap.size := World.block_lt_of_cell? w _ y0
   have hlti : (k : Int) < (n : Int) := by omega
   have x0 := (K0.cell (p := ⟨b, off + k * 5, none⟩) hbw).trans y0
   have x1 := (K0.cell (p := ⟨b, off + k * 5 + 1, none⟩) hbw).trans y1
   have x2 := (K0.cell (p := ⟨b, off + k * 5 + 2, none⟩) hbw).trans y2
   have x3 := (K0.cell (p := ⟨b, off + k * 5 + 3, none⟩) hbw).trans y3
   have x4 := (K0.cell (p := ⟨b, off + k * 5 + 4, none⟩) hbw).trans y4
   have pc := P0.cell
   clear y0 y1 y2 y3 y4 hxi
   have U := nB wr (.cells #[x.state, x.number, x.start, x.finish, .slice B0 mc cc0] 108)
   have E1 := nP wr [x.state, x.number, x.start, x.finish, .slice B0 mc cc0] 108
   have P1 := P0.next U
   have own1 := jad own0 U
   have K1 := K0.trans (U.mono K0.size)
   have z1 := U.size
   clear U
   by_cases hs : x.state = s
   ·have HN := Lib.hid (hN.trans (if_pos hs))
    have f1 : (x.state == s) = true := beq_iff_eq.2 hs
    have Hs := Lib.hid hs
    clear hN hs
    go_wp2_with (at_builtin; go_loud (refine jac rfl _ _ _ rfl Tryz.underlying90 ja8 rfl (by decide) rfl own1 rfl (by simp) (by rfl) (by rfl) (by omega) (by decide) (by omega) ?_); intro A9 c9 w9 o9 h9 b9 q9)
    go_roundw
    case rel => exact ⟨k + 1, out ++ [(k : Int)], A9, c9, by omega, by go_num, by simp, P1.only h9 (jcj own1 (by omega)), by simpa [jb4] using o9, by simp; omega, HN, by have := h9.size; omega, K1.trans (b9.mono (by omega))⟩
    case measure => simp [intOf]; omega
   ·have HN := Lib.hid (hN.trans (if_neg hs))
    have f1 : (x.state == s) = false := beq_eq_false_iff_ne.2 hs
    have Hs := Lib.hid hs
    clear hN hs
    go_wp2_with fail
    go_roundw
    case rel => exact ⟨k + 1, out, A', c', by omega, by go_num, rfl, P1, own1, by omega, HN, by omega, K1⟩
    case measure => simp [intOf]; omega
  ·have HE := Lib.hid (show inL xs s = out by rw [← HO.out]; unfold inL; rw [show xs.length = k by omega])
   have hlti : ¬ (k : Int) < (n : Int) := by omega
   have pc := P0.cell
   go_wp2_with fail
   go_ret
   rw [HE.out]
   exact ⟨A', c', rfl, jax own0 (by omega), K0⟩
theorem jgn (t : Int) (cl : Bool) (A : Option Addr) (n c lo : Nat) (xs : List Entrant) (w : World) (hx : SeesN entrantSh w lo A n xs) (hn : n ≤ 1048576) :
  Calls Tryz.prog 161 #[.agg #[t, cl, .slice A n c]] w (jjy w (inL xs 1)) := by
 have HL := Lib.hid hx.count
 have hl1 : xs.length ≤ n := by rw [HL.out]; exact Nat.le_refl _
 have hl2 : n ≤ xs.length := by rw [HL.out]; exact Nat.le_refl _
 have K0 := nB2 w (.cells #[t, cl, .slice A n c] 32) (.cells #[] 3)
 have P0 := nPa w [t, cl, .slice A n c] 32 (.cells #[] 3)
 have own0 := ja5 (w := (w.alloc (.cells #[t, cl, .slice A n c] 32))) (g := w.heap.size + 1) 3 1 (by simp)
 have z0 := nZ2 w (.cells #[t, cl, .slice A n c] 32) (.cells #[] 3)
 go_enter Tryz.func161, Tryz.ntmps161
 go_wp2_with fail
 generalize (w.alloc _).alloc _ = w0 at *
 go_loopw [3, 4] (fun ov iv wr => ∃ (k : Nat) (out : List Int) (A' : Option Addr) (c' : Nat), k ≤ n ∧ iv = .int .i64 (k : Int) ∧ ov = .slice A' out.length c' ∧ Blk wr w.heap.size 32 [.int .i64 t, .bool cl, .slice A n c] ∧ wr.ownsRow (w.heap.size + 1) 3 1 (.slice A' out.length c') out.length (jb4 out) ∧ out.length ≤ k ∧ Hid (jpv xs 1 k = out) ∧ w.heap.size + 2 ≤ wr.heap.size ∧ Below w.heap.size w wr) (fun _ iv _ => n - (intOf iv).toNat)
 case atStart => exact ⟨0, [], _, 0, Nat.zero_le _, rfl, rfl, P0, own0, Nat.le_refl _, Lib.hid rfl, z0, K0⟩
 case round =>
  clear P0 own0 z0 K0
  obtain ⟨k, out, A', c', hk, rfl, rfl, P0, own0, hlo, HO, zr, K0⟩ := hrel
  by_cases hlt : k < n
  ·obtain ⟨b, off, B0, mc, cc0, rfl, hkx, y0, y1, y2, y3, y4, hxi⟩ := SeesEntrant.elem hx hlt
   have hN := jli xs 1 hkx
   rw [HO.out] at hN
   obtain ⟨x, HX⟩ : ∃ x, Hid (xs[k] = x) := ⟨_, Lib.hid rfl⟩
   rw [HX.out] at y0 y1 y2 y3 hN
   have hbw : b < w.heap.size := World.block_lt_of_cell? w _ y0
   have hlti : (k : Int) < (n : Int) := by omega
   have x0 := (K0.cell (p := ⟨b, off + k * 5, none⟩) hbw).trans y0
   have x1 := (K0.cell (p := ⟨b, off + k * 5 + 1, none⟩) hbw).trans y1
   have x2 := (K0.cell (p := ⟨b, off + k * 5 + 2, none⟩) hbw).trans y2
   have x3 := (K0.cell (p := ⟨b, off + k * 5 + 3, none⟩) hbw).trans y3
   have x4 := (K0.cell (p := ⟨b, off + k * 5 + 4, none⟩) hbw).trans y4
   have pc := P0.cell
   clear y0 y1 y2 y3 y4 hxi
   have P1 := P0
   have own1 := own0
   have K1 := K0
   by_cases hs : x.state = 1
   ·have HN := Lib.hid (hN.trans (if_pos hs))
    have f1 : (x.state == 1) = true := beq_iff_eq.2 hs
    have Hs := Lib.hid hs
    clear hN hs
    go_wp2_with (at_builtin; go_loud (refine jac rfl _ _ _ rfl Tryz.underlying90 ja8 rfl (by decide) rfl own1 rfl (by simp) (by rfl) (by rfl) (by omega) (by decide) (by omega) ?_); intro A9 c9 w9 o9 h9 b9 q9)
    go_roundw
    case rel => exact ⟨k + 1, out ++ [(k : Int)], A9, c9, by omega, by go_num, by simp, P1.only h9 (jcj own1 (by omega)), by simpa [jb4] using o9, by simp; omega, HN, by have := h9.size; omega, K1.trans (b9.mono (by omega))⟩
    case measure => simp [intOf]; omega
   ·have HN := Lib.hid (hN.trans (if_neg hs))
    have f1 : (x.state == 1) = false := beq_eq_false_iff_ne.2 hs
    have Hs := Lib.hid hs
    clear hN hs
    go_wp2_with fail
    go_roundw
    case rel => exact ⟨k + 1, out, A', c', by omega, by go_num, rfl, P1, own1, by omega, HN, by omega, K1⟩
    case measure => simp [intOf]; omega
  ·have HE := Lib.hid (show inL xs 1 = out by rw [← HO.out]; unfold inL; rw [show xs.length = k by omega])
   have hlti : ¬ (k : Int) < (n : Int) := by omega
   have pc := P0.cell
   go_wp2_with fail
   go_ret
   rw [HE.out]
   exact ⟨A', c', rfl, jax own0 (by omega), K0⟩
theorem fin_eq {x : Card} (h : jap x = true) : decide (x.finish ≠ -1) = decide (0 ≤ x.finish) := by
 unfold jap at h
 rw [Bool.and_eq_true] at h
 obtain ⟨-, h2, h3, -⟩ := jj3 h.1
 have h4 := jaq h2
 rcases h3 with h3 | h3
 ·rw [decide_eq_false (by omega), decide_eq_false (by omega)]
 ·have h5 := jaq h3
  rw [decide_eq_true (by omega), decide_eq_true (by omega)]
theorem jok (t : Int) (cl : Bool) (A : Option Addr) (n c lo : Nat) (xs : List Entrant) (i : Nat) (w : World) (hx : SeesN entrantSh w lo A n xs) (hn : n ≤ 1048576) (hi : ∀ x ∈ xs, x.cnt ≤ 1048576) (hlt : i < n) :
  Calls Tryz.prog 120 #[.agg #[t, cl, .slice A n c], .int .i64 (i : Int)] w fun e w' => e = .returned (.bool (jct t cl xs i)) ∧ Below w.heap.size w w' := by
 obtain ⟨b, off, B, m, d, rfl, hkx, c0, c1, c2, c3, c4, hxi⟩ := SeesEntrant.elem hx hlt
 have hm : m ≤ 1048576 := by
  have h1 := hi xs[i] (List.getElem_mem hkx)
  have h2 := hxi.count (by decide) (fun _ => rfl)
  unfold Entrant.cnt at h1
  omega
 have HE := Lib.hid (jhp (t := t) (cl := cl) hkx)
 obtain ⟨x, hxe⟩ : ∃ x, xs[i] = x := ⟨_, rfl⟩
 rw [hxe] at c0 c1 c2 c3 hxi HE
 clear hxe hx hi hkx
 have hblt := World.block_lt_of_cell? w _ c0
 have K1 := nB2 w (.cells #[t, cl, .slice (some ⟨b, off, none⟩) n c] 32) (.cells #[x.state, x.number, x.start, x.finish, .slice B m d] 108)
 have B1 := nPa w [t, cl, .slice (some ⟨b, off, none⟩) n c] 32 (.cells #[x.state, x.number, x.start, x.finish, .slice B m d] 108)
 have B2 := nQ w (.cells #[t, cl, .slice (some ⟨b, off, none⟩) n c] 32) [x.state, x.number, x.start, x.finish, .slice B m d] 108
 have hxw : Sees ((w.alloc (.cells #[t, cl, .slice (some ⟨b, off, none⟩) n c] 32)).alloc (.cells #[x.state, x.number, x.start, x.finish, .slice B m d] 108)) 0 2 B m (x.card.punches.flatMap Punch.enc) := (hxi.less (Nat.zero_le _)).next K1
 go_enter Tryz.func120, Tryz.ntmps120
 go_upto_block 0 with fail
 go_cut [] from 13 to 38 (fun wr => wr = ((w.alloc (.cells #[t, cl, .slice (some ⟨b, off, none⟩) n c] 32)).alloc (.cells #[x.state, x.number, x.start, x.finish, .slice B m d] 108)) ∧ Hid (jct t cl xs i = (jap x.card && (decide (x.number = (i : Int) + 1) && (decide (decide (x.finish ≠ -1) = decide (x.state = 2)) && jhg t x.card)))))
 case first =>
  by_cases s0 : x.state = 0
  ·have q0 : (x.state == 0) = true := beq_iff_eq.2 s0
   have S0 := Lib.hid s0
   clear s0
   cases cl
   ·go_wp2_with fail
    refine (jib B m d _ x.card _ hxw).mono ?_
    rintro e w1 ⟨rfl, b1⟩
    replace K1 := jaa K1 b1
    replace B1 := B1.next b1
    replace B2 := B2.next b1
    replace hxw := hxw.next b1
    clear b1
    have p1 := B1.cell
    have p2 := B2.cell
    have HR := Lib.hid (HE.out.trans (show jcr _ _ _ _ = jbp x.card by unfold jcr; rw [if_pos S0.out]; simp))
    generalize jbp x.card = zb at *
    go_wp2_with fail
    go_ret
    exact ⟨jab HR.out.symm, K1⟩

   ·have HR := Lib.hid (HE.out.trans (show jcr _ _ _ _ = false by unfold jcr; rw [if_pos S0.out]; simp))
    go_wp2_with fail
    go_ret
    exact ⟨jab HR.out.symm, K1⟩

  have q0 : (x.state == 0) = false := beq_eq_false_iff_ne.2 s0
  have S0 := Lib.hid s0
  clear s0
  by_cases s4 : x.state = 4
  ·have q4 : (x.state == 4) = true := beq_iff_eq.2 s4
   have S4 := Lib.hid s4
   clear s4
   cases cl
   ·have HR := Lib.hid (HE.out.trans (show jcr _ _ _ _ = false by unfold jcr; rw [if_neg S0.out, if_pos S4.out]; simp))
    go_wp2_with fail
    go_ret
    exact ⟨jab HR.out.symm, K1⟩

   ·go_wp2_with fail
    refine (jib B m d _ x.card _ hxw).mono ?_
    rintro e w1 ⟨rfl, b1⟩
    replace K1 := jaa K1 b1
    replace B1 := B1.next b1
    replace B2 := B2.next b1
    replace hxw := hxw.next b1
    clear b1
    have p1 := B1.cell
    have p2 := B2.cell
    have HR := Lib.hid (HE.out.trans (show jcr _ _ _ _ = jbp x.card by unfold jcr; rw [if_neg S0.out, if_pos S4.out]; simp))
    generalize jbp x.card = zb at *
    go_wp2_with fail
    go_ret
    exact ⟨jab HR.out.symm, K1⟩

  have q4 : (x.state == 4) = false := beq_eq_false_iff_ne.2 s4
  have S4 := Lib.hid s4
  clear s4
  by_cases s1 : x.state = 1
  ·have q1 : (x.state == 1) = true := beq_iff_eq.2 s1
   have S1 := Lib.hid s1
   clear s1
   cases cl
   ·go_wp2_with fail
    go_meet
    exact ⟨rfl, Lib.hid (by rw [HE.out]; unfold jcr; simp [S1.out])⟩

   ·have HR := Lib.hid (HE.out.trans (show jcr _ _ _ _ = false by unfold jcr; simp [S1.out]))
    go_wp2_with fail
    go_ret
    exact ⟨jab HR.out.symm, K1⟩

  have q1 : (x.state == 1) = false := beq_eq_false_iff_ne.2 s1
  have S1 := Lib.hid s1
  clear s1
  by_cases s2 : x.state = 2
  ·have q2 : (x.state == 2) = true := beq_iff_eq.2 s2
   have S2 := Lib.hid s2
   clear s2
   go_wp2_with fail
   go_meet
   exact ⟨rfl, Lib.hid (by rw [HE.out]; unfold jcr; simp [S2.out])⟩

  have q2 : (x.state == 2) = false := beq_eq_false_iff_ne.2 s2
  have S2 := Lib.hid s2
  clear s2
  by_cases s3 : x.state = 3
  ·have q3 : (x.state == 3) = true := beq_iff_eq.2 s3
   have S3 := Lib.hid s3
   clear s3
   go_wp2_with fail
   go_meet
   exact ⟨rfl, Lib.hid (by rw [HE.out]; unfold jcr; simp [S3.out])⟩

  have q3 : (x.state == 3) = false := beq_eq_false_iff_ne.2 s3
  have S3 := Lib.hid s3
  clear s3
  have HR := Lib.hid (HE.out.trans (show jcr _ _ _ _ = false by unfold jcr; simp [S0.out, S4.out, S1.out, S2.out, S3.out]))
  go_wp2_with fail
  go_ret
  exact ⟨jab HR.out.symm, K1⟩
 case rest =>
  obtain ⟨rfl, HB⟩ := hcut
  generalize (w.alloc _).alloc _ = w9 at *
  have b1 := (Quiet.one w9).below w9.heap.size
  replace K1 := jaa K1 b1
  replace B1 := B1.next b1
  replace B2 := B2.next b1
  replace hxw := hxw.next b1
  clear b1
  have Kq := K1
  clear K1
  have p1 := B1.cell
  have p2 := B2.cell
  have hw1 : IntKind.i64.wrap ((i : Int) + 1) = (i : Int) + 1 := IntWalk.i64_in _ (by omega)
  cases hcb : jap x.card
  ·have HRR := Lib.hid (HB.out.trans (show (jap x.card && _) = false by rw [hcb]; rfl))
   have HCB := Lib.hid hcb
   clear hcb
   go_wp2_with fail
   refine wp_region_held_drew (S := fun w' => w'.cell? ⟨w.heap.size, 0, none⟩ = some (.int .i64 t) ∧ w'.cell? ⟨w.heap.size + 1, 0, none⟩ = some (.int .i64 x.state) ∧ w'.cell? ⟨w.heap.size + 1, 1, none⟩ = some (.int .i64 x.number) ∧ w'.cell? ⟨w.heap.size + 1, 2, none⟩ = some (.int .i64 x.start) ∧ w'.cell? ⟨w.heap.size + 1, 3, none⟩ = some (.int .i64 x.finish) ∧ w'.cell? ⟨w.heap.size + 1, 4, none⟩ = some (.slice B m d)) (by kernel_rfl) (by (try dsimp only); exact ⟨p1 0, p2 0, p2 1, p2 2, p2 3, p2 4⟩) (fun hH => ?_)
   refine wQ 0 ?_
   refine wQ 1 ?_
   refine wR (rs := [2]) (by kernel_rfl) (by simp) ?_
   refine aC rfl (fun K hK => ?_) aN
   go_simp
   refine (jc2 B m d _ x.card _ hxw hm).mono ?_
   rw [HCB.out]
   rintro e w1 ⟨rfl, b1⟩
   replace Kq := jaa Kq b1
   replace B1 := B1.next b1
   replace B2 := B2.next b1
   replace hxw := hxw.next b1
   clear b1
   clear p1 p2
   have p1 := B1.cell
   have p2 := B2.cell

   go_wp2_with fail
   refine hK.out _ _ (by (try dsimp only); exact ⟨p1 0, p2 0, p2 1, p2 2, p2 3, p2 4⟩) (fun hH => ?_)
   clear hK K
   refine wQ 3 ?_
   refine wU 4 ?_
   refine wU 5 ?_
   refine wU 6 ?_
   refine wU 7 ?_
   refine wU 8 ?_
   refine wU 9 ?_
   refine wQ 10 ?_
   refine wQ 11 ?_
   refine wU 12 ?_
   refine wU 13 ?_
   refine wU 14 ?_
   refine wU 15 ?_
   refine wU 16 ?_
   refine wU 17 ?_
   refine wQ 18 ?_
   refine wQ 19 ?_
   refine wU 20 ?_
   refine wU 21 ?_
   refine wU 22 ?_
   refine wU 23 ?_
   refine wU 24 ?_
   refine wU 25 ?_
   refine wU 26 ?_
   refine wU 27 ?_
   refine wQ 28 ?_
   refine wQ 29 ?_
   refine wD (by kernel_rfl) ?_ _
   go_wp2_with fail
   go_ret
   exact ⟨jab HRR.out.symm, Kq⟩

  have HCB := Lib.hid hcb
  clear hcb
  by_cases hnum : x.number = (i : Int) + 1
  rotate_left 1
  ·have HRR := Lib.hid (HB.out.trans (show (jap x.card && _) = false by rw [HCB.out, decide_eq_false hnum]; rfl))
   have f1 : (x.number == (i : Int) + 1) = false := by simp [hnum]
   clear hnum
   go_wp2_with fail
   refine wp_region_held_drew (S := fun w' => w'.cell? ⟨w.heap.size, 0, none⟩ = some (.int .i64 t) ∧ w'.cell? ⟨w.heap.size + 1, 0, none⟩ = some (.int .i64 x.state) ∧ w'.cell? ⟨w.heap.size + 1, 1, none⟩ = some (.int .i64 x.number) ∧ w'.cell? ⟨w.heap.size + 1, 2, none⟩ = some (.int .i64 x.start) ∧ w'.cell? ⟨w.heap.size + 1, 3, none⟩ = some (.int .i64 x.finish) ∧ w'.cell? ⟨w.heap.size + 1, 4, none⟩ = some (.slice B m d)) (by kernel_rfl) (by (try dsimp only); exact ⟨p1 0, p2 0, p2 1, p2 2, p2 3, p2 4⟩) (fun hH => ?_)
   refine wQ 0 ?_
   refine wQ 1 ?_
   refine wR (rs := [2]) (by kernel_rfl) (by simp) ?_
   refine aC rfl (fun K hK => ?_) aN
   go_simp
   refine (jc2 B m d _ x.card _ hxw hm).mono ?_
   rw [HCB.out]
   rintro e w1 ⟨rfl, b1⟩
   replace Kq := jaa Kq b1
   replace B1 := B1.next b1
   replace B2 := B2.next b1
   replace hxw := hxw.next b1
   clear b1
   clear p1 p2
   have p1 := B1.cell
   have p2 := B2.cell

   go_wp2_with fail
   refine hK.out _ _ (by (try dsimp only); exact ⟨p1 0, p2 0, p2 1, p2 2, p2 3, p2 4⟩) (fun hH => ?_)
   clear hK K
   refine wQ 3 ?_
   refine wQ 4 ?_
   refine wQ 5 ?_
   refine wQ 6 ?_
   refine wQ 7 ?_
   refine wQ 8 ?_
   refine wQ 9 ?_
   refine wQ 10 ?_
   refine wQ 11 ?_
   refine wU 12 ?_
   refine wU 13 ?_
   refine wU 14 ?_
   refine wU 15 ?_
   refine wU 16 ?_
   refine wU 17 ?_
   refine wQ 18 ?_
   refine wQ 19 ?_
   refine wU 20 ?_
   refine wU 21 ?_
   refine wU 22 ?_
   refine wU 23 ?_
   refine wU 24 ?_
   refine wU 25 ?_
   refine wU 26 ?_
   refine wU 27 ?_
   refine wQ 28 ?_
   refine wQ 29 ?_
   refine wD (by kernel_rfl) ?_ _
   go_wp2_with fail
   go_ret
   exact ⟨jab HRR.out.symm, Kq⟩

  have f1 : (x.number == (i : Int) + 1) = true := by simp [hnum]
  cases hl2 : jhg t x.card
  ·have HRR := Lib.hid (HB.out.trans (show (jap x.card && _) = false by rw [hl2]; simp))
   have HL2 := Lib.hid hl2
   clear hl2 hnum
   go_wp2_with fail
   refine wp_region_held_drew (S := fun w' => w'.cell? ⟨w.heap.size, 0, none⟩ = some (.int .i64 t) ∧ w'.cell? ⟨w.heap.size + 1, 0, none⟩ = some (.int .i64 x.state) ∧ w'.cell? ⟨w.heap.size + 1, 1, none⟩ = some (.int .i64 x.number) ∧ w'.cell? ⟨w.heap.size + 1, 2, none⟩ = some (.int .i64 x.start) ∧ w'.cell? ⟨w.heap.size + 1, 3, none⟩ = some (.int .i64 x.finish) ∧ w'.cell? ⟨w.heap.size + 1, 4, none⟩ = some (.slice B m d)) (by kernel_rfl) (by (try dsimp only); exact ⟨p1 0, p2 0, p2 1, p2 2, p2 3, p2 4⟩) (fun hH => ?_)
   refine wQ 0 ?_
   refine wQ 1 ?_
   refine wR (rs := [2]) (by kernel_rfl) (by simp) ?_
   refine aC rfl (fun K hK => ?_) aN
   go_simp
   refine (jc2 B m d _ x.card _ hxw hm).mono ?_
   rw [HCB.out]
   rintro e w1 ⟨rfl, b1⟩
   replace Kq := jaa Kq b1
   replace B1 := B1.next b1
   replace B2 := B2.next b1
   replace hxw := hxw.next b1
   clear b1
   clear p1 p2
   have p1 := B1.cell
   have p2 := B2.cell

   go_wp2_with fail
   refine hK.out _ _ (by (try dsimp only); exact ⟨p1 0, p2 0, p2 1, p2 2, p2 3, p2 4⟩) (fun hH => ?_)
   clear hK K
   refine wQ 3 ?_
   refine wQ 4 ?_
   refine wQ 5 ?_
   refine wQ 6 ?_
   refine wQ 7 ?_
   refine wQ 8 ?_
   refine wQ 9 ?_
   refine wQ 10 ?_
   refine wQ 11 ?_
   refine wQ 12 ?_
   refine wQ 13 ?_
   refine wQ 15 ?_
   refine wQ 16 ?_
   refine wR (rs := [14]) (by kernel_rfl) (by simp) ?_
   refine aC rfl (fun K hK => ?_) aN
   go_simp
   refine (jf2 B m d _ x.card _ hxw hm).mono ?_
   rintro e w2 ⟨lv, rfl, b1, HLV⟩
   replace Kq := jaa Kq b1
   replace B1 := B1.next b1
   replace B2 := B2.next b1
   clear b1 p1 p2
   have p1 := B1.cell
   have p2 := B2.cell
   have hLT := HLV.out t
   rw [HL2.out] at hLT
   clear HLV
   go_wp2_with fail
   refine hK.out _ _ (by (try dsimp only); exact ⟨p1 0, p2 0, p2 1, p2 2, p2 3, p2 4⟩) (fun hH => ?_)
   clear hK K
   refine wQ 17 ?_
   refine wQ 18 ?_
   refine wQ 19 ?_
   refine wU 20 ?_
   refine wU 21 ?_
   refine wU 22 ?_
   refine wU 23 ?_
   refine wU 24 ?_
   refine wU 25 ?_
   refine wU 26 ?_
   refine wU 27 ?_
   refine wQ 28 ?_
   refine wQ 29 ?_
   refine wD (by kernel_rfl) ?_ _
   go_wp2_with fail
   go_ret
   exact ⟨jab HRR.out.symm, Kq⟩

  have HL2 := Lib.hid hl2
  clear hl2
  obtain ⟨fb, hfb⟩ : ∃ fb, decide (0 ≤ x.finish) = fb := ⟨_, rfl⟩
  obtain ⟨sb, hsb⟩ : ∃ sb, (x.state == 2) = sb := ⟨_, rfl⟩
  have hfe : decide (x.finish ≠ -1) = decide (0 ≤ x.finish) := fin_eq HCB.out
  have HRR := Lib.hid (show jct t cl xs i = (fb == sb) by
   rw [HB.out, HCB.out, decide_eq_true hnum, HL2.out, hfe, hfb, ← hsb]
   by_cases z : x.state = 2 <;> cases fb <;> simp [z])
  clear hnum hfe
  go_wp2_with fail
  refine wp_region_held_drew (S := fun w' => w'.cell? ⟨w.heap.size, 0, none⟩ = some (.int .i64 t) ∧ w'.cell? ⟨w.heap.size + 1, 0, none⟩ = some (.int .i64 x.state) ∧ w'.cell? ⟨w.heap.size + 1, 1, none⟩ = some (.int .i64 x.number) ∧ w'.cell? ⟨w.heap.size + 1, 2, none⟩ = some (.int .i64 x.start) ∧ w'.cell? ⟨w.heap.size + 1, 3, none⟩ = some (.int .i64 x.finish) ∧ w'.cell? ⟨w.heap.size + 1, 4, none⟩ = some (.slice B m d)) (by kernel_rfl) (by (try dsimp only); exact ⟨p1 0, p2 0, p2 1, p2 2, p2 3, p2 4⟩) (fun hH => ?_)
  refine wQ 0 ?_
  refine wQ 1 ?_
  refine wR (rs := [2]) (by kernel_rfl) (by simp) ?_
  refine aC rfl (fun K hK => ?_) aN
  go_simp
  refine (jc2 B m d _ x.card _ hxw hm).mono ?_
  rw [HCB.out]
  rintro e w1 ⟨rfl, b1⟩
  replace Kq := jaa Kq b1
  replace B1 := B1.next b1
  replace B2 := B2.next b1
  replace hxw := hxw.next b1
  clear b1
  clear p1 p2
  have p1 := B1.cell
  have p2 := B2.cell

  go_wp2_with fail
  refine hK.out _ _ (by (try dsimp only); exact ⟨p1 0, p2 0, p2 1, p2 2, p2 3, p2 4⟩) (fun hH => ?_)
  clear hK K
  refine wQ 3 ?_
  refine wQ 4 ?_
  refine wQ 5 ?_
  refine wQ 6 ?_
  refine wQ 7 ?_
  refine wQ 8 ?_
  refine wQ 9 ?_
  refine wQ 10 ?_
  refine wQ 11 ?_
  refine wQ 12 ?_
  refine wQ 13 ?_
  refine wQ 15 ?_
  refine wQ 16 ?_
  refine wR (rs := [14]) (by kernel_rfl) (by simp) ?_
  refine aC rfl (fun K hK => ?_) aN
  go_simp
  refine (jf2 B m d _ x.card _ hxw hm).mono ?_
  rintro e w2 ⟨lv, rfl, b1, HLV⟩
  replace Kq := jaa Kq b1
  replace B1 := B1.next b1
  replace B2 := B2.next b1
  clear b1 p1 p2
  have p1 := B1.cell
  have p2 := B2.cell
  have hLT := HLV.out t
  rw [HL2.out] at hLT
  clear HLV
  go_wp2_with fail
  refine hK.out _ _ (by (try dsimp only); exact ⟨p1 0, p2 0, p2 1, p2 2, p2 3, p2 4⟩) (fun hH => ?_)
  clear hK K
  refine wQ 17 ?_
  refine wQ 18 ?_
  refine wQ 19 ?_
  refine wQ 20 ?_
  refine wQ 21 ?_
  refine wQ 22 ?_
  refine wQ 23 ?_
  refine wQ 24 ?_
  refine wQ 25 ?_
  refine wQ 26 ?_
  refine wQ 27 ?_
  refine wQ 28 ?_
  refine wQ 29 ?_
  refine wD (by kernel_rfl) ?_ _
  go_wp2_with fail
  go_ret
  exact ⟨jab HRR.out.symm, Kq⟩
theorem jcy (t : Int) (cl : Bool) (A : Option Addr) (n c lo : Nat) (xs : List Entrant) (w : World) (hx : SeesN entrantSh w lo A n xs) (hn : n ≤ 1048576) (hi : ∀ x ∈ xs, x.cnt ≤ 1048576) :
  Calls Tryz.prog 78 #[.agg #[t, cl, .slice A n c]] w fun e w' => e = .returned (.bool (jbf t cl xs)) ∧ Below w.heap.size w w' := by
 have hl := hx.count
 have K0 := nB w (.cells #[t, cl, .slice A n c] 32)
 have B0 := nP w [t, cl, .slice A n c] 32
 cases h1 : inB t 0 36000
 ·have HF := Lib.hid (jhq (cl := cl) (xs := xs) (.inl h1))
  go_enter Tryz.func78, Tryz.ntmps78
  go_wp2_with (first | (go_at_call 119; refine (jan _ _).mono ?_; rintro e w' ⟨rfl, rfl⟩) | (go_at_call 111; refine (jae _ _ _ _).mono ?_; rintro e w' ⟨rfl, rfl⟩))
  go_ret
  exact ⟨jab HF.out.symm, K0⟩
 cases h2 : inB (n : Int) 1 8
 ·have HF := Lib.hid (jhq (t := t) (cl := cl) (xs := xs) (.inr (by rw [hl]; exact h2)))
  go_enter Tryz.func78, Tryz.ntmps78
  go_wp2_with (first | (go_at_call 119; refine (jan _ _).mono ?_; rintro e w' ⟨rfl, rfl⟩) | (go_at_call 111; refine (jae _ _ _ _).mono ?_; rintro e w' ⟨rfl, rfl⟩))
  go_ret
  exact ⟨jab HF.out.symm, K0⟩
 have HR := Lib.hid (jla (cl := cl) (xs := xs) h1 (by rw [hl]; exact h2))
 have HL := Lib.hid hl
 clear hl
 go_enter Tryz.func78, Tryz.ntmps78
 go_wp2_with (first | (go_at_call 119; refine (jan _ _).mono ?_; rintro e w' ⟨rfl, rfl⟩) | (go_at_call 111; refine (jae _ _ _ _).mono ?_; rintro e w' ⟨rfl, rfl⟩))
 clear h1 h2
 go_loopw [3] (fun v wr => ∃ k : Nat, k ≤ n ∧ v = .int .i64 k ∧ Hid (jc7 k (jct t cl xs) = true) ∧ Blk wr w.heap.size 32 [.int .i64 t, .bool cl, .slice A n c] ∧ Below w.heap.size w wr) (fun v _ => n - (intOf v).toNat)
 case atStart => exact ⟨0, Nat.zero_le _, rfl, Lib.hid rfl, B0, K0⟩
 case round =>
  clear B0 K0
  obtain ⟨k, hk, rfl, HA, B0, K0⟩ := hrel
  have cm := B0.cell
  by_cases hlt : k < n
  ·go_wp2_with fail
   refine (jok t cl A n c _ xs k wr (hx.next K0) hn hi hlt).mono ?_
   cases hen : jct t cl xs k
   ·rintro e w1 ⟨rfl, b1⟩
    replace K0 := jaa K0 b1
    have HF := Lib.hid (show jbf t cl xs = false by rw [HR.out]; exact jaw (by rw [HL.out]; exact hlt) hen)
    clear hen
    go_wp2_with fail
    go_ret
    exact ⟨jab HF.out.symm, K0⟩
   ·rintro e w1 ⟨rfl, b1⟩
    replace K0 := jaa K0 b1
    replace B0 := B0.next b1
    have HN := Lib.hid (jdp HA.out hen)
    clear hen b1 cm
    go_wp2_with fail
    go_roundw
    case rel => exact ⟨k + 1, by omega, by go_num, HN, B0, K0⟩
    case measure => simp [intOf]; omega
  ·obtain rfl : k = n := by omega
   go_wp2_with fail
   go_ret
   exact ⟨jab (by rw [HR.out, HL.out, HA.out]), K0⟩
end Go.Proofs.YtflpcdffmpfdpaaGreatDoor
namespace Go.Proofs.YtflpcdffmpfdpaaGreatDoor
open Go.RowKit

section
variable {α : Type} {sh : Sh α} {w w7 w8 : World} {S : Nat → Prop} {n c t ti g : Nat} {rs : List (Hd α)}
theorem MineR.regrowD {D : Nat → Prop} {cur cs' : List Value} {k m7 c7 : Nat} {A7 : Option Addr} {y : α} (h : MineR sh w S t ti (some ⟨g, 0, none⟩) n c rs) (hB : Blk w g t cur) (hk : k < rs.length)
  (h7 : Only D w w7) (hD : ∀ b, D b → jaj rs[k].A b ∨ (b ≠ g ∧ ∀ r ∈ rs, ¬ jaj r.A b)) (hr : Mine w7 (jaj A7) ti sh.is A7 m7 c7 (sh.inner y)) (hq : ∀ b, jaj A7 b → jaj rs[k].A b ∨ w.heap.size ≤ b)
  (ho : Only (fun b => b = g) w7 w8) (hB8 : Blk w8 g t cs') (hl : cs'.length = cur.length) (hin : ∀ j, j < sh.s → cs'[k * sh.s + j]? = (sh.enc ⟨y, A7, m7, c7⟩)[j]?) (hout : ∀ j, ¬ (k * sh.s ≤ j ∧ j < k * sh.s + sh.s) → cs'[j]? = cur[j]?)
  (hS : ∀ b, jaj A7 b → S b) : MineR sh w8 S t ti (some ⟨g, 0, none⟩) n c (rs.set k ⟨y, A7, m7, c7⟩) := by
 have hlen := h.count
 have hgl := hB.lt
 have hp := List.pairwise_iff_getElem.1 h.inners.pair
 have hap : ∀ (i : Nat) (hi : i < rs.length), ¬ jaj rs[i].A g := fun i hi hb => h.apart rs[i] (List.getElem_mem hi) g hb rfl
 have hlt : ∀ (i : Nat) (hi : i < rs.length) b, jaj rs[i].A b → b < w.heap.size := fun i hi b hb => (h.inners.each rs[i] (List.getElem_mem hi)).lt b hb
 have hpk : ∀ (i : Nat) (hi : i < rs.length), i ≠ k → ∀ b, jaj rs[i].A b → jaj rs[k].A b → False := fun i hi hne b h1 h2 => by
  rcases Nat.lt_or_gt_of_ne hne with hlt | hgt
  ·exact hp i k hi hk hlt b h1 h2
  ·exact hp k i hk hi hgt b h2 h1
 have h7g : ¬ jaj A7 g := fun hb => (hq g hb).elim (hap k hk) (fun h => by omega)
 have h7i : ∀ (i : Nat) (hi : i < rs.length), i ≠ k → ∀ b, jaj rs[i].A b → jaj A7 b → False := fun i hi hne b h1 h2 => by
  rcases hq b h2 with h3 | h3
  ·exact hpk i hi hne b h1 h3
  ·have := hlt i hi b h1; omega
 rcases jby h.outer.own with ⟨h0, _⟩ | ⟨g', cur', e, _, hB2, hcl, hnc, hcm, htk⟩
 ·cases h0
 ·injection e with e
  injection e with e1 _ _
  subst e1
  have ec : cur' = cur := by
   have h3 := hB.symm.trans hB2
   simp only [Option.some.injEq, Obj.cells.injEq, and_true] at h3
   exact (List.toArray_inj h3).symm
  subst ec
  refine ⟨⟨jci (Nat.zero_le _) hB8 (hl.trans hcl) hnc hcm ?_, h.outer.top⟩, ⟨fun r' hr' => ?_, List.pairwise_iff_getElem.2 fun i j hi hj hij b hb hb' => ?_⟩, fun r' hr' b hb hb2 => ?_⟩
  ·rw [← hlen] at htk ⊢
   exact jic hk _ htk hin hout
  ·obtain ⟨i, hi, rfl⟩ := List.getElem_of_mem hr'
   rw [List.length_set] at hi
   rw [List.getElem_set]
   by_cases hki : k = i
   ·rw [if_pos hki]
    exact (hr.only ho (fun b h1 (h2 : b = g) => h7g (h2 ▸ h1))).wide hS
   ·rw [if_neg hki]
    exact (((h.inners.each rs[i] (List.getElem_mem hi)).exact_.only h7 (fun b h1 h2 => (hD b h2).elim (fun h3 => hpk i hi (fun e => hki e.symm) b h1 h3) (fun h3 => h3.2 rs[i] (List.getElem_mem hi) h1))).only ho (fun b h1 (h2 : b = g) => hap i hi (h2 ▸ h1))).wide (fun b hb => (h.inners.each rs[i] (List.getElem_mem hi)).top b hb)
  ·rw [List.length_set] at hi hj
   rw [List.getElem_set] at hb hb'
   by_cases hki : k = i
   ·subst hki
    rw [if_pos rfl] at hb
    rw [if_neg (by omega)] at hb'
    exact h7i j hj (by omega) b hb' hb
   ·rw [if_neg hki] at hb
    by_cases hkj : k = j
    ·subst hkj
     rw [if_pos rfl] at hb'
     exact h7i i hi (by omega) b hb hb'
    ·rw [if_neg hkj] at hb'
     exact hp i j hi hj hij b hb hb'
  ·obtain ⟨i, hi, rfl⟩ := List.getElem_of_mem hr'
   rw [List.length_set] at hi
   rw [List.getElem_set] at hb
   simp only [jaj, Value.ownBlock, Option.some.injEq] at hb2
   subst hb2
   by_cases hki : k = i
   ·rw [if_pos hki] at hb
    exact h7g hb
   ·rw [if_neg hki] at hb
    exact hap i hi hb
theorem MineR.regrow {cur cs' : List Value} {k m7 c7 : Nat} {A7 : Option Addr} {y : α} (h : MineR sh w S t ti (some ⟨g, 0, none⟩) n c rs) (hB : Blk w g t cur) (hk : k < rs.length)
  (h7 : Only (jaj rs[k].A) w w7) (hr : Mine w7 (jaj A7) ti sh.is A7 m7 c7 (sh.inner y)) (hq : ∀ b, jaj A7 b → jaj rs[k].A b ∨ w.heap.size ≤ b)
  (ho : Only (fun b => b = g) w7 w8) (hB8 : Blk w8 g t cs') (hl : cs'.length = cur.length) (hin : ∀ j, j < sh.s → cs'[k * sh.s + j]? = (sh.enc ⟨y, A7, m7, c7⟩)[j]?) (hout : ∀ j, ¬ (k * sh.s ≤ j ∧ j < k * sh.s + sh.s) → cs'[j]? = cur[j]?)
  (hS : ∀ b, jaj A7 b → S b) : MineR sh w8 S t ti (some ⟨g, 0, none⟩) n c (rs.set k ⟨y, A7, m7, c7⟩) :=
 MineR.regrowD h hB hk h7 (fun _ hb => .inl hb) hr hq ho hB8 hl hin hout hS
end
def GivesRStep (B0 g : Nat) (R : Option RaceV) (w : World) (e : Ending) (w' : World) : Prop :=
 e = .returned (.bool R.isSome) ∧ Below B0 w w' ∧ ∀ r', R = some r' → ∃ (A : Option Addr) (n c : Nat), Blk w' g 32 [.int .i64 r'.clock, .bool r'.closed, .slice A n c] ∧ MineN entrantSh w' (fun b => B0 ≤ b ∧ b ≠ g) 108 188 A n c r'.field
theorem GivesRStep.no {B0 g : Nat} {R : Option RaceV} {w w' : World} (h : R = none) (K : Below B0 w w') : GivesRStep B0 g R w (.returned (.bool false)) w' := by
 subst h
 exact ⟨rfl, K, fun r' h => by cases h⟩
theorem MineR.ent {w : World} {S : Nat → Prop} {t ti n c : Nat} {A : Option Addr} {rs : List (Hd Entrant)} (h : MineR entrantSh w S t ti A n c rs) {i : Nat} (hi : i < n) :
  ∃ (g : Nat) (cur : List Value) (x : Entrant) (Bp : Option Addr) (m d : Nat), A = some ⟨g, 0, none⟩ ∧ S g ∧ Blk w g t cur ∧ (∃ hk : i < rs.length, rs[i] = ⟨x, Bp, m, d⟩) ∧ n * 5 ≤ cur.length ∧
   cur[i * 5]? = some (.int .i64 x.state) ∧ cur[i * 5 + 1]? = some (.int .i64 x.number) ∧ cur[i * 5 + 2]? = some (.int .i64 x.start) ∧ cur[i * 5 + 3]? = some (.int .i64 x.finish) ∧ cur[i * 5 + 4]? = some (.slice Bp m d) := by
 have hc := h.count
 obtain ⟨g, cur, hA, hS, hB, hl, hle, hcell⟩ := h.block (by omega)
 have hk : i < rs.length := by omega
 obtain ⟨q, hq⟩ : ∃ q, rs[i] = q := ⟨_, rfl⟩
 obtain ⟨x, Bp, m, d⟩ := q
 have h0 := hcell i 0 hk (by decide)
 have h1 := hcell i 1 hk (by decide)
 have h2 := hcell i 2 hk (by decide)
 have h3 := hcell i 3 hk (by decide)
 have h4 := hcell i 4 hk (by decide)
 rw [hq] at h0 h1 h2 h3 h4
 exact ⟨g, cur, x, Bp, m, d, hA, hS, hB, ⟨hk, hq⟩, hle, h0, h1, h2, h3, h4⟩

end Go.Proofs.YtflpcdffmpfdpaaGreatDoor
