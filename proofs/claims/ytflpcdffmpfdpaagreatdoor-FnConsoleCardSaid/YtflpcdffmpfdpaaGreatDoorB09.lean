/- Joined texts of this proof: RaceS3. -/
import Derived.Test.YtflpcdffmpfdpaaGreatDoorB08
set_option maxRecDepth 100000
set_option maxHeartbeats 8000000
namespace Go.Proofs.YtflpcdffmpfdpaaGreatDoor
open Go.RowKit
def jcq (n : Nat) (k e v : Int) : Bool :=
 if k = 1 then decide (e = 0) && decide (1 ≤ v) else if k = 6 then decide (e = 0) && decide (v = 0)
 else if k = 3 then inB e 0 ((n : Int) - 1) && jda v else inB k 2 5 && (inB e 0 ((n : Int) - 1) && decide (v = 0))
theorem jnc (t : Int) (cl : Bool) (A : Option Addr) (n c : Nat) (k e v : Int) (w : World) (hn1 : 1 ≤ n) (hn : n ≤ 1048576) :
  Calls Tryz.prog 167 #[.agg #[t, cl, .slice A n c], .agg #[k, e, v]] w fun e' w' => e' = .returned (.bool (jcq n k e v)) ∧ Below w.heap.size w w' := by
 have KB := nB2 w (.cells #[t, cl, .slice A n c] 32) (.cells #[k, e, v] 124)
 obtain ⟨i1, hi1⟩ : ∃ i1, inB e 0 ((n : Int) - 1) = i1 := ⟨_, rfl⟩
 have HI1 := Lib.hid hi1
 obtain ⟨i2, hi2⟩ : ∃ i2, inB k 2 5 = i2 := ⟨_, rfl⟩
 have HI2 := Lib.hid hi2
 obtain ⟨ic, hic⟩ : ∃ ic, jda v = ic := ⟨_, rfl⟩
 have HC := Lib.hid hic
 clear hi1 hi2 hic
 go_enter Tryz.func167, Tryz.ntmps167
 by_cases k1 : k = 1
 ·have f1 : (k == 1) = true := beq_iff_eq.2 k1
  have K1 := Lib.hid k1
  clear k1
  by_cases e0 : e = 0
  rotate_left 1
  ·have f2 : (e == 0) = false := beq_eq_false_iff_ne.2 e0
   have HZ := Lib.hid (show jcq n k e v = false by unfold jcq; rw [if_pos (by exact K1.out), decide_eq_false e0]; rfl)
   clear e0
   go_wp2_with (first | (go_at_call 111; refine (jae _ _ _ _).mono ?_; (try rw [HI1.out]); (try rw [HI2.out]); rintro e w' ⟨rfl, rfl⟩) | (go_at_call 199; refine (jag _ _).mono ?_; (try rw [HC.out]); rintro e w' ⟨rfl, rfl⟩))
   go_ret
   exact ⟨jab HZ.out.symm, KB⟩
  have f2 : (e == 0) = true := beq_iff_eq.2 e0
  have E0 := Lib.hid e0
  clear e0
  by_cases v1 : 1 ≤ v
  ·have HV := Lib.hid (decide_eq_true v1)
   have HZ := Lib.hid (show jcq n k e v = true by unfold jcq; rw [if_pos (by exact K1.out), decide_eq_true E0.out, HV.out]; rfl)
   go_wp2_with (first | (go_at_call 111; refine (jae _ _ _ _).mono ?_; (try rw [HI1.out]); (try rw [HI2.out]); rintro e w' ⟨rfl, rfl⟩) | (go_at_call 199; refine (jag _ _).mono ?_; (try rw [HC.out]); rintro e w' ⟨rfl, rfl⟩))
   go_ret
   exact ⟨jab HZ.out.symm, KB⟩
  ·have HV := Lib.hid (decide_eq_false v1)
   have HZ := Lib.hid (show jcq n k e v = false by unfold jcq; rw [if_pos (by exact K1.out), HV.out, Bool.and_false])
   go_wp2_with (first | (go_at_call 111; refine (jae _ _ _ _).mono ?_; (try rw [HI1.out]); (try rw [HI2.out]); rintro e w' ⟨rfl, rfl⟩) | (go_at_call 199; refine (jag _ _).mono ?_; (try rw [HC.out]); rintro e w' ⟨rfl, rfl⟩))
   go_ret
   exact ⟨jab HZ.out.symm, KB⟩
 have f1 : (k == 1) = false := beq_eq_false_iff_ne.2 k1
 have K1 := Lib.hid k1
 clear k1
 by_cases k6 : k = 6
 ·have f2 : (k == 6) = true := beq_iff_eq.2 k6
  have K6 := Lib.hid k6
  clear k6
  by_cases e0 : e = 0
  rotate_left 1
  ·have f3 : (e == 0) = false := beq_eq_false_iff_ne.2 e0
   have HZ := Lib.hid (show jcq n k e v = false by unfold jcq; rw [if_neg (by exact K1.out), if_pos (by exact K6.out), decide_eq_false e0]; rfl)
   clear e0
   go_wp2_with (first | (go_at_call 111; refine (jae _ _ _ _).mono ?_; (try rw [HI1.out]); (try rw [HI2.out]); rintro e w' ⟨rfl, rfl⟩) | (go_at_call 199; refine (jag _ _).mono ?_; (try rw [HC.out]); rintro e w' ⟨rfl, rfl⟩))
   go_ret
   exact ⟨jab HZ.out.symm, KB⟩
  have f3 : (e == 0) = true := beq_iff_eq.2 e0
  have E0 := Lib.hid e0
  clear e0
  by_cases v0 : v = 0
  ·have f4 : (v == 0) = true := beq_iff_eq.2 v0
   have V0 := Lib.hid v0
   clear v0
   have HZ := Lib.hid (show jcq n k e v = true by unfold jcq; rw [if_neg (by exact K1.out), if_pos (by exact K6.out), decide_eq_true E0.out, decide_eq_true V0.out]; rfl)
   go_wp2_with (first | (go_at_call 111; refine (jae _ _ _ _).mono ?_; (try rw [HI1.out]); (try rw [HI2.out]); rintro e w' ⟨rfl, rfl⟩) | (go_at_call 199; refine (jag _ _).mono ?_; (try rw [HC.out]); rintro e w' ⟨rfl, rfl⟩))
   go_ret
   exact ⟨jab HZ.out.symm, KB⟩
  ·have f4 : (v == 0) = false := beq_eq_false_iff_ne.2 v0
   have HZ := Lib.hid (show jcq n k e v = false by unfold jcq; rw [if_neg (by exact K1.out), if_pos (by exact K6.out), decide_eq_false v0, Bool.and_false])
   clear v0
   go_wp2_with (first | (go_at_call 111; refine (jae _ _ _ _).mono ?_; (try rw [HI1.out]); (try rw [HI2.out]); rintro e w' ⟨rfl, rfl⟩) | (go_at_call 199; refine (jag _ _).mono ?_; (try rw [HC.out]); rintro e w' ⟨rfl, rfl⟩))
   go_ret
   exact ⟨jab HZ.out.symm, KB⟩
 have f2 : (k == 6) = false := beq_eq_false_iff_ne.2 k6
 have K6 := Lib.hid k6
 clear k6
 by_cases k3 : k = 3
 ·have f3 : (k == 3) = true := beq_iff_eq.2 k3
  have K3 := Lib.hid k3
  clear k3
  have HZ := Lib.hid (show jcq n k e v = (i1 && ic) by unfold jcq; rw [if_neg (by exact K1.out), if_neg (by exact K6.out), if_pos (by exact K3.out), HI1.out, HC.out])
  clear HI2
  cases i1
  ·go_wp2_with (first | (go_at_call 111; refine (jae _ _ _ _).mono ?_; (try rw [HI1.out]); (try rw [HI1.out]); rintro e w' ⟨rfl, rfl⟩) | (go_at_call 199; refine (jag _ _).mono ?_; (try rw [HC.out]); rintro e w' ⟨rfl, rfl⟩))
   go_ret
   exact ⟨jab HZ.out.symm, KB⟩
  ·cases ic
   ·go_wp2_with (first | (go_at_call 111; refine (jae _ _ _ _).mono ?_; (try rw [HI1.out]); (try rw [HI1.out]); rintro e w' ⟨rfl, rfl⟩) | (go_at_call 199; refine (jag _ _).mono ?_; (try rw [HC.out]); rintro e w' ⟨rfl, rfl⟩))
    go_ret
    exact ⟨jab HZ.out.symm, KB⟩
   ·go_wp2_with (first | (go_at_call 111; refine (jae _ _ _ _).mono ?_; (try rw [HI1.out]); (try rw [HI1.out]); rintro e w' ⟨rfl, rfl⟩) | (go_at_call 199; refine (jag _ _).mono ?_; (try rw [HC.out]); rintro e w' ⟨rfl, rfl⟩))
    go_ret
    exact ⟨jab HZ.out.symm, KB⟩
 have f3 : (k == 3) = false := beq_eq_false_iff_ne.2 k3
 have K3 := Lib.hid k3
 clear k3
 have HZ0 := Lib.hid (show jcq n k e v = (i2 && (i1 && decide (v = 0))) by unfold jcq; rw [if_neg (by exact K1.out), if_neg (by exact K6.out), if_neg (by exact K3.out), HI1.out, HI2.out])
 clear HC
 cases i2
 ·have HZ := Lib.hid (show jcq n k e v = false by rw [HZ0.out]; rfl)
  go_wp2_with (first | (go_at_call 111; refine (jae _ _ _ _).mono ?_; (try rw [HI1.out]); (try rw [HI2.out]); rintro e w' ⟨rfl, rfl⟩) | (go_at_call 199; refine (jag _ _).mono ?_; (try rw [HI1.out]); rintro e w' ⟨rfl, rfl⟩))
  go_ret
  exact ⟨jab HZ.out.symm, KB⟩
 cases i1
 ·have HZ := Lib.hid (show jcq n k e v = false by rw [HZ0.out]; rfl)
  go_wp2_with (first | (go_at_call 111; refine (jae _ _ _ _).mono ?_; (try rw [HI1.out]); (try rw [HI2.out]); rintro e w' ⟨rfl, rfl⟩) | (go_at_call 199; refine (jag _ _).mono ?_; (try rw [HI1.out]); rintro e w' ⟨rfl, rfl⟩))
  go_ret
  exact ⟨jab HZ.out.symm, KB⟩
 by_cases v0 : v = 0
 ·have f4 : (v == 0) = true := beq_iff_eq.2 v0
  have V0 := Lib.hid v0
  clear v0
  have HZ := Lib.hid (show jcq n k e v = true by rw [HZ0.out, decide_eq_true V0.out]; rfl)
  go_wp2_with (first | (go_at_call 111; refine (jae _ _ _ _).mono ?_; (try rw [HI1.out]); (try rw [HI2.out]); rintro e w' ⟨rfl, rfl⟩) | (go_at_call 199; refine (jag _ _).mono ?_; (try rw [HI1.out]); rintro e w' ⟨rfl, rfl⟩))
  go_ret
  exact ⟨jab HZ.out.symm, KB⟩
 ·have f4 : (v == 0) = false := beq_eq_false_iff_ne.2 v0
  have HZ := Lib.hid (show jcq n k e v = false by rw [HZ0.out, decide_eq_false v0]; rfl)
  clear v0
  go_wp2_with (first | (go_at_call 111; refine (jae _ _ _ _).mono ?_; (try rw [HI1.out]); (try rw [HI2.out]); rintro e w' ⟨rfl, rfl⟩) | (go_at_call 199; refine (jag _ _).mono ?_; (try rw [HI1.out]); rintro e w' ⟨rfl, rfl⟩))
  go_ret
  exact ⟨jab HZ.out.symm, KB⟩
def jpn (w : World) (R : Option RaceV) (e : Ending) (w' : World) : Prop :=
 ∃ (t2 : Int) (b2 : Bool) (A : Option Addr) (n c : Nat) (xs2 : List Entrant), e = .returned (.tuple #[.agg #[t2, b2, .slice A n c], .bool R.isSome]) ∧ MineN entrantSh w' (In w.heap.size w'.heap.size) 108 188 A n c xs2 ∧ (∀ r', R = some r' → r' = ⟨t2, b2, xs2⟩) ∧ Below w.heap.size w w'
def jfb (r : RaceV) (k v : Int) : Option RaceV :=
 if k = 1 then if r.closed = false ∧ v ≤ 36000 - r.clock then some { r with clock := r.clock + v } else none
 else if r.closed = false ∧ (inL r.field 1).length = 0 then some { r with closed := true, field := jb1 r.field } else none
theorem jj1 (t : Int) (cl : Bool) (A : Option Addr) (n c : Nat) (xs : List Entrant) (k e v : Int) (w : World) (hx : SeesN entrantSh w 0 A n xs) (hn1 : 1 ≤ n) (hn : n ≤ 8) (hi : ∀ x ∈ xs, x.cnt ≤ 1048576) (ht0 : 0 ≤ t) (ht : t ≤ 36000) (hv1 : k = 1 → 1 ≤ v) :
  Calls Tryz.prog 202 #[.agg #[t, cl, .slice A n c], .agg #[k, e, v]] w (jpn w (jfb ⟨t, cl, xs⟩ k v)) := by
 have HL := hx.count
 have HLN := Lib.hid HL
 clear HL
 have KB := nB3 w (.cells #[t, cl, .slice A n c] 32) (.cells #[k, e, v] 124) (.cells #[.int .i64 0, false, .slice none 0 0] 32)
 have P := nPb w [t, cl, .slice A n c] 32 (.cells #[k, e, v] 124) (.cells #[.int .i64 0, false, .slice none 0 0] 32)
 have Q := nQa w (.cells #[t, cl, .slice A n c] 32) [k, e, v] 124 (.cells #[.int .i64 0, false, .slice none 0 0] 32)
 have Z := nR w (.cells #[t, cl, .slice A n c] 32) (.cells #[k, e, v] 124) [.int .i64 0, false, .slice none 0 0] 32
 have z0 := nZ3 w (.cells #[t, cl, .slice A n c] 32) (.cells #[k, e, v] 124) (.cells #[.int .i64 0, false, .slice none 0 0] 32)
 go_enter Tryz.func202, Tryz.ntmps202
 go_wp2_with fail
 generalize ((w.alloc _).alloc _).alloc _ = w1 at *
 refine (jgl t cl A n c xs w1 (hx.below KB (Nat.le_refl _)) (by omega) hi).mono ?_
 rintro e9 w2 ⟨A1, c1, rfl, M1, b⟩
 replace M1 := M1.at (show xs.length = n from HLN.out)
 rw [show (⟨t, cl, xs⟩ : RaceV).field.length = n from HLN.out]
 replace KB := jaa KB b
 have zz := b.size
 replace P := P.next b
 replace Q := Q.next b
 replace Z := Z.next b
 clear b
 have U := nB w2 (.cells #[t, cl, .slice A1 n c1] 32)
 have O := nP w2 [t, cl, .slice A1 n c1] 32
 have zu := nZ w2 (.cells #[t, cl, .slice A1 n c1] 32)
 replace KB := jaa KB U
 replace P := P.next U
 replace Q := Q.next U
 replace Z := Z.next U
 have MI := (M1.next U).wide (T := fun b => w1.heap.size ≤ b ∧ b < w2.heap.size) (fun b hb => ⟨hb.1, hb.2⟩)
 clear U M1
 go_upto_region 2 with fail
 generalize w2.alloc _ = wo at *
 have zgo : w1.heap.size ≤ w2.heap.size := zz
 generalize w2.heap.size = go at *
 have oc := O.cell
 have of := O.frozen
 have qc := Q.cell
 have pc := P.cell
 by_cases k1 : k = 1
 ·have f1 : (k == 1) = true := beq_iff_eq.2 k1
  have K1 := Lib.hid k1
  have hv1' := hv1 k1
  clear k1 hv1
  by_cases hv : v ≤ 36000 - t
  ·cases cl
   ·have HR := Lib.hid (show jfb ⟨t, false, xs⟩ k v = some ⟨t + v, false, xs⟩ by unfold jfb; rw [if_pos (by exact K1.out), if_pos ⟨rfl, hv⟩])
    go_upto_region 4 with fail
    clear oc of qc pc
    skip
    have OF : Blk (wo.setCell ⟨go, 0, none⟩ (.int .i64 (t + v))) go 32 [.int .i64 (t + v), .bool false, .slice A1 n c1] := O.set_ 0 _
    have EO := (Only.refl (fun b => b = go) wo).setCell (p := ⟨go, 0, none⟩) rfl (.int .i64 (t + v))
    replace P := P.only EO (fun h => by omega)
    replace Q := Q.only EO (fun h => by omega)
    replace Z := Z.only EO (fun h => by omega)
    replace KB := KB.trans (EO.below (fun b (hb : b = go) => by omega) KB.size)
    replace MI := MI.only EO (fun b h1 (h2 : b = go) => by omega)
    have zo := EO.size
    clear EO O
    have O := OF
    clear OF
    generalize wo.setCell _ _ = wq at *
    obtain ⟨lm, hlm⟩ : ∃ lm, 36000 - t = lm := ⟨_, rfl⟩
    rw [hlm] at hv
    have b := (Quiet.one wq).below wq.heap.size
    replace P := P.next b
    replace Q := Q.next b
    replace Z := Z.next b
    replace O := O.next b
    replace MI := MI.next b
    replace KB := jaa KB b
    have zq := b.size
    clear b
    have hwr : IntKind.i64.wrap (36000 - t) = lm := by rw [IntWalk.i64_in _ (by omega)]; exact hlm
    clear hlm
    refine wp_region_held_drew (S := fun w' => w'.cell? ⟨w.heap.size, 0, none⟩ = some (.int .i64 t) ∧ w'.cell? ⟨w.heap.size, 1, none⟩ = some (.bool false) ∧ w'.cell? ⟨go, 0, none⟩ = some (.int .i64 (t + v)) ∧ w'.cell? ⟨go, 1, none⟩ = some (.bool false) ∧ w'.cell? ⟨go, 2, none⟩ = some (.slice A1 n c1) ∧ w'.cell? ⟨w.heap.size + 1, 2, none⟩ = some (.int .i64 v)) (by kernel_rfl) (by (try dsimp only); exact ⟨P.cell 0, P.cell 1, O.cell 0, O.cell 1, O.cell 2, Q.cell 2⟩) (fun hH => ?_)
    generalize wq.drew = wz at *
    have zc := Z.cell
    have zf := Z.frozen
    refine wQ 0 ?_
    refine wQ 1 ?_
    refine wQ 2 ?_
    refine wQ 3 ?_
    refine wQ 4 ?_
    refine wQ 5 ?_
    refine wQ 6 ?_
    refine wQ 7 ?_
    refine wQ 8 ?_
    refine wQ 9 ?_
    refine wQ 10 ?_
    refine wQ 11 ?_
    refine wR (rs := [12]) (by kernel_rfl) (by simp) ?_
    refine aC rfl (fun K hK => ?_) aN
    have EF := ((((Only.refl (fun b => b = w.heap.size + 2) wz).setCell (p := ⟨w.heap.size + 2, 0, none⟩) rfl (.int .i64 (t + v))).setCell (p := ⟨w.heap.size + 2, 1, none⟩) rfl (.bool false)).setCell (p := ⟨w.heap.size + 2, 2, none⟩) rfl (.slice A1 n c1))
    have pk9 : (((wz.setCell ⟨w.heap.size + 2, 0, none⟩ (.int .i64 (t + v))).setCell ⟨w.heap.size + 2, 1, none⟩ (.bool false)).setCell ⟨w.heap.size + 2, 2, none⟩ (.slice A1 n c1)).cell? ⟨w.heap.size, 0, none⟩ = some (.int .i64 t) ∧ (((wz.setCell ⟨w.heap.size + 2, 0, none⟩ (.int .i64 (t + v))).setCell ⟨w.heap.size + 2, 1, none⟩ (.bool false)).setCell ⟨w.heap.size + 2, 2, none⟩ (.slice A1 n c1)).cell? ⟨w.heap.size, 1, none⟩ = some (.bool false) ∧ (((wz.setCell ⟨w.heap.size + 2, 0, none⟩ (.int .i64 (t + v))).setCell ⟨w.heap.size + 2, 1, none⟩ (.bool false)).setCell ⟨w.heap.size + 2, 2, none⟩ (.slice A1 n c1)).cell? ⟨go, 0, none⟩ = some (.int .i64 (t + v)) ∧ (((wz.setCell ⟨w.heap.size + 2, 0, none⟩ (.int .i64 (t + v))).setCell ⟨w.heap.size + 2, 1, none⟩ (.bool false)).setCell ⟨w.heap.size + 2, 2, none⟩ (.slice A1 n c1)).cell? ⟨go, 1, none⟩ = some (.bool false) ∧ (((wz.setCell ⟨w.heap.size + 2, 0, none⟩ (.int .i64 (t + v))).setCell ⟨w.heap.size + 2, 1, none⟩ (.bool false)).setCell ⟨w.heap.size + 2, 2, none⟩ (.slice A1 n c1)).cell? ⟨go, 2, none⟩ = some (.slice A1 n c1) ∧ (((wz.setCell ⟨w.heap.size + 2, 0, none⟩ (.int .i64 (t + v))).setCell ⟨w.heap.size + 2, 1, none⟩ (.bool false)).setCell ⟨w.heap.size + 2, 2, none⟩ (.slice A1 n c1)).cell? ⟨w.heap.size + 1, 2, none⟩ = some (.int .i64 v) := ⟨(P.only EF (fun h => by omega)).cell 0, (P.only EF (fun h => by omega)).cell 1, (O.only EF (fun h => by omega)).cell 0, (O.only EF (fun h => by omega)).cell 1, (O.only EF (fun h => by omega)).cell 2, (Q.only EF (fun h => by omega)).cell 2⟩
    go_simp
    refine hK.out _ _ (by (try dsimp only); exact pk9) (fun hH => ?_)
    clear hK K
    try simp only [Act.put, pX]
    skip
    refine wQ 13 ?_
    refine wD (by kernel_rfl) ?_ _
    have ZF := (((Z.set_ 0 (.int .i64 (t + v))).set_ 1 (.bool false)).set_ 2 (.slice A1 n c1))
    clear zc zf
    have zc := ZF.cell
    go_wp2_with fail
    refine bodyPost_ret (v := .tuple #[.agg #[.int .i64 (t + v), false, .slice A1 n c1], .bool true]) (by simp [results, Tryz.results202, go_sem, zc]) rfl ?_
    rw [HR.out]
    have zs := EF.size
    exact ⟨t + v, false, A1, n, c1, xs, rfl, (MI.only EF (fun b h1 (h2 : b = w.heap.size + 2) => by omega)).inn2 (fun b hb => by omega), (fun r' h => by cases h; rfl), KB.trans (EF.below (fun b hb => by omega) (by omega))⟩
   ·have HR := Lib.hid (show jfb ⟨t, true, xs⟩ k v = none by unfold jfb; rw [if_pos (by exact K1.out), if_neg (fun h => by cases h.1)])
    go_upto_region 4 with fail
    clear oc of qc pc
    skip
    have OF : Blk (wo.setCell ⟨go, 0, none⟩ (.int .i64 (t + v))) go 32 [.int .i64 (t + v), .bool true, .slice A1 n c1] := O.set_ 0 _
    have EO := (Only.refl (fun b => b = go) wo).setCell (p := ⟨go, 0, none⟩) rfl (.int .i64 (t + v))
    replace P := P.only EO (fun h => by omega)
    replace Q := Q.only EO (fun h => by omega)
    replace Z := Z.only EO (fun h => by omega)
    replace KB := KB.trans (EO.below (fun b (hb : b = go) => by omega) KB.size)
    replace MI := MI.only EO (fun b h1 (h2 : b = go) => by omega)
    have zo := EO.size
    clear EO O
    have O := OF
    clear OF
    generalize wo.setCell _ _ = wq at *
    have b := (Quiet.one wq).below wq.heap.size
    replace P := P.next b
    replace Q := Q.next b
    replace Z := Z.next b
    replace O := O.next b
    replace MI := MI.next b
    replace KB := jaa KB b
    have zq := b.size
    clear b
    refine wp_region_held_drew (S := fun w' => w'.cell? ⟨w.heap.size, 0, none⟩ = some (.int .i64 t) ∧ w'.cell? ⟨w.heap.size, 1, none⟩ = some (.bool true) ∧ w'.cell? ⟨go, 0, none⟩ = some (.int .i64 (t + v)) ∧ w'.cell? ⟨go, 1, none⟩ = some (.bool true) ∧ w'.cell? ⟨go, 2, none⟩ = some (.slice A1 n c1) ∧ w'.cell? ⟨w.heap.size + 1, 2, none⟩ = some (.int .i64 v)) (by kernel_rfl) (by (try dsimp only); exact ⟨P.cell 0, P.cell 1, O.cell 0, O.cell 1, O.cell 2, Q.cell 2⟩) (fun hH => ?_)
    generalize wq.drew = wz at *
    have zc := Z.cell
    have zf := Z.frozen
    refine wQ 0 ?_
    refine wQ 1 ?_
    refine wQ 2 ?_
    refine wQ 3 ?_
    refine wQ 4 ?_
    refine wU 5 ?_
    refine wU 6 ?_
    refine wU 7 ?_
    refine wU 8 ?_
    refine wU 9 ?_
    refine wU 10 ?_
    refine wQ 11 ?_
    refine wR (rs := [12]) (by kernel_rfl) (by simp) ?_
    refine aC rfl (fun K hK => ?_) aN
    have EF := ((((Only.refl (fun b => b = w.heap.size + 2) wz).setCell (p := ⟨w.heap.size + 2, 0, none⟩) rfl (.int .i64 (t + v))).setCell (p := ⟨w.heap.size + 2, 1, none⟩) rfl (.bool true)).setCell (p := ⟨w.heap.size + 2, 2, none⟩) rfl (.slice A1 n c1))
    have pk9 : (((wz.setCell ⟨w.heap.size + 2, 0, none⟩ (.int .i64 (t + v))).setCell ⟨w.heap.size + 2, 1, none⟩ (.bool true)).setCell ⟨w.heap.size + 2, 2, none⟩ (.slice A1 n c1)).cell? ⟨w.heap.size, 0, none⟩ = some (.int .i64 t) ∧ (((wz.setCell ⟨w.heap.size + 2, 0, none⟩ (.int .i64 (t + v))).setCell ⟨w.heap.size + 2, 1, none⟩ (.bool true)).setCell ⟨w.heap.size + 2, 2, none⟩ (.slice A1 n c1)).cell? ⟨w.heap.size, 1, none⟩ = some (.bool true) ∧ (((wz.setCell ⟨w.heap.size + 2, 0, none⟩ (.int .i64 (t + v))).setCell ⟨w.heap.size + 2, 1, none⟩ (.bool true)).setCell ⟨w.heap.size + 2, 2, none⟩ (.slice A1 n c1)).cell? ⟨go, 0, none⟩ = some (.int .i64 (t + v)) ∧ (((wz.setCell ⟨w.heap.size + 2, 0, none⟩ (.int .i64 (t + v))).setCell ⟨w.heap.size + 2, 1, none⟩ (.bool true)).setCell ⟨w.heap.size + 2, 2, none⟩ (.slice A1 n c1)).cell? ⟨go, 1, none⟩ = some (.bool true) ∧ (((wz.setCell ⟨w.heap.size + 2, 0, none⟩ (.int .i64 (t + v))).setCell ⟨w.heap.size + 2, 1, none⟩ (.bool true)).setCell ⟨w.heap.size + 2, 2, none⟩ (.slice A1 n c1)).cell? ⟨go, 2, none⟩ = some (.slice A1 n c1) ∧ (((wz.setCell ⟨w.heap.size + 2, 0, none⟩ (.int .i64 (t + v))).setCell ⟨w.heap.size + 2, 1, none⟩ (.bool true)).setCell ⟨w.heap.size + 2, 2, none⟩ (.slice A1 n c1)).cell? ⟨w.heap.size + 1, 2, none⟩ = some (.int .i64 v) := ⟨(P.only EF (fun h => by omega)).cell 0, (P.only EF (fun h => by omega)).cell 1, (O.only EF (fun h => by omega)).cell 0, (O.only EF (fun h => by omega)).cell 1, (O.only EF (fun h => by omega)).cell 2, (Q.only EF (fun h => by omega)).cell 2⟩
    go_simp
    refine hK.out _ _ (by (try dsimp only); exact pk9) (fun hH => ?_)
    clear hK K
    try simp only [Act.put, pX]
    skip
    refine wQ 13 ?_
    refine wD (by kernel_rfl) ?_ _
    have ZF := (((Z.set_ 0 (.int .i64 (t + v))).set_ 1 (.bool true)).set_ 2 (.slice A1 n c1))
    clear zc zf
    have zc := ZF.cell
    go_wp2_with fail
    refine bodyPost_ret (v := .tuple #[.agg #[.int .i64 (t + v), true, .slice A1 n c1], .bool false]) (by simp [results, Tryz.results202, go_sem, zc]) rfl ?_
    rw [HR.out]
    have zs := EF.size
    exact ⟨t + v, true, A1, n, c1, xs, rfl, (MI.only EF (fun b h1 (h2 : b = w.heap.size + 2) => by omega)).inn2 (fun b hb => by omega), (fun r' h => by cases h), KB.trans (EF.below (fun b hb => by omega) (by omega))⟩
  ·cases cl
   ·have HR := Lib.hid (show jfb ⟨t, false, xs⟩ k v = none by unfold jfb; rw [if_pos (by exact K1.out), if_neg (fun h => hv h.2)])
    go_upto_region 4 with fail
    clear oc of qc pc
    obtain ⟨t2, ht2⟩ : ∃ t2, wrap64 (t + v) = t2 := ⟨_, rfl⟩
    rw [ht2]
    clear ht2
    have OF : Blk (wo.setCell ⟨go, 0, none⟩ (.int .i64 (t2))) go 32 [.int .i64 (t2), .bool false, .slice A1 n c1] := O.set_ 0 _
    have EO := (Only.refl (fun b => b = go) wo).setCell (p := ⟨go, 0, none⟩) rfl (.int .i64 (t2))
    replace P := P.only EO (fun h => by omega)
    replace Q := Q.only EO (fun h => by omega)
    replace Z := Z.only EO (fun h => by omega)
    replace KB := KB.trans (EO.below (fun b (hb : b = go) => by omega) KB.size)
    replace MI := MI.only EO (fun b h1 (h2 : b = go) => by omega)
    have zo := EO.size
    clear EO O
    have O := OF
    clear OF
    generalize wo.setCell _ _ = wq at *
    obtain ⟨lm, hlm⟩ : ∃ lm, 36000 - t = lm := ⟨_, rfl⟩
    rw [hlm] at hv
    have b := (Quiet.one wq).below wq.heap.size
    replace P := P.next b
    replace Q := Q.next b
    replace Z := Z.next b
    replace O := O.next b
    replace MI := MI.next b
    replace KB := jaa KB b
    have zq := b.size
    clear b
    have hwr : IntKind.i64.wrap (36000 - t) = lm := by rw [IntWalk.i64_in _ (by omega)]; exact hlm
    clear hlm
    refine wp_region_held_drew (S := fun w' => w'.cell? ⟨w.heap.size, 0, none⟩ = some (.int .i64 t) ∧ w'.cell? ⟨w.heap.size, 1, none⟩ = some (.bool false) ∧ w'.cell? ⟨go, 0, none⟩ = some (.int .i64 (t2)) ∧ w'.cell? ⟨go, 1, none⟩ = some (.bool false) ∧ w'.cell? ⟨go, 2, none⟩ = some (.slice A1 n c1) ∧ w'.cell? ⟨w.heap.size + 1, 2, none⟩ = some (.int .i64 v)) (by kernel_rfl) (by (try dsimp only); exact ⟨P.cell 0, P.cell 1, O.cell 0, O.cell 1, O.cell 2, Q.cell 2⟩) (fun hH => ?_)
    generalize wq.drew = wz at *
    have zc := Z.cell
    have zf := Z.frozen
    refine wQ 0 ?_
    refine wQ 1 ?_
    refine wQ 2 ?_
    refine wQ 3 ?_
    refine wQ 4 ?_
    refine wQ 5 ?_
    refine wQ 6 ?_
    refine wQ 7 ?_
    refine wQ 8 ?_
    refine wQ 9 ?_
    refine wQ 10 ?_
    refine wQ 11 ?_
    refine wR (rs := [12]) (by kernel_rfl) (by simp) ?_
    refine aC rfl (fun K hK => ?_) aN
    have EF := ((((Only.refl (fun b => b = w.heap.size + 2) wz).setCell (p := ⟨w.heap.size + 2, 0, none⟩) rfl (.int .i64 (t2))).setCell (p := ⟨w.heap.size + 2, 1, none⟩) rfl (.bool false)).setCell (p := ⟨w.heap.size + 2, 2, none⟩) rfl (.slice A1 n c1))
    have pk9 : (((wz.setCell ⟨w.heap.size + 2, 0, none⟩ (.int .i64 (t2))).setCell ⟨w.heap.size + 2, 1, none⟩ (.bool false)).setCell ⟨w.heap.size + 2, 2, none⟩ (.slice A1 n c1)).cell? ⟨w.heap.size, 0, none⟩ = some (.int .i64 t) ∧ (((wz.setCell ⟨w.heap.size + 2, 0, none⟩ (.int .i64 (t2))).setCell ⟨w.heap.size + 2, 1, none⟩ (.bool false)).setCell ⟨w.heap.size + 2, 2, none⟩ (.slice A1 n c1)).cell? ⟨w.heap.size, 1, none⟩ = some (.bool false) ∧ (((wz.setCell ⟨w.heap.size + 2, 0, none⟩ (.int .i64 (t2))).setCell ⟨w.heap.size + 2, 1, none⟩ (.bool false)).setCell ⟨w.heap.size + 2, 2, none⟩ (.slice A1 n c1)).cell? ⟨go, 0, none⟩ = some (.int .i64 (t2)) ∧ (((wz.setCell ⟨w.heap.size + 2, 0, none⟩ (.int .i64 (t2))).setCell ⟨w.heap.size + 2, 1, none⟩ (.bool false)).setCell ⟨w.heap.size + 2, 2, none⟩ (.slice A1 n c1)).cell? ⟨go, 1, none⟩ = some (.bool false) ∧ (((wz.setCell ⟨w.heap.size + 2, 0, none⟩ (.int .i64 (t2))).setCell ⟨w.heap.size + 2, 1, none⟩ (.bool false)).setCell ⟨w.heap.size + 2, 2, none⟩ (.slice A1 n c1)).cell? ⟨go, 2, none⟩ = some (.slice A1 n c1) ∧ (((wz.setCell ⟨w.heap.size + 2, 0, none⟩ (.int .i64 (t2))).setCell ⟨w.heap.size + 2, 1, none⟩ (.bool false)).setCell ⟨w.heap.size + 2, 2, none⟩ (.slice A1 n c1)).cell? ⟨w.heap.size + 1, 2, none⟩ = some (.int .i64 v) := ⟨(P.only EF (fun h => by omega)).cell 0, (P.only EF (fun h => by omega)).cell 1, (O.only EF (fun h => by omega)).cell 0, (O.only EF (fun h => by omega)).cell 1, (O.only EF (fun h => by omega)).cell 2, (Q.only EF (fun h => by omega)).cell 2⟩
    go_simp
    refine hK.out _ _ (by (try dsimp only); exact pk9) (fun hH => ?_)
    clear hK K
    try simp only [Act.put, pX]
    skip
    refine wQ 13 ?_
    refine wD (by kernel_rfl) ?_ _
    have ZF := (((Z.set_ 0 (.int .i64 (t2))).set_ 1 (.bool false)).set_ 2 (.slice A1 n c1))
    clear zc zf
    have zc := ZF.cell
    go_wp2_with fail
    refine bodyPost_ret (v := .tuple #[.agg #[.int .i64 (t2), false, .slice A1 n c1], .bool false]) (by simp [results, Tryz.results202, go_sem, zc]) rfl ?_
    rw [HR.out]
    have zs := EF.size
    exact ⟨t2, false, A1, n, c1, xs, rfl, (MI.only EF (fun b h1 (h2 : b = w.heap.size + 2) => by omega)).inn2 (fun b hb => by omega), (fun r' h => by cases h), KB.trans (EF.below (fun b hb => by omega) (by omega))⟩
   ·have HR := Lib.hid (show jfb ⟨t, true, xs⟩ k v = none by unfold jfb; rw [if_pos (by exact K1.out), if_neg (fun h => by cases h.1)])
    go_upto_region 4 with fail
    clear oc of qc pc
    obtain ⟨t2, ht2⟩ : ∃ t2, wrap64 (t + v) = t2 := ⟨_, rfl⟩
    rw [ht2]
    clear ht2
    have OF : Blk (wo.setCell ⟨go, 0, none⟩ (.int .i64 (t2))) go 32 [.int .i64 (t2), .bool true, .slice A1 n c1] := O.set_ 0 _
    have EO := (Only.refl (fun b => b = go) wo).setCell (p := ⟨go, 0, none⟩) rfl (.int .i64 (t2))
    replace P := P.only EO (fun h => by omega)
    replace Q := Q.only EO (fun h => by omega)
    replace Z := Z.only EO (fun h => by omega)
    replace KB := KB.trans (EO.below (fun b (hb : b = go) => by omega) KB.size)
    replace MI := MI.only EO (fun b h1 (h2 : b = go) => by omega)
    have zo := EO.size
    clear EO O
    have O := OF
    clear OF
    generalize wo.setCell _ _ = wq at *
    have b := (Quiet.one wq).below wq.heap.size
    replace P := P.next b
    replace Q := Q.next b
    replace Z := Z.next b
    replace O := O.next b
    replace MI := MI.next b
    replace KB := jaa KB b
    have zq := b.size
    clear b
    refine wp_region_held_drew (S := fun w' => w'.cell? ⟨w.heap.size, 0, none⟩ = some (.int .i64 t) ∧ w'.cell? ⟨w.heap.size, 1, none⟩ = some (.bool true) ∧ w'.cell? ⟨go, 0, none⟩ = some (.int .i64 (t2)) ∧ w'.cell? ⟨go, 1, none⟩ = some (.bool true) ∧ w'.cell? ⟨go, 2, none⟩ = some (.slice A1 n c1) ∧ w'.cell? ⟨w.heap.size + 1, 2, none⟩ = some (.int .i64 v)) (by kernel_rfl) (by (try dsimp only); exact ⟨P.cell 0, P.cell 1, O.cell 0, O.cell 1, O.cell 2, Q.cell 2⟩) (fun hH => ?_)
    generalize wq.drew = wz at *
    have zc := Z.cell
    have zf := Z.frozen
    refine wQ 0 ?_
    refine wQ 1 ?_
    refine wQ 2 ?_
    refine wQ 3 ?_
    refine wQ 4 ?_
    refine wU 5 ?_
    refine wU 6 ?_
    refine wU 7 ?_
    refine wU 8 ?_
    refine wU 9 ?_
    refine wU 10 ?_
    refine wQ 11 ?_
    refine wR (rs := [12]) (by kernel_rfl) (by simp) ?_
    refine aC rfl (fun K hK => ?_) aN
    have EF := ((((Only.refl (fun b => b = w.heap.size + 2) wz).setCell (p := ⟨w.heap.size + 2, 0, none⟩) rfl (.int .i64 (t2))).setCell (p := ⟨w.heap.size + 2, 1, none⟩) rfl (.bool true)).setCell (p := ⟨w.heap.size + 2, 2, none⟩) rfl (.slice A1 n c1))
    have pk9 : (((wz.setCell ⟨w.heap.size + 2, 0, none⟩ (.int .i64 (t2))).setCell ⟨w.heap.size + 2, 1, none⟩ (.bool true)).setCell ⟨w.heap.size + 2, 2, none⟩ (.slice A1 n c1)).cell? ⟨w.heap.size, 0, none⟩ = some (.int .i64 t) ∧ (((wz.setCell ⟨w.heap.size + 2, 0, none⟩ (.int .i64 (t2))).setCell ⟨w.heap.size + 2, 1, none⟩ (.bool true)).setCell ⟨w.heap.size + 2, 2, none⟩ (.slice A1 n c1)).cell? ⟨w.heap.size, 1, none⟩ = some (.bool true) ∧ (((wz.setCell ⟨w.heap.size + 2, 0, none⟩ (.int .i64 (t2))).setCell ⟨w.heap.size + 2, 1, none⟩ (.bool true)).setCell ⟨w.heap.size + 2, 2, none⟩ (.slice A1 n c1)).cell? ⟨go, 0, none⟩ = some (.int .i64 (t2)) ∧ (((wz.setCell ⟨w.heap.size + 2, 0, none⟩ (.int .i64 (t2))).setCell ⟨w.heap.size + 2, 1, none⟩ (.bool true)).setCell ⟨w.heap.size + 2, 2, none⟩ (.slice A1 n c1)).cell? ⟨go, 1, none⟩ = some (.bool true) ∧ (((wz.setCell ⟨w.heap.size + 2, 0, none⟩ (.int .i64 (t2))).setCell ⟨w.heap.size + 2, 1, none⟩ (.bool true)).setCell ⟨w.heap.size + 2, 2, none⟩ (.slice A1 n c1)).cell? ⟨go, 2, none⟩ = some (.slice A1 n c1) ∧ (((wz.setCell ⟨w.heap.size + 2, 0, none⟩ (.int .i64 (t2))).setCell ⟨w.heap.size + 2, 1, none⟩ (.bool true)).setCell ⟨w.heap.size + 2, 2, none⟩ (.slice A1 n c1)).cell? ⟨w.heap.size + 1, 2, none⟩ = some (.int .i64 v) := ⟨(P.only EF (fun h => by omega)).cell 0, (P.only EF (fun h => by omega)).cell 1, (O.only EF (fun h => by omega)).cell 0, (O.only EF (fun h => by omega)).cell 1, (O.only EF (fun h => by omega)).cell 2, (Q.only EF (fun h => by omega)).cell 2⟩
    go_simp
    refine hK.out _ _ (by (try dsimp only); exact pk9) (fun hH => ?_)
    clear hK K
    try simp only [Act.put, pX]
    skip
    refine wQ 13 ?_
    refine wD (by kernel_rfl) ?_ _
    have ZF := (((Z.set_ 0 (.int .i64 (t2))).set_ 1 (.bool true)).set_ 2 (.slice A1 n c1))
    clear zc zf
    have zc := ZF.cell
    go_wp2_with fail
    refine bodyPost_ret (v := .tuple #[.agg #[.int .i64 (t2), true, .slice A1 n c1], .bool false]) (by simp [results, Tryz.results202, go_sem, zc]) rfl ?_
    rw [HR.out]
    have zs := EF.size
    exact ⟨t2, true, A1, n, c1, xs, rfl, (MI.only EF (fun b h1 (h2 : b = w.heap.size + 2) => by omega)).inn2 (fun b hb => by omega), (fun r' h => by cases h), KB.trans (EF.below (fun b hb => by omega) (by omega))⟩
 ·have f1 : (k == 1) = false := beq_eq_false_iff_ne.2 k1
  have HR0 := Lib.hid (show jfb ⟨t, cl, xs⟩ k v = if cl = false ∧ (inL xs 1).length = 0 then some ⟨t, true, jb1 xs⟩ else none by unfold jfb; rw [if_neg k1])
  clear k1 hv1
  have OFF : Blk (wo.setCell ⟨go, 1, none⟩ (.bool true)) go 32 [.int .i64 t, .bool true, .slice A1 n c1] := O.set_ 1 _
  go_upto_region 6 with fail
  clear oc of qc pc
  have EO := (Only.refl (fun b => b = go) wo).setCell (p := ⟨go, 1, none⟩) rfl (.bool true)
  replace P := P.only EO (fun h => by omega)
  replace Z := Z.only EO (fun h => by omega)
  replace KB := KB.trans (EO.below (fun b (hb : b = go) => by omega) KB.size)
  replace MI := MI.only EO (fun b h1 (h2 : b = go) => by omega)
  have zo := EO.size
  clear EO O Q
  have O := OFF
  clear OFF
  generalize wo.setCell _ _ = wq at *
  obtain ⟨rs, hrs, MR⟩ := MI
  have zq : go + 1 ≤ wq.heap.size := by omega
  have hln : xs.length ≤ n := by have := HLN.out; omega
  have hln2 : n ≤ xs.length := by have := HLN.out; omega
  go_wp2_with fail
  go_loopw [7] (fun iv wr => ∃ (i : Nat) (rq : List (Hd Entrant)), i ≤ n ∧ iv = .int .i64 (i : Int) ∧ Blk wr go 32 [.int .i64 t, .bool true, .slice A1 n c1] ∧ Blk wr w.heap.size 32 [.int .i64 t, .bool cl, .slice A n c] ∧ Blk wr (w.heap.size + 2) 32 [.int .i64 0, .bool false, .slice none 0 0] ∧ MineR entrantSh wr (fun b => w1.heap.size ≤ b ∧ b < go) 108 188 A1 n c1 rq ∧ Hid (rq.map Hd.x = jca xs i) ∧ go + 1 ≤ wr.heap.size ∧ Below w.heap.size w wr) (fun iv _ => n - (intOf iv).toNat)
  case atStart => exact ⟨0, rs, Nat.zero_le _, rfl, O, P, Z, MR, Lib.hid (by rw [hrs, jl0]), zq, KB⟩
  case round =>
   clear O P Z MR hrs zq KB
   obtain ⟨i, rq, hiq, rfl, O, P, Z, MR, HX, zq, KB⟩ := hrel
   by_cases hlt : i < n
   ·have hix : i < xs.length := by omega
    obtain ⟨ga, cur, x, Bp, m, d, rfl, hga, C, ⟨hk, hri⟩, hlc0, hc0, hc1, hc2, hc3, hc4⟩ := MR.ent hlt
    have hxi : xs[i] = x := by
     have h1 : (rq.map Hd.x)[i]? = some x := by rw [List.getElem?_map, List.getElem?_eq_getElem hk, hri]; rfl
     rw [HX.out, List.getElem?_eq_getElem (by rw [jfi]; exact hix), jek xs i hix, if_neg (Nat.lt_irrefl _)] at h1
     injection h1
    have HN0 := Lib.hid (jgy xs hix)
    have hlti : (i : Int) < (n : Int) := by omega
    have oc := O.cell
    have e0 := (C.cell (i * 5)).trans hc0
    by_cases s0 : x.state = 0
    rotate_left 1
    ·have f2 : (x.state == 0) = false := beq_eq_false_iff_ne.2 s0
     have HNX := Lib.hid (show rq.map Hd.x = jca xs (i + 1) by rw [HX.out, jl2 xs hix (by rw [hxi]; exact s0)])
     clear s0 hxi HX HN0
     go_wp2_with fail
     go_roundw
     case rel => exact ⟨i + 1, rq, by omega, by go_num, O, P, Z, MR, HNX, zq, KB⟩
     case measure => simp [intOf]; omega
    have f2 : (x.state == 0) = true := beq_iff_eq.2 s0
    have HNX := Lib.hid (show (rq.set i ⟨jni x, Bp, m, d⟩).map Hd.x = jca xs (i + 1) by rw [List.map_set, HX.out, HN0.out, hxi]; unfold jfv; rw [if_pos s0])
    have S0 := Lib.hid s0
    clear s0 hxi
    go_upto_region 10 with fail
    clear oc e0
    have b := (Quiet.one wr).below wr.heap.size
    replace O := O.next b
    replace P := P.next b
    replace Z := Z.next b
    replace C := C.next b
    replace MR := MR.next b
    replace KB := jaa KB b
    have zb := b.size
    clear b
    refine wp_region_held_drew (S := fun w' => w'.cell? ⟨go, 2, none⟩ = some (.slice (some ⟨ga, 0, none⟩) n c1) ∧ w'.cell? ⟨ga, i * 5 + 1, none⟩ = some (.int .i64 x.number) ∧ w'.cell? ⟨ga, i * 5 + 2, none⟩ = some (.int .i64 x.start) ∧ w'.cell? ⟨ga, i * 5 + 3, none⟩ = some (.int .i64 x.finish) ∧ w'.cell? ⟨ga, i * 5 + 4, none⟩ = some (.slice Bp m d)) (by kernel_rfl) (by (try dsimp only); exact ⟨O.cell 2, (C.cell (i * 5 + 1)).trans hc1, (C.cell (i * 5 + 2)).trans hc2, (C.cell (i * 5 + 3)).trans hc3, (C.cell (i * 5 + 4)).trans hc4⟩) (fun hH => ?_)
    generalize wr.drew = wz at *
    refine wQ 0 ?_
    refine wQ 1 ?_
    refine wQ 2 ?_
    refine wQ 3 ?_
    refine wQ 4 ?_
    refine wQ 5 ?_
    refine wQ 6 ?_
    refine wQ 7 ?_
    refine wQ 8 ?_
    refine wQ 9 ?_
    refine wQ 10 ?_
    refine wR (rs := [11]) (by kernel_rfl) (by simp) ?_
    refine aC rfl (fun K hK => ?_) aN
    have cf := C.frozen
    have e0 := (C.cell (i * 5)).trans hc0
    have EF := ((((((Only.refl (fun b => b = ga) wz).setCell (p := ⟨ga, i * 5, none⟩) rfl (.int .i64 4)).setCell (p := ⟨ga, i * 5 + 1, none⟩) rfl (.int .i64 x.number)).setCell (p := ⟨ga, i * 5 + 2, none⟩) rfl (.int .i64 x.start)).setCell (p := ⟨ga, i * 5 + 3, none⟩) rfl (.int .i64 x.finish)).setCell (p := ⟨ga, i * 5 + 4, none⟩) rfl (.slice Bp m d))
    have CF := (((((C.set_ (i * 5) (.int .i64 4)).set_ (i * 5 + 1) (.int .i64 x.number)).set_ (i * 5 + 2) (.int .i64 x.start)).set_ (i * 5 + 3) (.int .i64 x.finish)).set_ (i * 5 + 4) (.slice Bp m d))
    have pk9 : (((((wz.setCell ⟨ga, i * 5, none⟩ (.int .i64 4)).setCell ⟨ga, i * 5 + 1, none⟩ (.int .i64 x.number)).setCell ⟨ga, i * 5 + 2, none⟩ (.int .i64 x.start)).setCell ⟨ga, i * 5 + 3, none⟩ (.int .i64 x.finish)).setCell ⟨ga, i * 5 + 4, none⟩ (.slice Bp m d)).cell? ⟨go, 2, none⟩ = some (.slice (some ⟨ga, 0, none⟩) n c1) ∧ (((((wz.setCell ⟨ga, i * 5, none⟩ (.int .i64 4)).setCell ⟨ga, i * 5 + 1, none⟩ (.int .i64 x.number)).setCell ⟨ga, i * 5 + 2, none⟩ (.int .i64 x.start)).setCell ⟨ga, i * 5 + 3, none⟩ (.int .i64 x.finish)).setCell ⟨ga, i * 5 + 4, none⟩ (.slice Bp m d)).cell? ⟨ga, i * 5 + 1, none⟩ = some (.int .i64 x.number) ∧ (((((wz.setCell ⟨ga, i * 5, none⟩ (.int .i64 4)).setCell ⟨ga, i * 5 + 1, none⟩ (.int .i64 x.number)).setCell ⟨ga, i * 5 + 2, none⟩ (.int .i64 x.start)).setCell ⟨ga, i * 5 + 3, none⟩ (.int .i64 x.finish)).setCell ⟨ga, i * 5 + 4, none⟩ (.slice Bp m d)).cell? ⟨ga, i * 5 + 2, none⟩ = some (.int .i64 x.start) ∧ (((((wz.setCell ⟨ga, i * 5, none⟩ (.int .i64 4)).setCell ⟨ga, i * 5 + 1, none⟩ (.int .i64 x.number)).setCell ⟨ga, i * 5 + 2, none⟩ (.int .i64 x.start)).setCell ⟨ga, i * 5 + 3, none⟩ (.int .i64 x.finish)).setCell ⟨ga, i * 5 + 4, none⟩ (.slice Bp m d)).cell? ⟨ga, i * 5 + 3, none⟩ = some (.int .i64 x.finish) ∧ (((((wz.setCell ⟨ga, i * 5, none⟩ (.int .i64 4)).setCell ⟨ga, i * 5 + 1, none⟩ (.int .i64 x.number)).setCell ⟨ga, i * 5 + 2, none⟩ (.int .i64 x.start)).setCell ⟨ga, i * 5 + 3, none⟩ (.int .i64 x.finish)).setCell ⟨ga, i * 5 + 4, none⟩ (.slice Bp m d)).cell? ⟨ga, i * 5 + 4, none⟩ = some (.slice Bp m d) := ⟨(O.only EF (fun h => by omega)).cell 2, (CF.cell (i * 5 + 1)).trans ((List.getElem?_set_ne (show i * 5 + 4 ≠ i * 5 + 1 by omega)).trans ((List.getElem?_set_ne (show i * 5 + 3 ≠ i * 5 + 1 by omega)).trans ((List.getElem?_set_ne (show i * 5 + 2 ≠ i * 5 + 1 by omega)).trans (List.getElem?_set_self (by (try simp only [List.length_set]); omega))))), (CF.cell (i * 5 + 2)).trans ((List.getElem?_set_ne (show i * 5 + 4 ≠ i * 5 + 2 by omega)).trans ((List.getElem?_set_ne (show i * 5 + 3 ≠ i * 5 + 2 by omega)).trans (List.getElem?_set_self (by (try simp only [List.length_set]); omega)))), (CF.cell (i * 5 + 3)).trans ((List.getElem?_set_ne (show i * 5 + 4 ≠ i * 5 + 3 by omega)).trans (List.getElem?_set_self (by (try simp only [List.length_set]); omega))), (CF.cell (i * 5 + 4)).trans (List.getElem?_set_self (by (try simp only [List.length_set]); omega))⟩
    go_simp
    refine hK.out _ _ (by (try dsimp only); exact pk9) (fun hH => ?_)
    clear hK K
    try simp only [Act.put, pX]
    skip
    refine wD (by kernel_rfl) ?_ _
    have MF := MR.turn (y := jni x) C hk (by rw [hri]; rfl) EF CF (by simp only [List.length_set]) (by rw [hri]; exact (by
      intro z hz
      have hz5 : z < 5 := hz
      have hlt0 : i * 5 < cur.length := by omega
      have hlt1 : i * 5 + 1 < cur.length := by omega
      have hlt2 : i * 5 + 2 < cur.length := by omega
      have hlt3 : i * 5 + 3 < cur.length := by omega
      have hlt4 : i * 5 + 4 < cur.length := by omega
      match z, hz5 with
      | 0, _ => exact ((List.getElem?_set_ne (show i * 5 + 4 ≠ i * 5 + 0 by omega)).trans ((List.getElem?_set_ne (show i * 5 + 3 ≠ i * 5 + 0 by omega)).trans ((List.getElem?_set_ne (show i * 5 + 2 ≠ i * 5 + 0 by omega)).trans ((List.getElem?_set_ne (show i * 5 + 1 ≠ i * 5 + 0 by omega)).trans (List.getElem?_set_self (by (try simp only [List.length_set]); exact hlt0))))))
      | 1, _ => exact ((List.getElem?_set_ne (show i * 5 + 4 ≠ i * 5 + 1 by omega)).trans ((List.getElem?_set_ne (show i * 5 + 3 ≠ i * 5 + 1 by omega)).trans ((List.getElem?_set_ne (show i * 5 + 2 ≠ i * 5 + 1 by omega)).trans (List.getElem?_set_self (by (try simp only [List.length_set]); exact hlt1)))))
      | 2, _ => exact ((List.getElem?_set_ne (show i * 5 + 4 ≠ i * 5 + 2 by omega)).trans ((List.getElem?_set_ne (show i * 5 + 3 ≠ i * 5 + 2 by omega)).trans (List.getElem?_set_self (by (try simp only [List.length_set]); exact hlt2))))
      | 3, _ => exact ((List.getElem?_set_ne (show i * 5 + 4 ≠ i * 5 + 3 by omega)).trans (List.getElem?_set_self (by (try simp only [List.length_set]); exact hlt3)))
      | 4, _ => exact (List.getElem?_set_self (by (try simp only [List.length_set]); exact hlt4)))) (fun z hz => by
     have hz5 : ¬ (i * 5 ≤ z ∧ z < i * 5 + 5) := hz
     rw [List.getElem?_set_ne (by omega), List.getElem?_set_ne (by omega), List.getElem?_set_ne (by omega), List.getElem?_set_ne (by omega), List.getElem?_set_ne (by omega)])
    have OF := O.only EF (fun h => by omega)
    have PF := P.only EF (fun h => by omega)
    have ZF := Z.only EF (fun h => by omega)
    have KF := KB.trans (EF.below (fun b hb => by omega) KB.size)
    have zs := EF.size
    rw [hri] at MF
    clear HX HN0
    go_wp2_with fail
    go_roundw
    case rel => exact ⟨i + 1, rq.set i ⟨jni x, Bp, m, d⟩, by omega, by go_num, OF, PF, ZF, MF, HNX, by omega, KF⟩
    case measure => simp [intOf]; omega
   ·obtain rfl : i = n := by omega
    have hlti : ¬ (i : Int) < (i : Int) := by omega
    have HE := Lib.hid (show rq.map Hd.x = jb1 xs by rw [HX.out, show i = xs.length by omega, jmq])
    have MI : MineN entrantSh wr (fun b => w1.heap.size ≤ b ∧ b < go) 108 188 A1 i c1 (jb1 xs) := ⟨rq, HE.out, MR⟩
    clear MR HX HE
    have oc := O.cell
    go_upto_region 11 with fail
    clear oc
    obtain ⟨wq, rfl⟩ : ∃ w' : World, w' = wr := ⟨_, rfl⟩
    obtain ⟨L1, hL1⟩ : ∃ L, inL xs 1 = L := ⟨_, rfl⟩
    have HL1 := Lib.hid hL1
    rw [hL1] at HR0
    have hL1n : L1.length ≤ 8 := by rw [← hL1]; exact Nat.le_trans (jhm _ _ _) (by omega)
    clear hL1
    cases cl
    rotate_left 1
    ·have HR := Lib.hid (show jfb ⟨t, true, xs⟩ k v = none by rw [HR0.out, if_neg (fun h => by cases h.1)])
     have b := (Quiet.one wq).below wq.heap.size
     replace P := P.next b
     replace Z := Z.next b
     replace O := O.next b
     replace MI := MI.next b
     replace KB := jaa KB b
     have zq := b.size
     clear b
     refine wp_region_held_drew (S := fun w' => w'.cell? ⟨go, 0, none⟩ = some (.int .i64 t) ∧ w'.cell? ⟨go, 1, none⟩ = some (.bool true) ∧ w'.cell? ⟨go, 2, none⟩ = some (.slice A1 i c1) ∧ w'.cell? ⟨w.heap.size, 0, none⟩ = some (.int .i64 t) ∧ w'.cell? ⟨w.heap.size, 1, none⟩ = some (.bool true) ∧ w'.cell? ⟨w.heap.size, 2, none⟩ = some (.slice A i c)) (by kernel_rfl) (by (try dsimp only); first | exact ⟨O.cell 0, O.cell 1, O.cell 2, P.cell 0, P.cell 1, P.cell 2⟩ | exact pk9) (fun hH => ?_)
     generalize wq.drew = wz at *
     have zc := Z.cell
     have zf := Z.frozen
     refine wQ 0 ?_
     refine wQ 1 ?_
     refine wQ 2 ?_
     refine wQ 3 ?_
     refine wQ 4 ?_
     refine wU 5 ?_
     refine wU 6 ?_
     refine wU 7 ?_
     refine wU 8 ?_
     refine wQ 9 ?_
     refine wR (rs := [10]) (by kernel_rfl) (by simp) ?_
     refine aC rfl (fun K hK => ?_) aN
     have EF := ((((Only.refl (fun b => b = w.heap.size + 2) wz).setCell (p := ⟨w.heap.size + 2, 0, none⟩) rfl (.int .i64 (t))).setCell (p := ⟨w.heap.size + 2, 1, none⟩) rfl (.bool true)).setCell (p := ⟨w.heap.size + 2, 2, none⟩) rfl (.slice A1 i c1))
     have pk10 : (((wz.setCell ⟨w.heap.size + 2, 0, none⟩ (.int .i64 (t))).setCell ⟨w.heap.size + 2, 1, none⟩ (.bool true)).setCell ⟨w.heap.size + 2, 2, none⟩ (.slice A1 i c1)).cell? ⟨go, 0, none⟩ = some (.int .i64 t) ∧ (((wz.setCell ⟨w.heap.size + 2, 0, none⟩ (.int .i64 (t))).setCell ⟨w.heap.size + 2, 1, none⟩ (.bool true)).setCell ⟨w.heap.size + 2, 2, none⟩ (.slice A1 i c1)).cell? ⟨go, 1, none⟩ = some (.bool true) ∧ (((wz.setCell ⟨w.heap.size + 2, 0, none⟩ (.int .i64 (t))).setCell ⟨w.heap.size + 2, 1, none⟩ (.bool true)).setCell ⟨w.heap.size + 2, 2, none⟩ (.slice A1 i c1)).cell? ⟨go, 2, none⟩ = some (.slice A1 i c1) ∧ (((wz.setCell ⟨w.heap.size + 2, 0, none⟩ (.int .i64 (t))).setCell ⟨w.heap.size + 2, 1, none⟩ (.bool true)).setCell ⟨w.heap.size + 2, 2, none⟩ (.slice A1 i c1)).cell? ⟨w.heap.size, 0, none⟩ = some (.int .i64 t) ∧ (((wz.setCell ⟨w.heap.size + 2, 0, none⟩ (.int .i64 (t))).setCell ⟨w.heap.size + 2, 1, none⟩ (.bool true)).setCell ⟨w.heap.size + 2, 2, none⟩ (.slice A1 i c1)).cell? ⟨w.heap.size, 1, none⟩ = some (.bool true) ∧ (((wz.setCell ⟨w.heap.size + 2, 0, none⟩ (.int .i64 (t))).setCell ⟨w.heap.size + 2, 1, none⟩ (.bool true)).setCell ⟨w.heap.size + 2, 2, none⟩ (.slice A1 i c1)).cell? ⟨w.heap.size, 2, none⟩ = some (.slice A i c) := ⟨(O.only EF (fun h => by omega)).cell 0, (O.only EF (fun h => by omega)).cell 1, (O.only EF (fun h => by omega)).cell 2, (P.only EF (fun h => by omega)).cell 0, (P.only EF (fun h => by omega)).cell 1, (P.only EF (fun h => by omega)).cell 2⟩
     go_simp
     refine hK.out _ _ (by (try dsimp only); exact pk10) (fun hH => ?_)
     clear hK K
     try simp only [Act.put, pX]
     skip
     refine wQ 11 ?_
     refine wD (by kernel_rfl) ?_ _
     have ZF := (((Z.set_ 0 (.int .i64 (t))).set_ 1 (.bool true)).set_ 2 (.slice A1 i c1))
     clear zc zf
     have zc := ZF.cell
     go_wp2_with fail
     refine bodyPost_ret (v := .tuple #[.agg #[.int .i64 (t), true, .slice A1 i c1], .bool false]) (by simp [results, Tryz.results202, go_sem, zc]) rfl ?_
     rw [HR.out]
     have zs := EF.size
     exact ⟨t, true, A1, i, c1, jb1 xs, rfl, (MI.only EF (fun b h1 (h2 : b = w.heap.size + 2) => by omega)).inn2 (fun b hb => by omega), (fun r' h => by cases h), KB.trans (EF.below (fun b hb => by omega) (by omega))⟩
    by_cases l0 : L1.length = 0
    ·have HR := Lib.hid (show jfb ⟨t, false, xs⟩ k v = some ⟨t, true, jb1 xs⟩ by rw [HR0.out, if_pos ⟨rfl, l0⟩])
     have f3 : ((L1.length : Int) == 0) = true := beq_iff_eq.2 (by omega)
     clear l0
     have b := (Quiet.one wq).below wq.heap.size
     replace P := P.next b
     replace Z := Z.next b
     replace O := O.next b
     replace MI := MI.next b
     replace KB := jaa KB b
     have zq := b.size
     clear b
     refine wp_region_held_drew (S := fun w' => w'.cell? ⟨go, 0, none⟩ = some (.int .i64 t) ∧ w'.cell? ⟨go, 1, none⟩ = some (.bool true) ∧ w'.cell? ⟨go, 2, none⟩ = some (.slice A1 i c1) ∧ w'.cell? ⟨w.heap.size, 0, none⟩ = some (.int .i64 t) ∧ w'.cell? ⟨w.heap.size, 1, none⟩ = some (.bool false) ∧ w'.cell? ⟨w.heap.size, 2, none⟩ = some (.slice A i c)) (by kernel_rfl) (by (try dsimp only); first | exact ⟨O.cell 0, O.cell 1, O.cell 2, P.cell 0, P.cell 1, P.cell 2⟩ | exact pk9) (fun hH => ?_)
     generalize wq.drew = wz at *
     have zc := Z.cell
     have zf := Z.frozen
     refine wQ 0 ?_
     refine wQ 1 ?_
     refine wQ 2 ?_
     refine wQ 3 ?_
     refine wQ 4 ?_
     refine wQ 5 ?_
     refine wR (rs := [6]) (by kernel_rfl) (by simp) ?_
     refine aC rfl (fun K hK => ?_) aN
     go_simp
     refine (jgn t false A i c 0 xs _ (hx.below KB (Nat.le_refl _)) (by omega)).mono ?_
     rw [HL1.out]
     rintro e9 w9 ⟨A9, c9, rfl, o9, b⟩
     replace KB := jaa KB b
     replace P := P.next b
     replace O := O.next b
     replace Z := Z.next b
     replace MI := MI.next b
     have zq9 := b.size
     clear b o9
     have zc := Z.cell
     have zf := Z.frozen
     have pk9 : w9.cell? ⟨go, 0, none⟩ = some (.int .i64 t) ∧ w9.cell? ⟨go, 1, none⟩ = some (.bool true) ∧ w9.cell? ⟨go, 2, none⟩ = some (.slice A1 i c1) ∧ w9.cell? ⟨w.heap.size, 0, none⟩ = some (.int .i64 t) ∧ w9.cell? ⟨w.heap.size, 1, none⟩ = some (.bool false) ∧ w9.cell? ⟨w.heap.size, 2, none⟩ = some (.slice A i c) := ⟨O.cell 0, O.cell 1, O.cell 2, P.cell 0, P.cell 1, P.cell 2⟩
     go_wp2_with fail
     refine hK.out _ _ (by (try dsimp only); first | exact ⟨O.cell 0, O.cell 1, O.cell 2, P.cell 0, P.cell 1, P.cell 2⟩ | exact pk9) (fun hH => ?_)
     clear hK K
     refine wQ 7 ?_
     refine wQ 8 ?_
     refine wQ 9 ?_
     refine wR (rs := [10]) (by kernel_rfl) (by simp) ?_
     refine aC rfl (fun K hK => ?_) aN
     have EF := ((((Only.refl (fun b => b = w.heap.size + 2) w9).setCell (p := ⟨w.heap.size + 2, 0, none⟩) rfl (.int .i64 (t))).setCell (p := ⟨w.heap.size + 2, 1, none⟩) rfl (.bool true)).setCell (p := ⟨w.heap.size + 2, 2, none⟩) rfl (.slice A1 i c1))
     have pk10 : (((w9.setCell ⟨w.heap.size + 2, 0, none⟩ (.int .i64 (t))).setCell ⟨w.heap.size + 2, 1, none⟩ (.bool true)).setCell ⟨w.heap.size + 2, 2, none⟩ (.slice A1 i c1)).cell? ⟨go, 0, none⟩ = some (.int .i64 t) ∧ (((w9.setCell ⟨w.heap.size + 2, 0, none⟩ (.int .i64 (t))).setCell ⟨w.heap.size + 2, 1, none⟩ (.bool true)).setCell ⟨w.heap.size + 2, 2, none⟩ (.slice A1 i c1)).cell? ⟨go, 1, none⟩ = some (.bool true) ∧ (((w9.setCell ⟨w.heap.size + 2, 0, none⟩ (.int .i64 (t))).setCell ⟨w.heap.size + 2, 1, none⟩ (.bool true)).setCell ⟨w.heap.size + 2, 2, none⟩ (.slice A1 i c1)).cell? ⟨go, 2, none⟩ = some (.slice A1 i c1) ∧ (((w9.setCell ⟨w.heap.size + 2, 0, none⟩ (.int .i64 (t))).setCell ⟨w.heap.size + 2, 1, none⟩ (.bool true)).setCell ⟨w.heap.size + 2, 2, none⟩ (.slice A1 i c1)).cell? ⟨w.heap.size, 0, none⟩ = some (.int .i64 t) ∧ (((w9.setCell ⟨w.heap.size + 2, 0, none⟩ (.int .i64 (t))).setCell ⟨w.heap.size + 2, 1, none⟩ (.bool true)).setCell ⟨w.heap.size + 2, 2, none⟩ (.slice A1 i c1)).cell? ⟨w.heap.size, 1, none⟩ = some (.bool false) ∧ (((w9.setCell ⟨w.heap.size + 2, 0, none⟩ (.int .i64 (t))).setCell ⟨w.heap.size + 2, 1, none⟩ (.bool true)).setCell ⟨w.heap.size + 2, 2, none⟩ (.slice A1 i c1)).cell? ⟨w.heap.size, 2, none⟩ = some (.slice A i c) := ⟨(O.only EF (fun h => by omega)).cell 0, (O.only EF (fun h => by omega)).cell 1, (O.only EF (fun h => by omega)).cell 2, (P.only EF (fun h => by omega)).cell 0, (P.only EF (fun h => by omega)).cell 1, (P.only EF (fun h => by omega)).cell 2⟩
     go_simp
     refine hK.out _ _ (by (try dsimp only); exact pk10) (fun hH => ?_)
     clear hK K
     try simp only [Act.put, pX]
     skip
     refine wQ 11 ?_
     refine wD (by kernel_rfl) ?_ _
     have ZF := (((Z.set_ 0 (.int .i64 (t))).set_ 1 (.bool true)).set_ 2 (.slice A1 i c1))
     clear zc zf
     have zc := ZF.cell
     go_wp2_with fail
     refine bodyPost_ret (v := .tuple #[.agg #[.int .i64 (t), true, .slice A1 i c1], .bool true]) (by simp [results, Tryz.results202, go_sem, zc]) rfl ?_
     rw [HR.out]
     have zs := EF.size
     exact ⟨t, true, A1, i, c1, jb1 xs, rfl, (MI.only EF (fun b h1 (h2 : b = w.heap.size + 2) => by omega)).inn2 (fun b hb => by omega), (fun r' h => by cases h; rfl), KB.trans (EF.below (fun b hb => by omega) (by omega))⟩
    ·have HR := Lib.hid (show jfb ⟨t, false, xs⟩ k v = none by rw [HR0.out, if_neg (fun h => l0 h.2)])
     have f3 : ((L1.length : Int) == 0) = false := beq_eq_false_iff_ne.2 (by omega)
     clear l0
     have b := (Quiet.one wq).below wq.heap.size
     replace P := P.next b
     replace Z := Z.next b
     replace O := O.next b
     replace MI := MI.next b
     replace KB := jaa KB b
     have zq := b.size
     clear b
     refine wp_region_held_drew (S := fun w' => w'.cell? ⟨go, 0, none⟩ = some (.int .i64 t) ∧ w'.cell? ⟨go, 1, none⟩ = some (.bool true) ∧ w'.cell? ⟨go, 2, none⟩ = some (.slice A1 i c1) ∧ w'.cell? ⟨w.heap.size, 0, none⟩ = some (.int .i64 t) ∧ w'.cell? ⟨w.heap.size, 1, none⟩ = some (.bool false) ∧ w'.cell? ⟨w.heap.size, 2, none⟩ = some (.slice A i c)) (by kernel_rfl) (by (try dsimp only); first | exact ⟨O.cell 0, O.cell 1, O.cell 2, P.cell 0, P.cell 1, P.cell 2⟩ | exact pk9) (fun hH => ?_)
     generalize wq.drew = wz at *
     have zc := Z.cell
     have zf := Z.frozen
     refine wQ 0 ?_
     refine wQ 1 ?_
     refine wQ 2 ?_
     refine wQ 3 ?_
     refine wQ 4 ?_
     refine wQ 5 ?_
     refine wR (rs := [6]) (by kernel_rfl) (by simp) ?_
     refine aC rfl (fun K hK => ?_) aN
     go_simp
     refine (jgn t false A i c 0 xs _ (hx.below KB (Nat.le_refl _)) (by omega)).mono ?_
     rw [HL1.out]
     rintro e9 w9 ⟨A9, c9, rfl, o9, b⟩
     replace KB := jaa KB b
     replace P := P.next b
     replace O := O.next b
     replace Z := Z.next b
     replace MI := MI.next b
     have zq9 := b.size
     clear b o9
     have zc := Z.cell
     have zf := Z.frozen
     have pk9 : w9.cell? ⟨go, 0, none⟩ = some (.int .i64 t) ∧ w9.cell? ⟨go, 1, none⟩ = some (.bool true) ∧ w9.cell? ⟨go, 2, none⟩ = some (.slice A1 i c1) ∧ w9.cell? ⟨w.heap.size, 0, none⟩ = some (.int .i64 t) ∧ w9.cell? ⟨w.heap.size, 1, none⟩ = some (.bool false) ∧ w9.cell? ⟨w.heap.size, 2, none⟩ = some (.slice A i c) := ⟨O.cell 0, O.cell 1, O.cell 2, P.cell 0, P.cell 1, P.cell 2⟩
     go_wp2_with fail
     refine hK.out _ _ (by (try dsimp only); first | exact ⟨O.cell 0, O.cell 1, O.cell 2, P.cell 0, P.cell 1, P.cell 2⟩ | exact pk9) (fun hH => ?_)
     clear hK K
     refine wQ 7 ?_
     refine wQ 8 ?_
     refine wQ 9 ?_
     refine wR (rs := [10]) (by kernel_rfl) (by simp) ?_
     refine aC rfl (fun K hK => ?_) aN
     have EF := ((((Only.refl (fun b => b = w.heap.size + 2) w9).setCell (p := ⟨w.heap.size + 2, 0, none⟩) rfl (.int .i64 (t))).setCell (p := ⟨w.heap.size + 2, 1, none⟩) rfl (.bool true)).setCell (p := ⟨w.heap.size + 2, 2, none⟩) rfl (.slice A1 i c1))
     have pk10 : (((w9.setCell ⟨w.heap.size + 2, 0, none⟩ (.int .i64 (t))).setCell ⟨w.heap.size + 2, 1, none⟩ (.bool true)).setCell ⟨w.heap.size + 2, 2, none⟩ (.slice A1 i c1)).cell? ⟨go, 0, none⟩ = some (.int .i64 t) ∧ (((w9.setCell ⟨w.heap.size + 2, 0, none⟩ (.int .i64 (t))).setCell ⟨w.heap.size + 2, 1, none⟩ (.bool true)).setCell ⟨w.heap.size + 2, 2, none⟩ (.slice A1 i c1)).cell? ⟨go, 1, none⟩ = some (.bool true) ∧ (((w9.setCell ⟨w.heap.size + 2, 0, none⟩ (.int .i64 (t))).setCell ⟨w.heap.size + 2, 1, none⟩ (.bool true)).setCell ⟨w.heap.size + 2, 2, none⟩ (.slice A1 i c1)).cell? ⟨go, 2, none⟩ = some (.slice A1 i c1) ∧ (((w9.setCell ⟨w.heap.size + 2, 0, none⟩ (.int .i64 (t))).setCell ⟨w.heap.size + 2, 1, none⟩ (.bool true)).setCell ⟨w.heap.size + 2, 2, none⟩ (.slice A1 i c1)).cell? ⟨w.heap.size, 0, none⟩ = some (.int .i64 t) ∧ (((w9.setCell ⟨w.heap.size + 2, 0, none⟩ (.int .i64 (t))).setCell ⟨w.heap.size + 2, 1, none⟩ (.bool true)).setCell ⟨w.heap.size + 2, 2, none⟩ (.slice A1 i c1)).cell? ⟨w.heap.size, 1, none⟩ = some (.bool false) ∧ (((w9.setCell ⟨w.heap.size + 2, 0, none⟩ (.int .i64 (t))).setCell ⟨w.heap.size + 2, 1, none⟩ (.bool true)).setCell ⟨w.heap.size + 2, 2, none⟩ (.slice A1 i c1)).cell? ⟨w.heap.size, 2, none⟩ = some (.slice A i c) := ⟨(O.only EF (fun h => by omega)).cell 0, (O.only EF (fun h => by omega)).cell 1, (O.only EF (fun h => by omega)).cell 2, (P.only EF (fun h => by omega)).cell 0, (P.only EF (fun h => by omega)).cell 1, (P.only EF (fun h => by omega)).cell 2⟩
     go_simp
     refine hK.out _ _ (by (try dsimp only); exact pk10) (fun hH => ?_)
     clear hK K
     try simp only [Act.put, pX]
     skip
     refine wQ 11 ?_
     refine wD (by kernel_rfl) ?_ _
     have ZF := (((Z.set_ 0 (.int .i64 (t))).set_ 1 (.bool true)).set_ 2 (.slice A1 i c1))
     clear zc zf
     have zc := ZF.cell
     go_wp2_with fail
     refine bodyPost_ret (v := .tuple #[.agg #[.int .i64 (t), true, .slice A1 i c1], .bool false]) (by simp [results, Tryz.results202, go_sem, zc]) rfl ?_
     rw [HR.out]
     have zs := EF.size
     exact ⟨t, true, A1, i, c1, jb1 xs, rfl, (MI.only EF (fun b h1 (h2 : b = w.heap.size + 2) => by omega)).inn2 (fun b hb => by omega), (fun r' h => by cases h), KB.trans (EF.below (fun b hb => by omega) (by omega))⟩
end Go.Proofs.YtflpcdffmpfdpaaGreatDoor
