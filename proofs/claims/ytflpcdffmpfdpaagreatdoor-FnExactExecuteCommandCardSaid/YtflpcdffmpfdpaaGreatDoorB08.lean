/- Joined texts of this proof: RaceS2. -/
import Derived.Deep.CutBlock
import Derived.Test.YtflpcdffmpfdpaaGreatDoorB07
set_option maxRecDepth 100000
set_option maxHeartbeats 8000000
namespace Go.Proofs.YtflpcdffmpfdpaaGreatDoor
open Go.RowKit
theorem MineN.inn2 {w : World} {S : Nat → Prop} {t ti n c B : Nat} {A : Option Addr} {xs : List Entrant} (h : MineN entrantSh w S t ti A n c xs) (hS : ∀ b, S b → B ≤ b) : MineN entrantSh w (In B w.heap.size) t ti A n c xs := by
 obtain ⟨rs, hrs, M⟩ := h
 exact ⟨rs, hrs, (M.wide (T := fun b => B ≤ b) hS).inn⟩
theorem MineR.sees' {w : World} {S : Nat → Prop} {t ti n c : Nat} {A : Option Addr} {rs : List (Hd Entrant)} {xs : List Entrant} (h : MineR entrantSh w S t ti A n c rs) (e : rs.map Hd.x = xs) : SeesN entrantSh w 0 A n xs := e ▸ h.sees
theorem jlf (B0 g : Nat) (t : Int) (cl : Bool) (xs : List Entrant) (A : Option Addr) (c : Nat) (k e v : Int) (w : World) (hB : Blk w g 32 [.int .i64 t, .bool cl, .slice A xs.length c]) (hM : MineN entrantSh w (fun b => B0 ≤ b ∧ b ≠ g) 108 188 A xs.length c xs) (h0 : B0 ≤ g) (hn1 : 1 ≤ xs.length) (hn : xs.length ≤ 8) (hp : ∀ x ∈ xs, x.punches.length ≤ 12) (ht0 : 0 ≤ t) (ht : t ≤ 36000) :
  Calls Tryz.prog 141 #[.pointer (some ⟨g, 0, none⟩), .agg #[k, e, v]] w (GivesRStep B0 g (jba ⟨t, cl, xs⟩ k e v) w) := by
 have hgl := hB.lt
 have U := nB w (.cells #[k, e, v] 124)
 have Q := nP w [k, e, v] 124
 have R := hB.next U
 obtain ⟨rs, hrs, MR0⟩ := hM
 have MR := MR0.next U
 have KB : Below B0 w (w.alloc (.cells #[k, e, v] 124)) := U.mono (by omega)
 clear U hB MR0
 go_enter Tryz.func141, Tryz.ntmps141
 by_cases k1 : k = 1
 ·have f1 : (k == 1) = true := beq_iff_eq.2 k1
  have K1 := Lib.hid k1
  clear k1
  go_upto_region 2 with fail
  generalize w.alloc _ = w1 at *
  cases cl
  rotate_left 1
  ·have HR := Lib.hid (show jba ⟨t, true, xs⟩ k e v = none by unfold jba; rw [if_pos (by exact K1.out), if_neg (fun h => by cases h.1)])
   go_upto_region 3 with fail
   have b := (Quiet.one w1).below w1.heap.size
   replace KB := KB.trans (b.mono (by have := KB.size; have := R.lt; omega))
   replace Q := Q.next b
   replace R := R.next b
   replace MR := MR.next b
   clear b
   refine wp_region_held_drew (S := fun w' => w'.cell? ⟨g, 0, none⟩ = some (.int .i64 t) ∧ w'.cell? ⟨g, 1, none⟩ = some (.bool true) ∧ w'.cell? ⟨w.heap.size, 1, none⟩ = some (.int .i64 e) ∧ w'.cell? ⟨w.heap.size, 2, none⟩ = some (.int .i64 v)) (by kernel_rfl) (by (try dsimp only); exact ⟨R.cell 0, R.cell 1, Q.cell 1, Q.cell 2⟩) (fun hH => ?_)
   refine wQ 0 ?_
   refine wQ 1 ?_
   refine wQ 2 ?_
   refine wQ 3 ?_
   refine wQ 4 ?_
   refine wU 5 ?_
   refine wU 6 ?_
   refine wU 7 ?_
   refine wQ 8 ?_
   refine wQ 9 ?_
   refine wU 10 ?_
   refine wU 11 ?_
   refine wU 12 ?_
   refine wU 13 ?_
   refine wU 14 ?_
   refine wU 15 ?_
   refine wU 16 ?_
   refine wU 17 ?_
   refine wU 18 ?_
   refine wQ 19 ?_
   refine wD (by kernel_rfl) ?_ _
   go_wp2_with fail
   go_ret
   exact GivesRStep.no HR.out KB
  by_cases e0 : e = 0
  rotate_left 1
  ·have f2 : (e != 0) = true := bne_iff_ne.2 e0
   have HR := Lib.hid (show jba ⟨t, false, xs⟩ k e v = none by unfold jba; rw [if_pos (by exact K1.out), if_neg (fun h => e0 h.2.1)])
   clear e0
   go_upto_region 3 with fail
   have b := (Quiet.one w1).below w1.heap.size
   replace KB := KB.trans (b.mono (by have := KB.size; have := R.lt; omega))
   replace Q := Q.next b
   replace R := R.next b
   replace MR := MR.next b
   clear b
   refine wp_region_held_drew (S := fun w' => w'.cell? ⟨g, 0, none⟩ = some (.int .i64 t) ∧ w'.cell? ⟨g, 1, none⟩ = some (.bool false) ∧ w'.cell? ⟨w.heap.size, 1, none⟩ = some (.int .i64 e) ∧ w'.cell? ⟨w.heap.size, 2, none⟩ = some (.int .i64 v)) (by kernel_rfl) (by (try dsimp only); exact ⟨R.cell 0, R.cell 1, Q.cell 1, Q.cell 2⟩) (fun hH => ?_)
   refine wQ 0 ?_
   refine wQ 1 ?_
   refine wQ 2 ?_
   refine wQ 3 ?_
   refine wQ 4 ?_
   refine wQ 5 ?_
   refine wQ 6 ?_
   refine wQ 7 ?_
   refine wQ 8 ?_
   refine wQ 9 ?_
   refine wU 10 ?_
   refine wU 11 ?_
   refine wU 12 ?_
   refine wU 13 ?_
   refine wU 14 ?_
   refine wU 15 ?_
   refine wU 16 ?_
   refine wU 17 ?_
   refine wU 18 ?_
   refine wQ 19 ?_
   refine wD (by kernel_rfl) ?_ _
   go_wp2_with fail
   go_ret
   exact GivesRStep.no HR.out KB
  have f2 : (e != 0) = false := by rw [e0]; rfl
  have E0 := Lib.hid e0
  clear e0
  obtain ⟨ib, hib⟩ : ∃ ib, inB v 1 (36000 - t) = ib := ⟨_, rfl⟩
  have HIB := Lib.hid hib
  clear hib
  have HWR := Lib.hid (show IntKind.i64.wrap (36000 - t) = 36000 - t from IntWalk.i64_in _ (by omega))
  cases ib
  ·have HR := Lib.hid (show jba ⟨t, false, xs⟩ k e v = none by unfold jba; rw [if_pos (by exact K1.out), if_neg (fun h => by have h2 := HIB.out.symm.trans h.2.2; cases h2)])
   go_upto_region 3 with fail
   have b := (Quiet.one w1).below w1.heap.size
   replace KB := KB.trans (b.mono (by have := KB.size; have := R.lt; omega))
   replace Q := Q.next b
   replace R := R.next b
   replace MR := MR.next b
   clear b
   refine wp_region_held_drew (S := fun w' => w'.cell? ⟨g, 0, none⟩ = some (.int .i64 t) ∧ w'.cell? ⟨g, 1, none⟩ = some (.bool false) ∧ w'.cell? ⟨w.heap.size, 1, none⟩ = some (.int .i64 e) ∧ w'.cell? ⟨w.heap.size, 2, none⟩ = some (.int .i64 v)) (by kernel_rfl) (by (try dsimp only); exact ⟨R.cell 0, R.cell 1, Q.cell 1, Q.cell 2⟩) (fun hH => ?_)
   refine wQ 0 ?_
   refine wQ 1 ?_
   refine wQ 2 ?_
   refine wQ 3 ?_
   refine wQ 4 ?_
   refine wQ 5 ?_
   refine wQ 6 ?_
   refine wQ 7 ?_
   refine wQ 8 ?_
   refine wQ 9 ?_
   refine wQ 10 ?_
   refine wQ 11 ?_
   refine wQ 12 ?_
   refine wQ 13 ?_
   refine wQ 14 ?_
   refine wQ 15 ?_
   refine wQ 16 ?_
   refine wR (rs := [17]) (by kernel_rfl) (by simp) ?_
   refine aC rfl (fun K hK => ?_) aN
   go_simp
   refine (jaf _ _ _ _).mono ?_
   rw [HWR.out, HIB.out]
   rintro e w' ⟨rfl, rfl⟩
   go_wp2_with fail
   refine hK.out _ _ (by (try dsimp only); exact ⟨R.cell 0, R.cell 1, Q.cell 1, Q.cell 2⟩) (fun hH => ?_)
   clear hK K
   refine wQ 18 ?_
   refine wQ 19 ?_
   refine wD (by kernel_rfl) ?_ _
   go_wp2_with fail
   go_ret
   exact GivesRStep.no HR.out KB
  have HV := HIB.out
  unfold inB at HV
  simp only [Bool.and_eq_true, decide_eq_true_eq] at HV
  have HWT := Lib.hid (show IntKind.i64.wrap (t + v) = t + v from IntWalk.i64_in _ (by omega))
  have HR := Lib.hid (show jba ⟨t, false, xs⟩ k e v = some ⟨t + v, false, xs⟩ by unfold jba; rw [if_pos (by exact K1.out), if_pos ⟨rfl, E0.out, HIB.out⟩])
  clear HV
  go_upto_region 3 with fail
  have b := (Quiet.one w1).below w1.heap.size
  replace KB := KB.trans (b.mono (by have := KB.size; have := R.lt; omega))
  replace Q := Q.next b
  replace R := R.next b
  replace MR := MR.next b
  clear b
  refine wp_region_held_drew (S := fun w' => w'.cell? ⟨g, 0, none⟩ = some (.int .i64 t) ∧ w'.cell? ⟨g, 1, none⟩ = some (.bool false) ∧ w'.cell? ⟨w.heap.size, 1, none⟩ = some (.int .i64 e) ∧ w'.cell? ⟨w.heap.size, 2, none⟩ = some (.int .i64 v)) (by kernel_rfl) (by (try dsimp only); exact ⟨R.cell 0, R.cell 1, Q.cell 1, Q.cell 2⟩) (fun hH => ?_)
  refine wQ 0 ?_
  refine wQ 1 ?_
  refine wQ 2 ?_
  refine wQ 3 ?_
  refine wQ 4 ?_
  refine wQ 5 ?_
  refine wQ 6 ?_
  refine wQ 7 ?_
  refine wQ 8 ?_
  refine wQ 9 ?_
  refine wQ 10 ?_
  refine wQ 11 ?_
  refine wQ 12 ?_
  refine wQ 13 ?_
  refine wQ 14 ?_
  refine wQ 15 ?_
  refine wQ 16 ?_
  refine wR (rs := [17]) (by kernel_rfl) (by simp) ?_
  refine aC rfl (fun K hK => ?_) aN
  go_simp
  refine (jaf _ _ _ _).mono ?_
  rw [HWR.out, HIB.out]
  rintro e w' ⟨rfl, rfl⟩
  go_wp2_with fail
  refine hK.out _ _ (by (try dsimp only); exact ⟨R.cell 0, R.cell 1, Q.cell 1, Q.cell 2⟩) (fun hH => ?_)
  clear hK K
  refine wQ 18 ?_
  refine wQ 19 ?_
  refine wD (by kernel_rfl) ?_ _
  go_upto_region 5 with fail
  have b := (Quiet.one w1.drew).below w1.drew.heap.size
  replace KB := KB.trans (b.mono (by have := KB.size; have := R.lt; omega))
  replace Q := Q.next b
  replace R := R.next b
  replace MR := MR.next b
  clear b
  refine wp_region_held_drew (S := fun w' => w'.cell? ⟨w.heap.size, 2, none⟩ = some (.int .i64 v)) (by kernel_rfl) (by (try dsimp only); exact Q.cell 2) (fun hH => ?_)
  generalize w1.drew.drew = wz at *
  have rc := R.cell
  refine wQ 0 ?_
  refine wQ 1 ?_
  refine wQ 2 ?_
  refine wQ 4 ?_
  refine wQ 5 ?_
  refine wR (rs := [3]) (by kernel_rfl) (by simp) ?_
  refine aC rfl (fun K hK => ?_) aN
  go_simp
  refine hK.out _ _ (by (try dsimp only); exact Q.cell 2) (fun hH => ?_)
  clear hK K
  try simp only [Act.put, pX]
  refine wQ 6 ?_
  refine wQ 7 ?_
  refine wQ 8 ?_
  refine wR (rs := [9]) (by kernel_rfl) (by simp) ?_
  refine aC rfl (fun K hK => ?_) aN
  have rf := R.frozen
  have EF := (Only.refl (fun b => b = g) wz).setCell (p := ⟨g, 0, none⟩) rfl (.int .i64 (t + v))
  have pk9 : (wz.setCell ⟨g, 0, none⟩ (.int .i64 (t + v))).cell? ⟨w.heap.size, 2, none⟩ = some (.int .i64 v) := (Q.only EF (fun h => by omega)).cell 2
  go_simp
  rw [HWT.out]
  refine hK.out _ _ (by (try dsimp only); exact pk9) (fun hH => ?_)
  clear hK K
  try simp only [Act.put, pX]
  skip
  refine wD (by kernel_rfl) ?_ _
  have RF : Blk (wz.setCell ⟨g, 0, none⟩ (.int .i64 (t + v))) g 32 [.int .i64 (t + v), .bool false, .slice A xs.length c] := R.set_ 0 _
  have KF := KB.trans (EF.below (fun b (hb : b = g) => by rw [hb]; exact h0) (by have := KB.size; omega))
  have MF := MR.only EF (fun b h1 (h2 : b = g) => h1.2 h2)
  go_wp2_with fail
  go_ret
  exact ⟨by rw [HR.out]; rfl, KF, fun r' h => by
   have h2 := HR.out.symm.trans h
   injection h2 with h2
   subst h2
   exact ⟨_, _, _, RF, ⟨rs, hrs, MF⟩⟩⟩
 ·have f1 : (k == 1) = false := beq_eq_false_iff_ne.2 k1
  have K1 := Lib.hid k1
  clear k1
  go_upto_region 2 with fail
  generalize w.alloc _ = w1 at *
  by_cases k6 : k = 6
  rotate_left 1
  ·have f2 : (k == 6) = false := beq_eq_false_iff_ne.2 k6
   have HR := Lib.hid (show jba ⟨t, cl, xs⟩ k e v = jbk ⟨t, cl, xs⟩ k e v by unfold jba; rw [if_neg (by exact K1.out), if_neg k6])
   clear k6
   have qc := Q.cell
   go_wp2_with fail
   refine (jhx B0 g t cl xs A c k e v w1 R ⟨rs, hrs, MR⟩ h0 hn1 hn hp).mono ?_
   rintro e9 w2 ⟨rfl, b9, h9⟩
   go_wp2_with fail
   go_ret
   exact ⟨congrArg (fun o : Option RaceV => Ending.returned (.bool o.isSome)) HR.out.symm, KB.trans b9, fun r' h => h9 r' (HR.out.symm.trans h)⟩
  have f2 : (k == 6) = true := beq_iff_eq.2 k6
  have K6 := Lib.hid k6
  clear k6
  have qc := Q.cell
  have rc := R.cell
  cases cl
  rotate_left 1
  ·have HR := Lib.hid (show jba ⟨t, true, xs⟩ k e v = none by unfold jba; rw [if_neg (by exact K1.out), if_pos (by exact K6.out), if_neg (fun h => by cases h.1)])
   go_wp2_with fail
   go_ret
   exact GivesRStep.no HR.out KB
  by_cases e0 : e = 0
  rotate_left 1
  ·have f3 : (e != 0) = true := bne_iff_ne.2 e0
   have HR := Lib.hid (show jba ⟨t, false, xs⟩ k e v = none by unfold jba; rw [if_neg (by exact K1.out), if_pos (by exact K6.out), if_neg (fun h => e0 h.2.1)])
   clear e0
   go_wp2_with fail
   go_ret
   exact GivesRStep.no HR.out KB
  have f3 : (e != 0) = false := by rw [e0]; rfl
  have E0 := Lib.hid e0
  clear e0
  by_cases v0 : v = 0
  rotate_left 1
  ·have f4 : (v != 0) = true := bne_iff_ne.2 v0
   have HR := Lib.hid (show jba ⟨t, false, xs⟩ k e v = none by unfold jba; rw [if_neg (by exact K1.out), if_pos (by exact K6.out), if_neg (fun h => v0 h.2.2.1)])
   clear v0
   go_wp2_with fail
   go_ret
   exact GivesRStep.no HR.out KB
  have f4 : (v != 0) = false := by rw [v0]; rfl
  have V0 := Lib.hid v0
  clear v0
  obtain ⟨L1, hL1⟩ : ∃ L, inL xs 1 = L := ⟨_, rfl⟩
  have HL1 := Lib.hid hL1
  have hL1n : L1.length ≤ 8 := by rw [← hL1]; exact Nat.le_trans (jhm _ _ _) hn
  clear hL1
  by_cases l0 : 0 < L1.length
  ·have f5 : 0 < (L1.length : Int) := by omega
   have HR := Lib.hid (show jba ⟨t, false, xs⟩ k e v = none by unfold jba; rw [if_neg (by exact K1.out), if_pos (by exact K6.out), if_neg (fun h => by have h2 := h.2.2.2; rw [show inL (⟨t, false, xs⟩ : RaceV).field 1 = L1 from HL1.out] at h2; omega)])
   clear l0
   go_wp2_with
    (go_at_call 174
     refine (jeg t false A xs.length c 0 xs 1 _ (MR.sees' hrs) (by omega)).mono ?_
     rw [HL1.out]
     rintro e w2 ⟨A9, c9, rfl, o9, b9⟩
     replace KB := KB.trans (b9.mono (by have := KB.size; have := R.lt; omega))
     replace Q := Q.next b9
     replace R := R.next b9
     replace MR := MR.next b9
     clear b9 o9 qc rc
     have qc := Q.cell
     have rc := R.cell)
   go_ret
   exact GivesRStep.no HR.out KB
  have f5 : ¬ 0 < (L1.length : Int) := by omega
  have HR := Lib.hid (show jba ⟨t, false, xs⟩ k e v = some ⟨t, true, jb1 xs⟩ by unfold jba; rw [if_neg (by exact K1.out), if_pos (by exact K6.out), if_pos ⟨rfl, E0.out, V0.out, by rw [show inL (⟨t, false, xs⟩ : RaceV).field 1 = L1 from HL1.out]; omega⟩])
  clear l0
  go_upto_region 10 with
   (go_at_call 174
    refine (jeg t false A xs.length c 0 xs 1 _ (MR.sees' hrs) (by omega)).mono ?_
    rw [HL1.out]
    rintro e w2 ⟨A9, c9, rfl, o9, b9⟩
    replace KB := KB.trans (b9.mono (by have := KB.size; have := R.lt; omega))
    replace Q := Q.next b9
    replace R := R.next b9
    replace MR := MR.next b9
    clear b9 o9 qc rc
    have qc := Q.cell
    have rc := R.cell)
  clear qc rc
  obtain ⟨w3, rfl⟩ : ∃ w' : World, w' = w2 := ⟨_, rfl⟩
  have rc := R.cell
  have rf := R.frozen
  have EF := (Only.refl (fun b => b = g) w3).setCell (p := ⟨g, 1, none⟩) rfl (.bool true)
  have RF : Blk (w3.setCell ⟨g, 1, none⟩ (.bool true)) g 32 [.int .i64 t, .bool true, .slice A xs.length c] := R.set_ 1 _
  have KF := KB.trans (EF.below (fun b (hb : b = g) => by rw [hb]; exact h0) (by have := KB.size; omega))
  have MF := MR.only EF (fun b h1 (h2 : b = g) => h1.2 h2)
  go_upto_region 11 with fail
  generalize w3.setCell _ _ = w4 at *
  clear rc rf EF R MR KB Q
  have R := RF
  have MR := MF
  have KB := KF
  clear RF MF KF
  have rc := R.cell
  obtain ⟨L0, hL0⟩ : ∃ L, inL xs 0 = L := ⟨_, rfl⟩
  have HL0 := Lib.hid hL0
  have hL0n : L0.length ≤ 8 := by rw [← hL0]; exact Nat.le_trans (jhm _ _ _) hn
  clear hL0
  go_wp2_with fail
  refine (jeg t true A xs.length c 0 xs 0 w4 (MR.sees' hrs) (by omega)).mono ?_
  rw [HL0.out]
  rintro e w5 ⟨A9, c9, rfl, o9, b9⟩
  obtain ⟨hz, hhz⟩ : ∃ hz, w4.heap.size = hz := ⟨_, rfl⟩
  have zg : g < hz := by have := R.lt; omega
  have hown : ∀ r ∈ rs, ∀ b, jaj r.A b → b < hz := fun r hr b hb => by rw [← hhz]; exact (MR.inners.each r hr).lt b hb
  have houter : ∀ b, jaj A b → b < hz := fun b hb => by rw [← hhz]; exact MR.outer.lt b hb
  rw [hhz] at o9
  replace KB := KB.trans (b9.mono (by have := KB.size; have := R.lt; omega))
  replace R := R.next b9
  replace MR := MR.next b9
  clear b9 hhz rc
  go_wp2_with fail
  go_loopw [72] (fun iv wr => ∃ (q : Nat) (rq : List (Hd Entrant)), q ≤ L0.length ∧ iv = .int .i64 (q : Int) ∧ Blk wr g 32 [.int .i64 t, .bool true, .slice A xs.length c] ∧ MineR entrantSh wr (fun b => B0 ≤ b ∧ b ≠ g) 108 188 A xs.length c rq ∧ Hid (rq.map Hd.x = jcp xs (L0.take q)) ∧ wr.ownsRow hz 3 1 (.slice A9 L0.length c9) L0.length (jb4 L0) ∧ Below B0 w wr) (fun iv _ => L0.length - (intOf iv).toNat)
  case atStart => exact ⟨0, rs, Nat.zero_le _, rfl, R, MR, Lib.hid (by rw [hrs, List.take_zero, jnx]), o9, KB⟩
  case round =>
   clear R MR o9 KB hown hrs
   obtain ⟨q, rq, hq, rfl, R, MR, HQ, o9, KB⟩ := hrel
   by_cases hlt : q < L0.length
   ·obtain ⟨bl, ol, rfl, hql, y0⟩ := (Sees.of_own o9).int hlt
    obtain ⟨j, hj, hjx, -⟩ := ji7.1 (show L0[q] ∈ inL xs 0 by rw [HL0.out]; exact List.getElem_mem hql)
    have HN := Lib.hid (show jcp xs (L0.take (q + 1)) = (jcp xs (L0.take q)).set j (jni ((jcp xs (L0.take q))[j]'(by rw [jea]; exact hjx))) by
     rw [List.take_succ_eq_append_getElem hql, hj]
     exact jms xs _ hjx _)
    rw [hj] at y0
    have hblt := World.block_lt_of_cell? wr _ y0
    obtain ⟨ga, cur, x, Bp, m, d, rfl, hga, C, ⟨hk, hri⟩, hlc0, hc0, hc1, hc2, hc3, hc4⟩ := MR.ent hjx
    have hgz := houter ga rfl
    have hxj : (jcp xs (L0.take q))[j]'(by rw [jea]; exact hjx) = x := by
     have h1 : (rq.map Hd.x)[j]? = some x := by rw [List.getElem?_map, List.getElem?_eq_getElem hk, hri]; rfl
     rw [HQ.out, List.getElem?_eq_getElem (by rw [jea]; exact hjx)] at h1
     injection h1
    have HN2 := Lib.hid (HN.out.trans (by rw [hxj]))
    have hqi : (q : Int) < (L0.length : Int) := by omega
    have hji : (j : Int) < (xs.length : Int) := by omega
    have rc := R.cell
    have e0 := (C.cell (j * 5)).trans hc0
    have cf := C.frozen
    have EF := (Only.refl (fun b => b = ga) wr).setCell (p := ⟨ga, j * 5, none⟩) rfl (.int .i64 4)
    have RF := R.only EF (fun h => hga.2 h.symm)
    have CF := C.set_ (j * 5) (.int .i64 4)
    have MF := MR.turn (y := jni x) C hk (by rw [hri]; rfl) EF CF (by simp) (by rw [hri]; exact (by
      intro z hz
      have hz5 : z < 5 := hz
      have hlt0 : j * 5 < cur.length := by omega
      match z, hz5 with
      | 0, _ => exact (List.getElem?_set_self hlt0)
      | 1, _ => exact ((List.getElem?_set_ne (show j * 5 ≠ j * 5 + 1 by omega)).trans hc1)
      | 2, _ => exact ((List.getElem?_set_ne (show j * 5 ≠ j * 5 + 2 by omega)).trans hc2)
      | 3, _ => exact ((List.getElem?_set_ne (show j * 5 ≠ j * 5 + 3 by omega)).trans hc3)
      | 4, _ => exact ((List.getElem?_set_ne (show j * 5 ≠ j * 5 + 4 by omega)).trans hc4))) (fun z hz => by
     have hz5 : ¬ (j * 5 ≤ z ∧ z < j * 5 + 5) := hz
     rw [List.getElem?_set_ne (by omega)])
    have oF := jbc o9 EF (fun b hb (h : b = ga) => by have := (jai o9 hb).1; omega)
    have KF := KB.trans (EF.below (fun b (hb : b = ga) => by rw [hb]; exact hga.1) (by have := KB.size; omega))
    rw [hri] at MF
    clear HN hxj hj
    go_wp2_with fail
    go_roundw
    case rel => exact ⟨q + 1, rq.set j ⟨jni x, Bp, m, d⟩, hlt, by go_num, RF, MF, Lib.hid (by rw [List.map_set, HQ.out]; exact HN2.out.symm), oF, KF⟩
    case measure => simp [intOf]; omega
   ·obtain rfl : q = L0.length := by omega
    have hqi : ¬ (L0.length : Int) < (L0.length : Int) := by omega
    have HE := Lib.hid (show rq.map Hd.x = jb1 xs by rw [HQ.out, List.take_length, ← HL0.out, jol])
    go_wp2_with fail
    go_ret
    exact ⟨by rw [HR.out]; rfl, KB, fun r' h => by
     have h2 := HR.out.symm.trans h
     injection h2 with h2
     subst h2
     exact ⟨_, _, _, R, ⟨rq, HE.out, MR⟩⟩⟩
theorem jlb (t : Int) (cl : Bool) (A : Option Addr) (n c : Nat) (xs : List Entrant) (k e v : Int) (w : World) (hx : SeesN entrantSh w 0 A n xs) (hn : n ≤ 1048576) (hi : ∀ x ∈ xs, x.cnt ≤ 1048576) :
  Calls Tryz.prog 97 #[.agg #[t, cl, .slice A n c], .agg #[k, e, v]] w (jkv w (jdh ⟨t, cl, xs⟩ k e v)) := by
 have K := nB3 w (.cells #[t, cl, .slice A n c] 32) (.cells #[k, e, v] 124) (.cells #[.int .i64 0, false, .slice none 0 0] 32)
 have P := nPb w [t, cl, .slice A n c] 32 (.cells #[k, e, v] 124) (.cells #[.int .i64 0, false, .slice none 0 0] 32)
 have Q := nQa w (.cells #[t, cl, .slice A n c] 32) [k, e, v] 124 (.cells #[.int .i64 0, false, .slice none 0 0] 32)
 have Z := nR w (.cells #[t, cl, .slice A n c] 32) (.cells #[k, e, v] 124) [.int .i64 0, false, .slice none 0 0] 32
 have z0 := nZ3 w (.cells #[t, cl, .slice A n c] 32) (.cells #[k, e, v] 124) (.cells #[.int .i64 0, false, .slice none 0 0] 32)
 go_enter Tryz.func97, Tryz.ntmps97
 go_wp2_with fail
 generalize ((w.alloc _).alloc _).alloc _ = w1 at *
 have X := hx.next K
 have pc := P.cell
 go_wp2_with fail
 refine (jdm t cl A n c 0 xs w1 (hx.below K (Nat.le_refl _)) hn hi).mono ?_
 rintro e9 w2 ⟨rfl, b⟩
 replace K := jaa K b
 have zz := b.size
 replace P := P.next b
 replace Q := Q.next b
 replace Z := Z.next b
 clear b pc X
 obtain ⟨ok, hok⟩ : ∃ ok, jbf t cl xs = ok := ⟨_, rfl⟩
 have HOK := Lib.hid hok
 rw [hok]
 clear hok
 cases ok
 ·have HR := Lib.hid (show jdh ⟨t, cl, xs⟩ k e v = none by unfold jdh ja0; rw [show jbf (⟨t, cl, xs⟩ : RaceV).clock (⟨t, cl, xs⟩ : RaceV).closed (⟨t, cl, xs⟩ : RaceV).field = false from HOK.out]; rfl)
  have zc := Z.cell
  have zf := Z.frozen
  go_wp2_with fail
  have ZF := ((Z.set_ 0 (.int .i64 0)).set_ 1 (.bool false)).set_ 2 (.slice none 0 0)
  have EF := (((Only.refl (fun b => b = w.heap.size + 2) w2).setCell (p := ⟨w.heap.size + 2, 0, none⟩) rfl (.int .i64 0)).setCell (p := ⟨w.heap.size + 2, 1, none⟩) rfl (.bool false)).setCell (p := ⟨w.heap.size + 2, 2, none⟩) rfl (.slice none 0 0)
  clear zc zf
  have zc := ZF.cell
  refine bodyPost_ret (v := .tuple #[.agg #[.int .i64 0, false, .slice none 0 0], .bool false]) (by simp [results, Tryz.results97, go_sem, zc]) rfl ?_
  rw [HR.out]
  exact ⟨none, 0, rfl, MineN.nil _ _ _ _, K.trans (EF.below (fun b hb => by omega) K.size)⟩
 obtain ⟨ht0, ht, hn1, hn8, hen⟩ := jam HOK.out
 have HR := Lib.hid (show jdh ⟨t, cl, xs⟩ k e v = jba ⟨t, cl, xs⟩ k e v by unfold jdh ja0; rw [show jbf (⟨t, cl, xs⟩ : RaceV).clock (⟨t, cl, xs⟩ : RaceV).closed (⟨t, cl, xs⟩ : RaceV).field = true from HOK.out]; rfl)
 have hp : ∀ x ∈ xs, x.punches.length ≤ 12 := fun x hx => by
  obtain ⟨i, hi, rfl⟩ := List.getElem_of_mem hx
  exact jdy (hen i hi)
 clear hen
 have pc := P.cell
 go_wp2_with fail
 refine (jfp t cl A n c xs w2 (hx.below K (Nat.le_refl _)) hn hi).mono ?_
 rintro e9 w3 ⟨A1, c1, rfl, M1, b⟩
 replace K := jaa K b
 have zz3 := b.size
 replace P := P.next b
 replace Q := Q.next b
 replace Z := Z.next b
 clear b pc
 have U := nB w3 (.cells #[t, cl, .slice A1 xs.length c1] 32)
 have R := nP w3 [t, cl, .slice A1 xs.length c1] 32
 have zu := nZ w3 (.cells #[t, cl, .slice A1 xs.length c1] 32)
 replace K := jaa K U
 replace Q := Q.next U
 replace Z := Z.next U
 have M2 := (M1.next U).wide (T := fun b => w2.heap.size ≤ b ∧ b ≠ w3.heap.size) (fun b hb => ⟨hb.1, by have := hb.2; omega⟩)
 clear U P M1
 go_upto_region 4 with fail
 generalize w3.alloc _ = w4 at *
 generalize w3.heap.size = g at *
 have zz2 : w.heap.size ≤ w2.heap.size := by omega
 have qc := Q.cell
 go_wp2_with fail
 refine (jlf w2.heap.size g t cl xs A1 c1 k e v w4 R M2 (by omega) hn1 hn8 hp ht0 ht).mono ?_
 rintro e9 w5 ⟨rfl, b, h9⟩
 have K5 := K.trans (b.mono zz2)
 have zz5 := b.size
 have Q5 : Blk w5 (w.heap.size + 2) 32 [.int .i64 0, .bool false, .slice none 0 0] := (b.block (w.heap.size + 2) (by omega)).trans Z
 clear qc
 obtain ⟨o, ho⟩ : ∃ o, jba ⟨t, cl, xs⟩ k e v = o := ⟨_, rfl⟩
 have HO := Lib.hid (HR.out.trans ho)
 rw [ho] at h9 ⊢
 clear ho HR
 have zc := Q5.cell
 have zf := Q5.frozen
 cases o
 ·go_wp2_with fail
  have ZF := ((Q5.set_ 0 (.int .i64 0)).set_ 1 (.bool false)).set_ 2 (.slice none 0 0)
  have EF := (((Only.refl (fun b => b = w.heap.size + 2) w5).setCell (p := ⟨w.heap.size + 2, 0, none⟩) rfl (.int .i64 0)).setCell (p := ⟨w.heap.size + 2, 1, none⟩) rfl (.bool false)).setCell (p := ⟨w.heap.size + 2, 2, none⟩) rfl (.slice none 0 0)
  clear zc zf
  have zc := ZF.cell
  refine bodyPost_ret (v := .tuple #[.agg #[.int .i64 0, false, .slice none 0 0], .bool false]) (by simp [results, Tryz.results97, go_sem, zc]) rfl ?_
  rw [HO.out]
  exact ⟨none, 0, rfl, MineN.nil _ _ _ _, K5.trans (EF.below (fun b hb => by omega) (by omega))⟩
 ·rename_i r'
  obtain ⟨A2, n2, c2, R5, M5⟩ := h9 r' rfl
  obtain rfl := M5.count
  have rc := R5.cell
  go_wp2_with fail
  have ZF := ((Q5.set_ 0 (.int .i64 r'.clock)).set_ 1 (.bool r'.closed)).set_ 2 (.slice A2 r'.field.length c2)
  have EF := (((Only.refl (fun b => b = w.heap.size + 2) w5).setCell (p := ⟨w.heap.size + 2, 0, none⟩) rfl (.int .i64 r'.clock)).setCell (p := ⟨w.heap.size + 2, 1, none⟩) rfl (.bool r'.closed)).setCell (p := ⟨w.heap.size + 2, 2, none⟩) rfl (.slice A2 r'.field.length c2)
  clear zc zf
  have zc := ZF.cell
  have zs := EF.size
  refine bodyPost_ret (v := .tuple #[.agg #[r'.clock, r'.closed, .slice A2 r'.field.length c2], .bool true]) (by simp [results, Tryz.results97, go_sem, zc]) rfl ?_
  rw [HO.out]
  have MF := (M5.only EF (fun b h1 (h2 : b = w.heap.size + 2) => by omega)).inn2 (B := w.heap.size) (fun b hb => by omega)
  exact ⟨A2, c2, rfl, MF, K5.trans (EF.below (fun b hb => by omega) (by omega))⟩
end Go.Proofs.YtflpcdffmpfdpaaGreatDoor
