/- Joined texts of this proof: RaceS1. -/
import Derived.Test.YtflpcdffmpfdpaaGreatDoorB06
set_option maxRecDepth 100000
set_option maxHeartbeats 8000000
namespace Go.Proofs.YtflpcdffmpfdpaaGreatDoor
open Go.RowKit
theorem jhx (B0 g : Nat) (t : Int) (cl : Bool) (xs : List Entrant) (A : Option Addr) (c : Nat) (k e v : Int) (w : World) (hB : Blk w g 32 [.int .i64 t, .bool cl, .slice A xs.length c]) (hM : MineN entrantSh w (fun b => B0 ≤ b ∧ b ≠ g) 108 188 A xs.length c xs) (h0 : B0 ≤ g) (hn1 : 1 ≤ xs.length) (hn : xs.length ≤ 8) (hp : ∀ x ∈ xs, x.punches.length ≤ 12) :
  Calls Tryz.prog 184 #[.pointer (some ⟨g, 0, none⟩), .agg #[k, e, v]] w (GivesRStep B0 g (jbk ⟨t, cl, xs⟩ k e v) w) := by
 have hgl := hB.lt
 have U := nB w (.cells #[k, e, v] 124)
 have Q := nP w [k, e, v] 124
 have R := hB.next U
 obtain ⟨rs, hrs, MR0⟩ := hM
 have MR := MR0.next U
 have hlow0 : ∀ r ∈ rs, ∀ b, jaj r.A b → b < w.heap.size := fun r hr b hb => (MR0.inners.each r hr).lt b hb
 have KB : Below B0 w (w.alloc (.cells #[k, e, v] 124)) := U.mono (by omega)
 clear U hB
 obtain ⟨ib, hib⟩ : ∃ ib, inB e 0 ((xs.length : Int) - 1) = ib := ⟨_, rfl⟩
 have HIB := Lib.hid hib
 clear hib
 have HWR := Lib.hid (show IntKind.i64.wrap ((xs.length : Int) - 1) = (xs.length : Int) - 1 from IntWalk.i64_in _ (by omega))
 go_enter Tryz.func184, Tryz.ntmps184
 go_wp2_with fail
 generalize w.alloc _ = w1 at *
 cases ib
 ·have HR := Lib.hid (jfm (r := ⟨t, cl, xs⟩) (k := k) (e := e) (v := v) (by
   have h := HIB.out
   unfold inB at h
   simp only [Bool.and_eq_false_iff, decide_eq_false_iff_not] at h
   dsimp only
   omega))
  have b := (Quiet.one w1).below w1.heap.size
  replace KB := KB.trans (b.mono (by have := KB.size; have := R.lt; omega))
  replace Q := Q.next b
  replace R := R.next b
  replace MR := MR.next b
  clear b
  refine wp_region_held_drew (S := fun w' => w'.cell? ⟨w.heap.size, 1, none⟩ = some (.int .i64 e) ∧ w'.cell? ⟨g, 2, none⟩ = some (.slice A xs.length c)) (by kernel_rfl) (by (try dsimp only); exact ⟨Q.cell 1, R.cell 2⟩) (fun hH => ?_)
  refine wQ 0 ?_
  refine wQ 1 ?_
  refine wQ 2 ?_
  refine wQ 3 ?_
  refine wQ 4 ?_
  refine wQ 5 ?_
  refine wQ 6 ?_
  refine wQ 7 ?_
  refine wR (rs := [8]) (by kernel_rfl) (by simp) ?_
  refine aC rfl (fun K hK => ?_) aN
  go_simp
  refine (jaf _ _ _ _).mono ?_
  rw [HWR.out, HIB.out]
  rintro e w' ⟨rfl, rfl⟩
  go_wp2_with fail
  refine hK.out _ _ (by (try dsimp only); exact ⟨Q.cell 1, R.cell 2⟩) (fun hH => ?_)
  clear hK K
  refine wQ 9 ?_
  refine wD (by kernel_rfl) ?_ _
  go_wp2_with fail
  go_ret
  exact GivesRStep.no HR.out KB
 have hin2 := HIB.out
 unfold inB at hin2
 simp only [Bool.and_eq_true, decide_eq_true_eq] at hin2
 obtain ⟨i, rfl⟩ : ∃ i : Nat, e = (i : Int) := ⟨e.toNat, by omega⟩
 have hix : i < xs.length := by omega
 have hii : (i : Int) < (xs.length : Int) := by omega
 have HWI := Lib.hid (show IntKind.i64.wrap ((i : Int) + 1) = (i : Int) + 1 from IntWalk.i64_in _ (by omega))
 clear hin2
 have b := (Quiet.one w1).below w1.heap.size
 replace KB := KB.trans (b.mono (by have := KB.size; have := R.lt; omega))
 replace Q := Q.next b
 replace R := R.next b
 replace MR := MR.next b
 clear b
 refine wp_region_held_drew (S := fun w' => w'.cell? ⟨w.heap.size, 1, none⟩ = some (.int .i64 (i : Int)) ∧ w'.cell? ⟨g, 2, none⟩ = some (.slice A xs.length c)) (by kernel_rfl) (by (try dsimp only); exact ⟨Q.cell 1, R.cell 2⟩) (fun hH => ?_)
 refine wQ 0 ?_
 refine wQ 1 ?_
 refine wQ 2 ?_
 refine wQ 3 ?_
 refine wQ 4 ?_
 refine wQ 5 ?_
 refine wQ 6 ?_
 refine wQ 7 ?_
 refine wR (rs := [8]) (by kernel_rfl) (by simp) ?_
 refine aC rfl (fun K hK => ?_) aN
 go_simp
 refine (jaf _ _ _ _).mono ?_
 rw [HWR.out, HIB.out]
 rintro e w' ⟨rfl, rfl⟩
 go_wp2_with fail
 refine hK.out _ _ (by (try dsimp only); exact ⟨Q.cell 1, R.cell 2⟩) (fun hH => ?_)
 clear hK K
 refine wQ 9 ?_
 refine wD (by kernel_rfl) ?_ _
 generalize w1.drew = wd at *
 go_upto_region 3 with fail
 have b := (Quiet.one wd).below wd.heap.size
 replace KB := KB.trans (b.mono (by have := KB.size; have := R.lt; omega))
 replace Q := Q.next b
 replace R := R.next b
 replace MR := MR.next b
 clear b
 obtain ⟨ga, cur, x, Bp, m, d, rfl, hga, C, ⟨hk, hri⟩, hlc0, hc0, hc1, hc2, hc3, hc4⟩ := MR.ent hix
 have hgaw : ga < w.heap.size := (MR0.outer.lt ga rfl)
 have hxi : xs[i] = x := by
  have h1 : (rs.map Hd.x)[i]? = some x := by rw [List.getElem?_map, List.getElem?_eq_getElem hk, hri]; rfl
  rw [hrs, List.getElem?_eq_getElem hix] at h1
  injection h1
 have HE := Lib.hid ((jfa (r := ⟨t, cl, xs⟩) (k := k) (v := v) rfl hix).trans (by rw [show (⟨t, cl, xs⟩ : RaceV).field[i] = x from hxi]))
 have hmx : m = x.punches.length := by
  have h1 := (MR.inners.each rs[i] (List.getElem_mem hk)).sees
  rw [hri] at h1
  exact (h1.count (by decide) (fun _ => rfl)).symm
 have hm12 : m ≤ 12 := by rw [hmx]; exact hp x (hxi ▸ List.getElem_mem hix)
 have HNQ : ¬ jaj Bp w.heap.size := fun h => by
  have h1 := hlow0 rs[i] (List.getElem_mem hk) w.heap.size
  rw [hri] at h1
  have := h1 h
  omega
 have HMX := Lib.hid hmx
 clear hmx HIB hxi MR0 hlow0 hp
 refine wp_region_held_drew (S := fun w' => w'.cell? ⟨w.heap.size, 1, none⟩ = some (.int .i64 (i : Int)) ∧ w'.cell? ⟨g, 2, none⟩ = some (.slice (some ⟨ga, 0, none⟩) xs.length c)) (by kernel_rfl) (by (try dsimp only); exact ⟨Q.cell 1, R.cell 2⟩) (fun hH => ?_)
 refine wQ 0 ?_
 refine wQ 1 ?_
 refine wQ 2 ?_
 refine wQ 3 ?_
 refine wQ 4 ?_
 refine wQ 5 ?_
 refine wQ 6 ?_
 refine wQ 7 ?_
 refine wD (by kernel_rfl) ?_ _
 generalize wd.drew = w2 at *
 have qc := Q.cell
 have rc := R.cell
 have e0 := (C.cell (i * 5)).trans hc0
 have e1 := (C.cell (i * 5 + 1)).trans hc1
 have e2 := (C.cell (i * 5 + 2)).trans hc2
 have e3 := (C.cell (i * 5 + 3)).trans hc3
 have e4 := (C.cell (i * 5 + 4)).trans hc4
 have cf := C.frozen
 by_cases k1 : k = 2
 ·have f1 : (k == 2) = true := beq_iff_eq.2 k1
  have K1 := Lib.hid k1
  clear k1
  by_cases s0 : x.state = 0
  rotate_left 1
  ·have f2 : (x.state != 0) = true := bne_iff_ne.2 s0
   have HR := Lib.hid (show jbk ⟨t, cl, xs⟩ k (i : Int) v = none by rw [HE.out]; unfold jb6; rw [if_pos (by exact K1.out), if_neg (fun h => s0 h.1)]; rfl)
   clear s0
   go_wp2_with fail
   go_ret
   exact GivesRStep.no HR.out KB
  have f2 : (x.state != 0) = false := by rw [s0]; rfl
  by_cases v0 : v = 0
  rotate_left 1
  ·have f3 : (v != 0) = true := bne_iff_ne.2 v0
   have HR := Lib.hid (show jbk ⟨t, cl, xs⟩ k (i : Int) v = none by rw [HE.out]; unfold jb6; rw [if_pos (by exact K1.out), if_neg (fun h => v0 h.2)]; rfl)
   clear s0 v0
   go_wp2_with fail
   go_ret
   exact GivesRStep.no HR.out KB
  have f3 : (v != 0) = false := by rw [v0]; rfl
  have S0 := Lib.hid s0
  have V0 := Lib.hid v0
  clear s0 v0
  go_upto_region 7 with fail
  clear qc rc e0 e1 e2 e3 e4
  have b := (Quiet.one w2).below w2.heap.size
  replace KB := KB.trans (b.mono (by have := KB.size; have := R.lt; omega))
  replace Q := Q.next b
  replace R := R.next b
  replace MR := MR.next b
  replace C := C.next b
  clear b
  refine wp_region_held_drew (S := fun w' => w'.cell? ⟨w.heap.size, 1, none⟩ = some (.int .i64 (i : Int)) ∧ w'.cell? ⟨g, 0, none⟩ = some (.int .i64 t)) (by kernel_rfl) (by (try dsimp only); first | exact ⟨Q.cell 1, R.cell 0⟩ | exact pk7) (fun hH => ?_)
  generalize w2.drew = wz at *
  obtain ⟨wi, hwi⟩ : ∃ wi : World, wi = wz := ⟨_, rfl⟩
  have MRi := MR
  have Ci := C
  have EE := Only.refl (fun b => b = ga) wi
  rw [← hwi] at MRi Ci KB
  rw [show Only (fun b => b = ga) wi wi = Only (fun b => b = ga) wi wz by rw [hwi]] at EE
  have hown : ∀ r ∈ rs, ∀ b, jaj r.A b → b < wi.heap.size := fun r hr b hb => (MRi.inners.each r hr).lt b hb
  clear hwi MR
  refine wQ 0 ?_
  refine wQ 1 ?_
  refine wQ 2 ?_
  refine wQ 3 ?_
  refine wQ 4 ?_
  refine wQ 5 ?_
  refine wQ 6 ?_
  refine wQ 7 ?_
  refine wQ 8 ?_
  refine wQ 11 ?_
  refine wQ 12 ?_
  refine wR (rs := [9, 13]) (by kernel_rfl) (by simp) ?_
  refine aC rfl (fun K hK => ?_) ?_
  ·have U := nB wz (.cells #[] 188)
   have G0 := nP wz [] 188
   have zgn : w.heap.size < wz.heap.size := Q.lt
   have zgi : wi.heap.size ≤ wz.heap.size := EE.size
   have zga : ga < wz.heap.size := C.lt
   go_simp
   replace Q := Q.next U
   replace R := R.next U
   replace C := C.next U
   replace EE := EE.then_ U
   clear U
   generalize wz.heap.size = gn at *
   generalize wz.alloc _ = wz at *
   have pk7 : wz.cell? ⟨w.heap.size, 1, none⟩ = some (.int .i64 (i : Int)) ∧ wz.cell? ⟨g, 0, none⟩ = some (.int .i64 t) := ⟨Q.cell 1, R.cell 0⟩
   have qc := Q.cell
   have rc := R.cell
   refine hK.out _ _ (by (try dsimp only); first | exact ⟨Q.cell 1, R.cell 0⟩ | exact pk7) (fun hH => ?_)
   clear hK K
   try simp only [Act.put, pX]
   refine wQ 10 ?_
   refine wR (rs := [13]) (by kernel_rfl) (by simp) ?_
   refine aC rfl (fun K hK => ?_) aN
   have cf := C.frozen
   have e0 := (C.cell (i * 5)).trans hc0
   have C8 := C.set_ (i * 5) (.int .i64 1)
   have E8 := EE.setCell (p := ⟨ga, i * 5, none⟩) rfl (.int .i64 1)
   have F8 := (Only.refl (fun b => b = ga) wz).setCell (p := ⟨ga, i * 5, none⟩) rfl (.int .i64 1)
   have Q8 := Q.only F8 (fun h => by omega)
   have R8 := R.only F8 (fun h => by omega)
   have pk8 : (wz.setCell ⟨ga, i * 5, none⟩ (.int .i64 1)).cell? ⟨w.heap.size, 1, none⟩ = some (.int .i64 (i : Int)) ∧ (wz.setCell ⟨ga, i * 5, none⟩ (.int .i64 1)).cell? ⟨g, 0, none⟩ = some (.int .i64 t) := ⟨Q8.cell 1, R8.cell 0⟩
   go_simp
   refine hK.out _ _ (by (try dsimp only); exact pk8) (fun hH => ?_)
   clear hK K
   try simp only [Act.put, pX]
   clear cf e0 F8
   try (have G8 := G0.only ((Only.refl (fun b => b = ga) wz).setCell (p := ⟨ga, i * 5, none⟩) rfl (.int .i64 1)) (fun h => by omega))
   generalize wz.setCell _ _ = wz at *
   replace Q := Q8
   replace R := R8
   replace C := C8
   replace EE := E8
   try (replace G0 := G8)
   clear Q8 R8 C8 E8
   have qc := Q.cell
   have rc := R.cell
   refine wQ 14 ?_
   refine wQ 15 ?_
   refine wR (rs := [16]) (by kernel_rfl) (by simp) ?_
   refine aC rfl (fun K hK => ?_) aN
   have cf := C.frozen
   have e1 := (C.cell (i * 5 + 1)).trans ((List.getElem?_set_ne (show i * 5 ≠ i * 5 + 1 by omega)).trans hc1)
   have e2 := (C.cell (i * 5 + 1 + 1)).trans ((List.getElem?_set_ne (show i * 5 ≠ i * 5 + 2 by omega)).trans hc2)
   have e3 := (C.cell (i * 5 + 1 + 2)).trans ((List.getElem?_set_ne (show i * 5 ≠ i * 5 + 3 by omega)).trans hc3)
   have e4 := (C.cell (i * 5 + 1 + 3)).trans ((List.getElem?_set_ne (show i * 5 ≠ i * 5 + 4 by omega)).trans hc4)
   have CF := ((((C.set_ (i * 5 + 1) (.int .i64 ((i : Int) + 1))).set_ (i * 5 + 1 + 1) (.int .i64 t)).set_ (i * 5 + 1 + 2) (.int .i64 (-1))).set_ (i * 5 + 1 + 3) (.slice (some ⟨gn, 0, none⟩) 0 0))
   have EF := ((((EE.setCell (p := ⟨ga, i * 5 + 1, none⟩) rfl (.int .i64 ((i : Int) + 1))).setCell (p := ⟨ga, i * 5 + 1 + 1, none⟩) rfl (.int .i64 t)).setCell (p := ⟨ga, i * 5 + 1 + 2, none⟩) rfl (.int .i64 (-1))).setCell (p := ⟨ga, i * 5 + 1 + 3, none⟩) rfl (.slice (some ⟨gn, 0, none⟩) 0 0))
   have FF := (((((Only.refl (fun b => b = ga) wz).setCell (p := ⟨ga, i * 5 + 1, none⟩) rfl (.int .i64 ((i : Int) + 1))).setCell (p := ⟨ga, i * 5 + 1 + 1, none⟩) rfl (.int .i64 t)).setCell (p := ⟨ga, i * 5 + 1 + 2, none⟩) rfl (.int .i64 (-1))).setCell (p := ⟨ga, i * 5 + 1 + 3, none⟩) rfl (.slice (some ⟨gn, 0, none⟩) 0 0))
   have QF := Q.only FF (fun h => by omega)
   have RF := R.only FF (fun h => by omega)
   have GF := G0.only FF (fun h => by omega)
   have pk9 : ((((wz.setCell ⟨ga, i * 5 + 1, none⟩ (.int .i64 ((i : Int) + 1))).setCell ⟨ga, i * 5 + 1 + 1, none⟩ (.int .i64 t)).setCell ⟨ga, i * 5 + 1 + 2, none⟩ (.int .i64 (-1))).setCell ⟨ga, i * 5 + 1 + 3, none⟩ (.slice (some ⟨gn, 0, none⟩) 0 0)).cell? ⟨w.heap.size, 1, none⟩ = some (.int .i64 (i : Int)) ∧ ((((wz.setCell ⟨ga, i * 5 + 1, none⟩ (.int .i64 ((i : Int) + 1))).setCell ⟨ga, i * 5 + 1 + 1, none⟩ (.int .i64 t)).setCell ⟨ga, i * 5 + 1 + 2, none⟩ (.int .i64 (-1))).setCell ⟨ga, i * 5 + 1 + 3, none⟩ (.slice (some ⟨gn, 0, none⟩) 0 0)).cell? ⟨g, 0, none⟩ = some (.int .i64 t) := ⟨QF.cell 1, RF.cell 0⟩
   go_simp
   rw [HWI.out]
   refine hK.out _ _ (by (try dsimp only); exact pk9) (fun hH => ?_)
   clear hK K
   try simp only [Act.put, pX]
   skip
   refine wD (by kernel_rfl) ?_ _
   have MF := MRi.swap (r := ⟨⟨1, (i : Int) + 1, t, -1, []⟩, some ⟨gn, 0, none⟩, 0, 0⟩) (D := fun b => b = gn) Ci hk EF CF (by simp only [List.length_set]) (by
    intro j hj
    have hj5 : j < 5 := hj
    have hlt0 : i * 5 < cur.length := by omega
    have hlt1 : i * 5 + 1 < cur.length := by omega
    have hlt2 : i * 5 + 2 < cur.length := by omega
    have hlt3 : i * 5 + 3 < cur.length := by omega
    have hlt4 : i * 5 + 4 < cur.length := by omega
    match j, hj5 with
    | 0, _ => exact ((List.getElem?_set_ne (show i * 5 + 1 + 3 ≠ i * 5 + 0 by omega)).trans ((List.getElem?_set_ne (show i * 5 + 1 + 2 ≠ i * 5 + 0 by omega)).trans ((List.getElem?_set_ne (show i * 5 + 1 + 1 ≠ i * 5 + 0 by omega)).trans ((List.getElem?_set_ne (show i * 5 + 1 ≠ i * 5 + 0 by omega)).trans (List.getElem?_set_self (by (try simp only [List.length_set]); exact hlt0))))))
    | 1, _ => exact ((List.getElem?_set_ne (show i * 5 + 1 + 3 ≠ i * 5 + 1 by omega)).trans ((List.getElem?_set_ne (show i * 5 + 1 + 2 ≠ i * 5 + 1 by omega)).trans ((List.getElem?_set_ne (show i * 5 + 1 + 1 ≠ i * 5 + 1 by omega)).trans (List.getElem?_set_self (by (try simp only [List.length_set]); exact hlt1)))))
    | 2, _ => exact ((List.getElem?_set_ne (show i * 5 + 1 + 3 ≠ i * 5 + 2 by omega)).trans ((List.getElem?_set_ne (show i * 5 + 1 + 2 ≠ i * 5 + 2 by omega)).trans (List.getElem?_set_self (by (try simp only [List.length_set]); exact hlt2))))
    | 3, _ => exact ((List.getElem?_set_ne (show i * 5 + 1 + 3 ≠ i * 5 + 3 by omega)).trans (List.getElem?_set_self (by (try simp only [List.length_set]); exact hlt3)))
    | 4, _ => exact (List.getElem?_set_self (by (try simp only [List.length_set]); exact hlt4))) (fun j hj => by
    have hj5 : ¬ (i * 5 ≤ j ∧ j < i * 5 + 5) := hj
    rw [List.getElem?_set_ne (by omega), List.getElem?_set_ne (by omega), List.getElem?_set_ne (by omega), List.getElem?_set_ne (by omega), List.getElem?_set_ne (by omega)]) ⟨jci (Nat.zero_le _) GF rfl (Nat.le_refl _) (Nat.zero_le _) rfl, fun b hb => by simpa [jaj, Value.ownBlock, eq_comm] using hb⟩ (fun b hb => ⟨by omega, by omega⟩) (fun h => by omega) (fun r hr b hb (h : b = gn) => by have := hown r hr b hb; omega)
   have KF := KB.trans (EF.below (fun b (hb : b = ga) => by rw [hb]; exact hga.1) (by have := KB.size; omega))
   have HR := Lib.hid (show jbk ⟨t, cl, xs⟩ k (i : Int) v = some ⟨t, cl, xs.set i ⟨1, (i : Int) + 1, t, -1, []⟩⟩ by rw [HE.out]; unfold jb6; rw [if_pos (by exact K1.out), if_pos ⟨S0.out, V0.out⟩]; rfl)
   go_wp2_with fail
   go_ret
   exact ⟨by rw [HR.out]; rfl, KF, fun r' h => by
    have h2 := HR.out.symm.trans h
    injection h2 with h2
    subst h2
    exact ⟨_, _, _, RF, ⟨_, by rw [List.map_set, hrs], MF⟩⟩⟩
  refine aC rfl (fun K hK => ?_) aN
  ·have cf := C.frozen
   have e0 := (C.cell (i * 5)).trans hc0
   have C8 := C.set_ (i * 5) (.int .i64 1)
   have E8 := EE.setCell (p := ⟨ga, i * 5, none⟩) rfl (.int .i64 1)
   have F8 := (Only.refl (fun b => b = ga) wz).setCell (p := ⟨ga, i * 5, none⟩) rfl (.int .i64 1)
   have Q8 := Q.only F8 (fun h => by omega)
   have R8 := R.only F8 (fun h => by omega)
   have pk8 : (wz.setCell ⟨ga, i * 5, none⟩ (.int .i64 1)).cell? ⟨w.heap.size, 1, none⟩ = some (.int .i64 (i : Int)) ∧ (wz.setCell ⟨ga, i * 5, none⟩ (.int .i64 1)).cell? ⟨g, 0, none⟩ = some (.int .i64 t) := ⟨Q8.cell 1, R8.cell 0⟩
   go_simp
   refine hK.out _ _ (by (try dsimp only); exact pk8) (fun hH => ?_)
   clear hK K
   try simp only [Act.put, pX]
   clear cf e0 F8
   try (have G8 := G0.only ((Only.refl (fun b => b = ga) wz).setCell (p := ⟨ga, i * 5, none⟩) rfl (.int .i64 1)) (fun h => by omega))
   generalize wz.setCell _ _ = wz at *
   replace Q := Q8
   replace R := R8
   replace C := C8
   replace EE := E8
   try (replace G0 := G8)
   clear Q8 R8 C8 E8
   have qc := Q.cell
   have rc := R.cell
   refine wR (rs := [9]) (by kernel_rfl) (by simp) ?_
   refine aC rfl (fun K hK => ?_) aN
   have U := nB wz (.cells #[] 188)
   have G0 := nP wz [] 188
   have zgn : w.heap.size < wz.heap.size := Q.lt
   have zgi : wi.heap.size ≤ wz.heap.size := EE.size
   have zga : ga < wz.heap.size := C.lt
   go_simp
   replace Q := Q.next U
   replace R := R.next U
   replace C := C.next U
   replace EE := EE.then_ U
   clear U
   generalize wz.heap.size = gn at *
   generalize wz.alloc _ = wz at *
   have pk7 : wz.cell? ⟨w.heap.size, 1, none⟩ = some (.int .i64 (i : Int)) ∧ wz.cell? ⟨g, 0, none⟩ = some (.int .i64 t) := ⟨Q.cell 1, R.cell 0⟩
   have qc := Q.cell
   have rc := R.cell
   refine hK.out _ _ (by (try dsimp only); first | exact ⟨Q.cell 1, R.cell 0⟩ | exact pk7) (fun hH => ?_)
   clear hK K
   try simp only [Act.put, pX]
   refine wQ 10 ?_
   refine wQ 14 ?_
   refine wQ 15 ?_
   refine wR (rs := [16]) (by kernel_rfl) (by simp) ?_
   refine aC rfl (fun K hK => ?_) aN
   have cf := C.frozen
   have e1 := (C.cell (i * 5 + 1)).trans ((List.getElem?_set_ne (show i * 5 ≠ i * 5 + 1 by omega)).trans hc1)
   have e2 := (C.cell (i * 5 + 1 + 1)).trans ((List.getElem?_set_ne (show i * 5 ≠ i * 5 + 2 by omega)).trans hc2)
   have e3 := (C.cell (i * 5 + 1 + 2)).trans ((List.getElem?_set_ne (show i * 5 ≠ i * 5 + 3 by omega)).trans hc3)
   have e4 := (C.cell (i * 5 + 1 + 3)).trans ((List.getElem?_set_ne (show i * 5 ≠ i * 5 + 4 by omega)).trans hc4)
   have CF := ((((C.set_ (i * 5 + 1) (.int .i64 ((i : Int) + 1))).set_ (i * 5 + 1 + 1) (.int .i64 t)).set_ (i * 5 + 1 + 2) (.int .i64 (-1))).set_ (i * 5 + 1 + 3) (.slice (some ⟨gn, 0, none⟩) 0 0))
   have EF := ((((EE.setCell (p := ⟨ga, i * 5 + 1, none⟩) rfl (.int .i64 ((i : Int) + 1))).setCell (p := ⟨ga, i * 5 + 1 + 1, none⟩) rfl (.int .i64 t)).setCell (p := ⟨ga, i * 5 + 1 + 2, none⟩) rfl (.int .i64 (-1))).setCell (p := ⟨ga, i * 5 + 1 + 3, none⟩) rfl (.slice (some ⟨gn, 0, none⟩) 0 0))
   have FF := (((((Only.refl (fun b => b = ga) wz).setCell (p := ⟨ga, i * 5 + 1, none⟩) rfl (.int .i64 ((i : Int) + 1))).setCell (p := ⟨ga, i * 5 + 1 + 1, none⟩) rfl (.int .i64 t)).setCell (p := ⟨ga, i * 5 + 1 + 2, none⟩) rfl (.int .i64 (-1))).setCell (p := ⟨ga, i * 5 + 1 + 3, none⟩) rfl (.slice (some ⟨gn, 0, none⟩) 0 0))
   have QF := Q.only FF (fun h => by omega)
   have RF := R.only FF (fun h => by omega)
   have GF := G0.only FF (fun h => by omega)
   have pk9 : ((((wz.setCell ⟨ga, i * 5 + 1, none⟩ (.int .i64 ((i : Int) + 1))).setCell ⟨ga, i * 5 + 1 + 1, none⟩ (.int .i64 t)).setCell ⟨ga, i * 5 + 1 + 2, none⟩ (.int .i64 (-1))).setCell ⟨ga, i * 5 + 1 + 3, none⟩ (.slice (some ⟨gn, 0, none⟩) 0 0)).cell? ⟨w.heap.size, 1, none⟩ = some (.int .i64 (i : Int)) ∧ ((((wz.setCell ⟨ga, i * 5 + 1, none⟩ (.int .i64 ((i : Int) + 1))).setCell ⟨ga, i * 5 + 1 + 1, none⟩ (.int .i64 t)).setCell ⟨ga, i * 5 + 1 + 2, none⟩ (.int .i64 (-1))).setCell ⟨ga, i * 5 + 1 + 3, none⟩ (.slice (some ⟨gn, 0, none⟩) 0 0)).cell? ⟨g, 0, none⟩ = some (.int .i64 t) := ⟨QF.cell 1, RF.cell 0⟩
   go_simp
   rw [HWI.out]
   refine hK.out _ _ (by (try dsimp only); exact pk9) (fun hH => ?_)
   clear hK K
   try simp only [Act.put, pX]
   skip
   refine wD (by kernel_rfl) ?_ _
   have MF := MRi.swap (r := ⟨⟨1, (i : Int) + 1, t, -1, []⟩, some ⟨gn, 0, none⟩, 0, 0⟩) (D := fun b => b = gn) Ci hk EF CF (by simp only [List.length_set]) (by
    intro j hj
    have hj5 : j < 5 := hj
    have hlt0 : i * 5 < cur.length := by omega
    have hlt1 : i * 5 + 1 < cur.length := by omega
    have hlt2 : i * 5 + 2 < cur.length := by omega
    have hlt3 : i * 5 + 3 < cur.length := by omega
    have hlt4 : i * 5 + 4 < cur.length := by omega
    match j, hj5 with
    | 0, _ => exact ((List.getElem?_set_ne (show i * 5 + 1 + 3 ≠ i * 5 + 0 by omega)).trans ((List.getElem?_set_ne (show i * 5 + 1 + 2 ≠ i * 5 + 0 by omega)).trans ((List.getElem?_set_ne (show i * 5 + 1 + 1 ≠ i * 5 + 0 by omega)).trans ((List.getElem?_set_ne (show i * 5 + 1 ≠ i * 5 + 0 by omega)).trans (List.getElem?_set_self (by (try simp only [List.length_set]); exact hlt0))))))
    | 1, _ => exact ((List.getElem?_set_ne (show i * 5 + 1 + 3 ≠ i * 5 + 1 by omega)).trans ((List.getElem?_set_ne (show i * 5 + 1 + 2 ≠ i * 5 + 1 by omega)).trans ((List.getElem?_set_ne (show i * 5 + 1 + 1 ≠ i * 5 + 1 by omega)).trans (List.getElem?_set_self (by (try simp only [List.length_set]); exact hlt1)))))
    | 2, _ => exact ((List.getElem?_set_ne (show i * 5 + 1 + 3 ≠ i * 5 + 2 by omega)).trans ((List.getElem?_set_ne (show i * 5 + 1 + 2 ≠ i * 5 + 2 by omega)).trans (List.getElem?_set_self (by (try simp only [List.length_set]); exact hlt2))))
    | 3, _ => exact ((List.getElem?_set_ne (show i * 5 + 1 + 3 ≠ i * 5 + 3 by omega)).trans (List.getElem?_set_self (by (try simp only [List.length_set]); exact hlt3)))
    | 4, _ => exact (List.getElem?_set_self (by (try simp only [List.length_set]); exact hlt4))) (fun j hj => by
    have hj5 : ¬ (i * 5 ≤ j ∧ j < i * 5 + 5) := hj
    rw [List.getElem?_set_ne (by omega), List.getElem?_set_ne (by omega), List.getElem?_set_ne (by omega), List.getElem?_set_ne (by omega), List.getElem?_set_ne (by omega)]) ⟨jci (Nat.zero_le _) GF rfl (Nat.le_refl _) (Nat.zero_le _) rfl, fun b hb => by simpa [jaj, Value.ownBlock, eq_comm] using hb⟩ (fun b hb => ⟨by omega, by omega⟩) (fun h => by omega) (fun r hr b hb (h : b = gn) => by have := hown r hr b hb; omega)
   have KF := KB.trans (EF.below (fun b (hb : b = ga) => by rw [hb]; exact hga.1) (by have := KB.size; omega))
   have HR := Lib.hid (show jbk ⟨t, cl, xs⟩ k (i : Int) v = some ⟨t, cl, xs.set i ⟨1, (i : Int) + 1, t, -1, []⟩⟩ by rw [HE.out]; unfold jb6; rw [if_pos (by exact K1.out), if_pos ⟨S0.out, V0.out⟩]; rfl)
   go_wp2_with fail
   go_ret
   exact ⟨by rw [HR.out]; rfl, KF, fun r' h => by
    have h2 := HR.out.symm.trans h
    injection h2 with h2
    subst h2
    exact ⟨_, _, _, RF, ⟨_, by rw [List.map_set, hrs], MF⟩⟩⟩
 ·have f1 : (k == 2) = false := beq_eq_false_iff_ne.2 k1
  have K2 := Lib.hid k1
  clear k1
  by_cases s1 : x.state = 1
  rotate_left 1
  ·have f2 : (x.state != 1) = true := bne_iff_ne.2 s1
   have HR := Lib.hid (show jbk ⟨t, cl, xs⟩ k (i : Int) v = none by rw [HE.out]; unfold jb6; rw [if_neg K2.out, if_neg (fun h => s1 h.1)]; rfl)
   clear s1
   go_wp2_with fail
   go_ret
   exact GivesRStep.no HR.out KB
  have f2 : (x.state != 1) = false := by rw [s1]; rfl
  have S1 := Lib.hid s1
  clear s1
  by_cases k3 : k = 3
  ·have f3 : (k != 3) = false := by rw [k3]; rfl
   have f4 : (k == 3) = true := beq_iff_eq.2 k3
   have K1 := Lib.hid k3
   clear k3
   cases cb : jda v
   ·have HR := Lib.hid (show jbk ⟨t, cl, xs⟩ k (i : Int) v = none by rw [HE.out]; unfold jb6; rw [if_neg K2.out, if_pos ⟨S1.out, .inl K1.out⟩, if_pos K1.out, if_neg (fun h => by rw [cb] at h; cases h.1)]; rfl)
    have CB := Lib.hid cb
    clear cb
    go_wp2_with (go_at_call 192; refine (jar _ _).mono ?_; rw [CB.out]; rintro e w' ⟨rfl, rfl⟩)
    go_ret
    exact GivesRStep.no HR.out KB
   have CB := Lib.hid cb
   clear cb
   by_cases m12 : m = 12
   ·have f5 : ((m : Int) == 12) = true := by rw [m12]; rfl
    have HR := Lib.hid (show jbk ⟨t, cl, xs⟩ k (i : Int) v = none by rw [HE.out]; unfold jb6; rw [if_neg K2.out, if_pos ⟨S1.out, .inl K1.out⟩, if_pos K1.out, if_neg (fun h => by have := HMX.out; omega)]; rfl)
    have M12 := Lib.hid m12
    clear m12
    go_wp2_with (go_at_call 192; refine (jar _ _).mono ?_; rw [CB.out]; rintro e w' ⟨rfl, rfl⟩)
    go_ret
    exact GivesRStep.no HR.out KB
   have f5 : ((m : Int) == 12) = false := beq_eq_false_iff_ne.2 (by omega)
   have ML := Lib.hid (show x.punches.length < 12 by have := HMX.out; omega)
   clear m12
   go_upto_region 16 with (go_at_call 192; refine (jar _ _).mono ?_; rw [CB.out]; rintro e w' ⟨rfl, rfl⟩)
   clear qc rc e0 e1 e2 e3 e4
   have b := (Quiet.one w2).below w2.heap.size
   replace KB := KB.trans (b.mono (by have := KB.size; have := R.lt; omega))
   replace Q := Q.next b
   replace R := R.next b
   replace MR := MR.next b
   replace C := C.next b
   clear b
   have e4 := (C.cell (i * 5 + 1 + 3)).trans hc4
   refine wp_region_held_drew (S := fun w' => w'.cell? ⟨w.heap.size, 2, none⟩ = some (.int .i64 v) ∧ w'.cell? ⟨g, 0, none⟩ = some (.int .i64 t)) (by kernel_rfl) (by (try dsimp only); first | exact ⟨Q.cell 2, R.cell 0⟩ | exact pk1 | exact pk7) (fun hH => ?_)
   generalize w2.drew = wz at *
   refine wQ 0 ?_
   refine wQ 1 ?_
   refine wQ 2 ?_
   refine wQ 3 ?_
   refine wQ 4 ?_
   refine wQ 6 ?_
   refine wQ 7 ?_
   refine wQ 8 ?_
   refine wQ 9 ?_
   refine wQ 10 ?_
   refine wQ 11 ?_
   refine wQ 12 ?_
   refine wR (rs := [5, 13]) (by kernel_rfl) (by simp) ?_
   refine aC rfl (fun K hK => ?_) ?_
   ·go_simp
    refine hK.out _ _ (by (try dsimp only); first | exact ⟨Q.cell 2, R.cell 0⟩ | exact pk1 | exact pk7) (fun hH => ?_)
    clear hK K
    try simp only [Act.put, pX]
    refine wR (rs := [13]) (by kernel_rfl) (by simp) ?_
    refine aC rfl (fun K hK => ?_) aN
    have U := nB wz (.cells #[v, t] 188)
    have G0 := nP wz [v, t] 188
    have zz := nZ wz (.cells #[v, t] 188)
    have zga : ga < wz.heap.size := C.lt
    have Q1 := Q.next U
    have R1 := R.next U
    have MR1 := MR.next U
    have C1 := C.next U
    have KW := KB.trans (U.mono (by have := C.lt; omega))
    have pk1 : (wz.alloc (.cells #[v, t] 188)).cell? ⟨w.heap.size, 2, none⟩ = some (.int .i64 v) ∧ (wz.alloc (.cells #[v, t] 188)).cell? ⟨g, 0, none⟩ = some (.int .i64 t) := ⟨Q1.cell 2, R1.cell 0⟩
    have e4b := (C1.cell (i * 5 + 1 + 3)).trans hc4
    have HU := Lib.hid U
    clear U
    go_simp
    refine hK.out _ _ (by (try dsimp only); first | exact ⟨Q.cell 2, R.cell 0⟩ | exact pk1 | exact pk7) (fun hH => ?_)
    clear hK K
    try simp only [Act.put, pX]
    refine wR (rs := [14]) (by kernel_rfl) (by simp) ?_
    refine aC rfl (fun K hK => ?_) aN
    have hlow := (MR1.inners.each rs[i] (List.getElem_mem hk))
    rw [hri] at hlow
    refine jas rfl _ _ _ (by rfl) Tryz.underlying104 jbg rfl (by decide) (by rfl) hlow.own (by rfl) (m := 1) (G0.sees (s := 2) (Nat.zero_le _) rfl) (by rfl) (show m ≤ 1000000000 by omega) (by omega) (by decide) (Nat.zero_le _) ?_
    intro A7 c7 w7 o7 h7 b7 q7
    have hoB : ∀ b, jaj Bp b → B0 ≤ b ∧ b ≠ g := fun b hb => hlow.top b hb
    have hoL : ∀ b, jaj Bp b → b < wz.heap.size := fun b hb => by
     have h := (MR.inners.each rs[i] (List.getElem_mem hk)).lt b
     rw [hri] at h
     exact h hb
    have hoC : ¬ jaj Bp ga := fun h => by
     have h2 := MR.apart rs[i] (List.getElem_mem hk) ga
     rw [hri] at h2
     exact h2 h rfl
    have Q7 := Q1.only h7 HNQ
    have R7 := R1.only h7 (fun h => (hoB g h).2 rfl)
    have C7 := C1.only h7 hoC
    have K7 := KW.trans (h7.below (fun b hb => (hoB b hb).1) (by have := KW.size; omega))
    have e4c := (C7.cell (i * 5 + 1 + 3)).trans hc4
    have f7 := C7.frozen
    have pk7 : w7.cell? ⟨w.heap.size, 2, none⟩ = some (.int .i64 v) ∧ w7.cell? ⟨g, 0, none⟩ = some (.int .i64 t) := ⟨Q7.cell 2, R7.cell 0⟩
    have EF := ((Only.refl (fun b => b = ga) w7).setCell (p := ⟨ga, i * 5 + 1 + 3, none⟩) rfl (.slice A7 (m + 1) c7))
    have RF := R7.only EF (fun h => by omega)
    have pk9 : (w7.setCell ⟨ga, i * 5 + 1 + 3, none⟩ (.slice A7 (m + 1) c7)).cell? ⟨w.heap.size, 2, none⟩ = some (.int .i64 v) ∧ (w7.setCell ⟨ga, i * 5 + 1 + 3, none⟩ (.slice A7 (m + 1) c7)).cell? ⟨g, 0, none⟩ = some (.int .i64 t) := ⟨(Q7.only EF (fun h => by omega)).cell 2, RF.cell 0⟩
    refine hK.out _ _ (by (try dsimp only); first | exact ⟨Q.cell 2, R.cell 0⟩ | exact pk1 | exact pk7) (fun hH => ?_)
    clear hK K
    try simp only [Act.put, pX]
    refine wQ 15 ?_
    refine wQ 16 ?_
    refine wQ 17 ?_
    refine wR (rs := [18]) (by kernel_rfl) (by simp) ?_
    refine aC rfl (fun K hK => ?_) aN
    go_simp
    refine hK.out _ _ (by (try dsimp only); exact pk9) (fun hH => ?_)
    clear hK K
    try simp only [Act.put, pX]
    refine wD (by kernel_rfl) ?_ _
    have CF := (C7.set_ (i * 5 + 1 + 3) (.slice A7 (m + 1) c7))
    have h70 : Only (jaj rs[i].A) wz w7 := by rw [hri]; exact (Only.of_below HU.out).trans h7
    have z7 := h7.size
    have MF := MR.regrow (y := { x with punches := x.punches ++ [⟨v, t⟩] }) (A7 := A7) (m7 := m + 1) (c7 := c7) C hk h70 ⟨by show w7.ownsRow _ _ _ _ _ (List.flatMap Punch.enc (x.punches ++ [⟨v, t⟩])); rw [List.flatMap_append]; exact o7, fun b hb => hb⟩ (fun b hb => by rw [hri]; exact (q7 b hb).imp id (fun h => by omega)) EF CF (by simp) (by
     intro j hj
     have hj5 : j < 5 := hj
     have hlt0 : i * 5 < cur.length := by omega
     have hlt1 : i * 5 + 1 < cur.length := by omega
     have hlt2 : i * 5 + 2 < cur.length := by omega
     have hlt3 : i * 5 + 3 < cur.length := by omega
     have hlt4 : i * 5 + 4 < cur.length := by omega
     match j, hj5 with
     | 0, _ => exact ((List.getElem?_set_ne (show i * 5 + 1 + 3 ≠ i * 5 + 0 by omega)).trans hc0)
     | 1, _ => exact ((List.getElem?_set_ne (show i * 5 + 1 + 3 ≠ i * 5 + 1 by omega)).trans hc1)
     | 2, _ => exact ((List.getElem?_set_ne (show i * 5 + 1 + 3 ≠ i * 5 + 2 by omega)).trans hc2)
     | 3, _ => exact ((List.getElem?_set_ne (show i * 5 + 1 + 3 ≠ i * 5 + 3 by omega)).trans hc3)
     | 4, _ => exact (List.getElem?_set_self (by (try simp only [List.length_set]); exact hlt4))) (fun j hj => by
     have hj5 : ¬ (i * 5 ≤ j ∧ j < i * 5 + 5) := hj
     rw [List.getElem?_set_ne (by omega)]) (fun b hb => by
     rcases q7 b hb with h | h
     ·exact hoB b h
     ·have := C.lt; have := R.lt; exact ⟨by omega, by omega⟩)
    have KF := K7.trans (EF.below (fun b (hb : b = ga) => by rw [hb]; exact hga.1) (by have := K7.size; omega))
    have HR := Lib.hid (show jbk ⟨t, cl, xs⟩ k (i : Int) v = some ⟨t, cl, xs.set i { x with punches := x.punches ++ [⟨v, t⟩] }⟩ by rw [HE.out]; unfold jb6; rw [if_neg K2.out, if_pos ⟨S1.out, .inl K1.out⟩, if_pos K1.out, if_pos ⟨CB.out, ML.out⟩]; rfl)
    go_wp2_with fail
    go_ret
    exact ⟨by rw [HR.out]; rfl, KF, fun r' h => by
     have h2 := HR.out.symm.trans h
     injection h2 with h2
     subst h2
     exact ⟨_, _, _, RF, ⟨_, by rw [List.map_set, hrs], MF⟩⟩⟩
   refine aC rfl (fun K hK => ?_) aN
   ·have U := nB wz (.cells #[v, t] 188)
    have G0 := nP wz [v, t] 188
    have zz := nZ wz (.cells #[v, t] 188)
    have zga : ga < wz.heap.size := C.lt
    have Q1 := Q.next U
    have R1 := R.next U
    have MR1 := MR.next U
    have C1 := C.next U
    have KW := KB.trans (U.mono (by have := C.lt; omega))
    have pk1 : (wz.alloc (.cells #[v, t] 188)).cell? ⟨w.heap.size, 2, none⟩ = some (.int .i64 v) ∧ (wz.alloc (.cells #[v, t] 188)).cell? ⟨g, 0, none⟩ = some (.int .i64 t) := ⟨Q1.cell 2, R1.cell 0⟩
    have e4b := (C1.cell (i * 5 + 1 + 3)).trans hc4
    have HU := Lib.hid U
    clear U
    go_simp
    refine hK.out _ _ (by (try dsimp only); first | exact ⟨Q.cell 2, R.cell 0⟩ | exact pk1 | exact pk7) (fun hH => ?_)
    clear hK K
    try simp only [Act.put, pX]
    refine wR (rs := [5]) (by kernel_rfl) (by simp) ?_
    refine aC rfl (fun K hK => ?_) aN
    go_simp
    refine hK.out _ _ (by (try dsimp only); first | exact ⟨Q.cell 2, R.cell 0⟩ | exact pk1 | exact pk7) (fun hH => ?_)
    clear hK K
    try simp only [Act.put, pX]
    refine wR (rs := [14]) (by kernel_rfl) (by simp) ?_
    refine aC rfl (fun K hK => ?_) aN
    have hlow := (MR1.inners.each rs[i] (List.getElem_mem hk))
    rw [hri] at hlow
    refine jas rfl _ _ _ (by rfl) Tryz.underlying104 jbg rfl (by decide) (by rfl) hlow.own (by rfl) (m := 1) (G0.sees (s := 2) (Nat.zero_le _) rfl) (by rfl) (show m ≤ 1000000000 by omega) (by omega) (by decide) (Nat.zero_le _) ?_
    intro A7 c7 w7 o7 h7 b7 q7
    have hoB : ∀ b, jaj Bp b → B0 ≤ b ∧ b ≠ g := fun b hb => hlow.top b hb
    have hoL : ∀ b, jaj Bp b → b < wz.heap.size := fun b hb => by
     have h := (MR.inners.each rs[i] (List.getElem_mem hk)).lt b
     rw [hri] at h
     exact h hb
    have hoC : ¬ jaj Bp ga := fun h => by
     have h2 := MR.apart rs[i] (List.getElem_mem hk) ga
     rw [hri] at h2
     exact h2 h rfl
    have Q7 := Q1.only h7 HNQ
    have R7 := R1.only h7 (fun h => (hoB g h).2 rfl)
    have C7 := C1.only h7 hoC
    have K7 := KW.trans (h7.below (fun b hb => (hoB b hb).1) (by have := KW.size; omega))
    have e4c := (C7.cell (i * 5 + 1 + 3)).trans hc4
    have f7 := C7.frozen
    have pk7 : w7.cell? ⟨w.heap.size, 2, none⟩ = some (.int .i64 v) ∧ w7.cell? ⟨g, 0, none⟩ = some (.int .i64 t) := ⟨Q7.cell 2, R7.cell 0⟩
    have EF := ((Only.refl (fun b => b = ga) w7).setCell (p := ⟨ga, i * 5 + 1 + 3, none⟩) rfl (.slice A7 (m + 1) c7))
    have RF := R7.only EF (fun h => by omega)
    have pk9 : (w7.setCell ⟨ga, i * 5 + 1 + 3, none⟩ (.slice A7 (m + 1) c7)).cell? ⟨w.heap.size, 2, none⟩ = some (.int .i64 v) ∧ (w7.setCell ⟨ga, i * 5 + 1 + 3, none⟩ (.slice A7 (m + 1) c7)).cell? ⟨g, 0, none⟩ = some (.int .i64 t) := ⟨(Q7.only EF (fun h => by omega)).cell 2, RF.cell 0⟩
    refine hK.out _ _ (by (try dsimp only); first | exact ⟨Q.cell 2, R.cell 0⟩ | exact pk1 | exact pk7) (fun hH => ?_)
    clear hK K
    try simp only [Act.put, pX]
    refine wQ 15 ?_
    refine wQ 16 ?_
    refine wQ 17 ?_
    refine wR (rs := [18]) (by kernel_rfl) (by simp) ?_
    refine aC rfl (fun K hK => ?_) aN
    go_simp
    refine hK.out _ _ (by (try dsimp only); exact pk9) (fun hH => ?_)
    clear hK K
    try simp only [Act.put, pX]
    refine wD (by kernel_rfl) ?_ _
    have CF := (C7.set_ (i * 5 + 1 + 3) (.slice A7 (m + 1) c7))
    have h70 : Only (jaj rs[i].A) wz w7 := by rw [hri]; exact (Only.of_below HU.out).trans h7
    have z7 := h7.size
    have MF := MR.regrow (y := { x with punches := x.punches ++ [⟨v, t⟩] }) (A7 := A7) (m7 := m + 1) (c7 := c7) C hk h70 ⟨by show w7.ownsRow _ _ _ _ _ (List.flatMap Punch.enc (x.punches ++ [⟨v, t⟩])); rw [List.flatMap_append]; exact o7, fun b hb => hb⟩ (fun b hb => by rw [hri]; exact (q7 b hb).imp id (fun h => by omega)) EF CF (by simp) (by
     intro j hj
     have hj5 : j < 5 := hj
     have hlt0 : i * 5 < cur.length := by omega
     have hlt1 : i * 5 + 1 < cur.length := by omega
     have hlt2 : i * 5 + 2 < cur.length := by omega
     have hlt3 : i * 5 + 3 < cur.length := by omega
     have hlt4 : i * 5 + 4 < cur.length := by omega
     match j, hj5 with
     | 0, _ => exact ((List.getElem?_set_ne (show i * 5 + 1 + 3 ≠ i * 5 + 0 by omega)).trans hc0)
     | 1, _ => exact ((List.getElem?_set_ne (show i * 5 + 1 + 3 ≠ i * 5 + 1 by omega)).trans hc1)
     | 2, _ => exact ((List.getElem?_set_ne (show i * 5 + 1 + 3 ≠ i * 5 + 2 by omega)).trans hc2)
     | 3, _ => exact ((List.getElem?_set_ne (show i * 5 + 1 + 3 ≠ i * 5 + 3 by omega)).trans hc3)
     | 4, _ => exact (List.getElem?_set_self (by (try simp only [List.length_set]); exact hlt4))) (fun j hj => by
     have hj5 : ¬ (i * 5 ≤ j ∧ j < i * 5 + 5) := hj
     rw [List.getElem?_set_ne (by omega)]) (fun b hb => by
     rcases q7 b hb with h | h
     ·exact hoB b h
     ·have := C.lt; have := R.lt; exact ⟨by omega, by omega⟩)
    have KF := K7.trans (EF.below (fun b (hb : b = ga) => by rw [hb]; exact hga.1) (by have := K7.size; omega))
    have HR := Lib.hid (show jbk ⟨t, cl, xs⟩ k (i : Int) v = some ⟨t, cl, xs.set i { x with punches := x.punches ++ [⟨v, t⟩] }⟩ by rw [HE.out]; unfold jb6; rw [if_neg K2.out, if_pos ⟨S1.out, .inl K1.out⟩, if_pos K1.out, if_pos ⟨CB.out, ML.out⟩]; rfl)
    go_wp2_with fail
    go_ret
    exact ⟨by rw [HR.out]; rfl, KF, fun r' h => by
     have h2 := HR.out.symm.trans h
     injection h2 with h2
     subst h2
     exact ⟨_, _, _, RF, ⟨_, by rw [List.map_set, hrs], MF⟩⟩⟩
  have f3 : (k != 3) = true := bne_iff_ne.2 k3
  have f4 : (k == 3) = false := beq_eq_false_iff_ne.2 k3
  have K3 := Lib.hid k3
  clear k3
  by_cases v0 : v = 0
  rotate_left 1
  ·have f5 : (v != 0) = true := bne_iff_ne.2 v0
   have HR := Lib.hid (show jbk ⟨t, cl, xs⟩ k (i : Int) v = none by rw [HE.out]; unfold jb6; rw [if_neg K2.out, if_neg (fun h => h.2.elim K3.out v0)]; rfl)
   clear v0
   go_wp2_with fail
   go_ret
   exact GivesRStep.no HR.out KB
  have f5 : (v != 0) = false := by rw [v0]; rfl
  have V0 := Lib.hid v0
  clear v0
  by_cases k4 : k = 4
  ·have f6 : (k == 4) = true := beq_iff_eq.2 k4
   have K4 := Lib.hid k4
   clear k4
   have EF := (((Only.refl (fun b => b = ga) w2).setCell (p := ⟨ga, i * 5, none⟩) rfl (.int .i64 2)).setCell (p := ⟨ga, i * 5 + 1 + 2, none⟩) rfl (.int .i64 t))
   have RF := R.only EF (fun h => by omega)
   have CF := ((C.set_ (i * 5) (.int .i64 2)).set_ (i * 5 + 1 + 2) (.int .i64 t))
   have MF := MR.turn (y := { x with state := 2, finish := t }) C hk (by rw [hri]; rfl) EF CF (by simp) (by rw [hri]; exact (by
     intro j hj
     have hj5 : j < 5 := hj
     have hlt0 : i * 5 < cur.length := by omega
     have hlt1 : i * 5 + 1 < cur.length := by omega
     have hlt2 : i * 5 + 2 < cur.length := by omega
     have hlt3 : i * 5 + 3 < cur.length := by omega
     have hlt4 : i * 5 + 4 < cur.length := by omega
     match j, hj5 with
     | 0, _ => exact ((List.getElem?_set_ne (show i * 5 + 1 + 2 ≠ i * 5 + 0 by omega)).trans (List.getElem?_set_self (by (try simp only [List.length_set]); exact hlt0)))
     | 1, _ => exact ((List.getElem?_set_ne (show i * 5 + 1 + 2 ≠ i * 5 + 1 by omega)).trans ((List.getElem?_set_ne (show i * 5 ≠ i * 5 + 1 by omega)).trans hc1))
     | 2, _ => exact ((List.getElem?_set_ne (show i * 5 + 1 + 2 ≠ i * 5 + 2 by omega)).trans ((List.getElem?_set_ne (show i * 5 ≠ i * 5 + 2 by omega)).trans hc2))
     | 3, _ => exact (List.getElem?_set_self (by (try simp only [List.length_set]); exact hlt3))
     | 4, _ => exact ((List.getElem?_set_ne (show i * 5 + 1 + 2 ≠ i * 5 + 4 by omega)).trans ((List.getElem?_set_ne (show i * 5 ≠ i * 5 + 4 by omega)).trans hc4)))) (fun j hj => by
     have hj5 : ¬ (i * 5 ≤ j ∧ j < i * 5 + 5) := hj
     rw [List.getElem?_set_ne (by omega), List.getElem?_set_ne (by omega)])
   have KF := KB.trans (EF.below (fun b (hb : b = ga) => by rw [hb]; exact hga.1) (by have := KB.size; omega))
   rw [hri] at MF
   have HR := Lib.hid (show jbk ⟨t, cl, xs⟩ k (i : Int) v = some ⟨t, cl, xs.set i { x with state := 2, finish := t }⟩ by rw [HE.out]; unfold jb6; rw [if_neg K2.out, if_pos ⟨S1.out, .inr V0.out⟩, if_neg K3.out, if_pos K4.out]; rfl)
   go_wp2_with fail
   go_ret
   exact ⟨by rw [HR.out]; rfl, KF, fun r' h => by
    have h2 := HR.out.symm.trans h
    injection h2 with h2
    subst h2
    exact ⟨_, _, _, RF, ⟨_, by rw [List.map_set, hrs], MF⟩⟩⟩
  have f6 : (k == 4) = false := beq_eq_false_iff_ne.2 k4
  have K4 := Lib.hid k4
  clear k4
  by_cases k5 : k = 5
  ·have f7 : (k == 5) = true := beq_iff_eq.2 k5
   have K5 := Lib.hid k5
   clear k5
   have EF := ((Only.refl (fun b => b = ga) w2).setCell (p := ⟨ga, i * 5, none⟩) rfl (.int .i64 3))
   have RF := R.only EF (fun h => by omega)
   have CF := (C.set_ (i * 5) (.int .i64 3))
   have MF := MR.turn (y := { x with state := 3 }) C hk (by rw [hri]; rfl) EF CF (by simp) (by rw [hri]; exact (by
     intro j hj
     have hj5 : j < 5 := hj
     have hlt0 : i * 5 < cur.length := by omega
     have hlt1 : i * 5 + 1 < cur.length := by omega
     have hlt2 : i * 5 + 2 < cur.length := by omega
     have hlt3 : i * 5 + 3 < cur.length := by omega
     have hlt4 : i * 5 + 4 < cur.length := by omega
     match j, hj5 with
     | 0, _ => exact (List.getElem?_set_self (by (try simp only [List.length_set]); exact hlt0))
     | 1, _ => exact ((List.getElem?_set_ne (show i * 5 ≠ i * 5 + 1 by omega)).trans hc1)
     | 2, _ => exact ((List.getElem?_set_ne (show i * 5 ≠ i * 5 + 2 by omega)).trans hc2)
     | 3, _ => exact ((List.getElem?_set_ne (show i * 5 ≠ i * 5 + 3 by omega)).trans hc3)
     | 4, _ => exact ((List.getElem?_set_ne (show i * 5 ≠ i * 5 + 4 by omega)).trans hc4))) (fun j hj => by
     have hj5 : ¬ (i * 5 ≤ j ∧ j < i * 5 + 5) := hj
     rw [List.getElem?_set_ne (by omega)])
   have KF := KB.trans (EF.below (fun b (hb : b = ga) => by rw [hb]; exact hga.1) (by have := KB.size; omega))
   rw [hri] at MF
   have HR := Lib.hid (show jbk ⟨t, cl, xs⟩ k (i : Int) v = some ⟨t, cl, xs.set i { x with state := 3 }⟩ by rw [HE.out]; unfold jb6; rw [if_neg K2.out, if_pos ⟨S1.out, .inr V0.out⟩, if_neg K3.out, if_neg K4.out, if_pos K5.out]; rfl)
   go_wp2_with fail
   go_ret
   exact ⟨by rw [HR.out]; rfl, KF, fun r' h => by
    have h2 := HR.out.symm.trans h
    injection h2 with h2
    subst h2
    exact ⟨_, _, _, RF, ⟨_, by rw [List.map_set, hrs], MF⟩⟩⟩
  have f7 : (k == 5) = false := beq_eq_false_iff_ne.2 k5
  have HR := Lib.hid (show jbk ⟨t, cl, xs⟩ k (i : Int) v = none by rw [HE.out]; unfold jb6; rw [if_neg K2.out, if_pos ⟨S1.out, .inr V0.out⟩, if_neg K3.out, if_neg K4.out, if_neg k5]; rfl)
  clear k5
  go_wp2_with fail
  go_ret
  exact GivesRStep.no HR.out KB
end Go.Proofs.YtflpcdffmpfdpaaGreatDoor
