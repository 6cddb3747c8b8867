/- What the laws of searches draw, further. -/
import Derived.Test.YtjcmlloglnkbfaaCurT
namespace Go.Proofs.Ytjcmlloglnkbfaa
open Go.RowKit

set_option maxHeartbeats 8000000 in
theorem drawFirstIn_any (w : World) (A : Option Addr) (m0 c0 : Nat) (h : CodeIn w A m0) (hm0 : m0 ≤ 1000000) : Calls Try.prog 51 #[.slice A m0 c0] w (DrawnF w) := by
  have U0 : Below w.heap.size w (((w.alloc (.cells #[.int .i64 0, .int .i64 0, .slice none 0 0, .slice none 0 0] 29)).alloc (.cells #[.int .i64 0, .int .i64 0, .int .i64 0, .int .i64 0] 31)).alloc (.cells #[.slice A m0 c0, .int .i64 0, .int .u64 0] 110)) := three _ _ _ _
  have z0 : (((w.alloc (.cells #[.int .i64 0, .int .i64 0, .slice none 0 0, .slice none 0 0] 29)).alloc (.cells #[.int .i64 0, .int .i64 0, .int .i64 0, .int .i64 0] 31)).alloc (.cells #[.slice A m0 c0, .int .i64 0, .int .u64 0] 110)).heap.size = w.heap.size + 3 := by simp
  have rm : Blk (((w.alloc (.cells #[.int .i64 0, .int .i64 0, .slice none 0 0, .slice none 0 0] 29)).alloc (.cells #[.int .i64 0, .int .i64 0, .int .i64 0, .int .i64 0] 31)).alloc (.cells #[.slice A m0 c0, .int .i64 0, .int .u64 0] 110)) w.heap.size 29 [.int .i64 0, .int .i64 0, .slice none 0 0, .slice none 0 0] := ((Blk.at_ rfl : Blk (w.alloc _) w.heap.size 29 [.int .i64 0, .int .i64 0, .slice none 0 0, .slice none 0 0]).next ((Below.refl _ _).alloc (Nat.le_refl _) _)).next ((Below.refl _ _).alloc (Nat.le_refl _) _)
  have rx : Blk (((w.alloc (.cells #[.int .i64 0, .int .i64 0, .slice none 0 0, .slice none 0 0] 29)).alloc (.cells #[.int .i64 0, .int .i64 0, .int .i64 0, .int .i64 0] 31)).alloc (.cells #[.slice A m0 c0, .int .i64 0, .int .u64 0] 110)) (w.heap.size + 1) 31 [.int .i64 0, .int .i64 0, .int .i64 0, .int .i64 0] := by
    have := (Blk.at_ rfl : Blk ((w.alloc (.cells #[.int .i64 0, .int .i64 0, .slice none 0 0, .slice none 0 0] 29)).alloc (.cells #[.int .i64 0, .int .i64 0, .int .i64 0, .int .i64 0] 31)) (w.alloc (.cells #[.int .i64 0, .int .i64 0, .slice none 0 0, .slice none 0 0] 29)).heap.size 31 [.int .i64 0, .int .i64 0, .int .i64 0, .int .i64 0]).next ((Below.refl _ _).alloc (Nat.le_refl _) (.cells #[.slice A m0 c0, .int .i64 0, .int .u64 0] 110))
    simpa using this
  have bc : Blk (((w.alloc (.cells #[.int .i64 0, .int .i64 0, .slice none 0 0, .slice none 0 0] 29)).alloc (.cells #[.int .i64 0, .int .i64 0, .int .i64 0, .int .i64 0] 31)).alloc (.cells #[.slice A m0 c0, .int .i64 0, .int .u64 0] 110)) (w.heap.size + 1 + 1) 110 [.slice A m0 c0, .int .i64 0, .int .u64 0] := by
    have := (Blk.at_ rfl : Blk (((w.alloc (.cells #[.int .i64 0, .int .i64 0, .slice none 0 0, .slice none 0 0] 29)).alloc (.cells #[.int .i64 0, .int .i64 0, .int .i64 0, .int .i64 0] 31)).alloc (.cells #[.slice A m0 c0, .int .i64 0, .int .u64 0] 110)) ((w.alloc (.cells #[.int .i64 0, .int .i64 0, .slice none 0 0, .slice none 0 0] 29)).alloc (.cells #[.int .i64 0, .int .i64 0, .int .i64 0, .int .i64 0] 31)).heap.size 110 [.slice A m0 c0, .int .i64 0, .int .u64 0])
    simpa using this
  have hc0 := cur_new h hm0 U0 (Nat.le_add_right _ (1 + 1)) bc
  clear bc h
  go_enter Try.func51, Try.ntmps51
  go_wp2_with fail
  generalize (((w.alloc (.cells #[.int .i64 0, .int .i64 0, .slice none 0 0, .slice none 0 0] 29)).alloc (.cells #[.int .i64 0, .int .i64 0, .int .i64 0, .int .i64 0] 31)).alloc (.cells #[.slice A m0 c0, .int .i64 0, .int .u64 0] 110)) = w0 at *
  refine (mapOf_any (w.heap.size + 1 + 1) 0 w0 hc0 (by decide)).mono ?_
  rintro e w1 ⟨m, A1, n1, c1, A2, n2, c2, rfl, s1, hn, hs, far1, hc1, o1⟩
  have K1 : Below w.heap.size w w1 := U0.trans (o1.below (fun b (hb : b = _) => by omega) (by omega))
  replace rm := rm.only o1 (fun (e : _ = _) => by omega)
  replace rx := rx.only o1 (fun (e : _ = _) => by omega)
  have hz := o1.size
  have far : ∀ b, OwnB A1 b ∨ OwnB A2 b → w.heap.size + 1 + 1 < b := fun b hb => by have := far1 b hb; omega
  clear far1 o1 hc0 U0
  go_wp2_with fail
  generalize hg : w.heap.size + 1 + 1 = g at *
  have hsz := K1.size
  have U1 : Below w1.heap.size w1 (w1.alloc (.cells #[.int .i64 m.width, .int .i64 m.height, .slice A1 n1 c1, .slice A2 n2 c2] 29)) := (Below.refl _ _).alloc (Nat.le_refl _) _
  have gm0 : Blk (w1.alloc (.cells #[.int .i64 m.width, .int .i64 m.height, .slice A1 n1 c1, .slice A2 n2 c2] 29)) w1.heap.size 29 [.int .i64 m.width, .int .i64 m.height, .slice A1 n1 c1, .slice A2 n2 c2] := Blk.at_ rfl
  have hcA := hc1.next U1
  refine (missing_any g _ m A1 A2 n1 n2 c1 c2 _ hcA (by omega) hs).mono ?_
  rintro e w2 ⟨x, rfl, hsn, hc2, o2⟩
  have K2 : Below w.heap.size w w2 := (K1.trans (U1.mono (by omega))).trans (o2.below (fun b (hb : b = _) => by omega) (by have := U1.size; omega))
  replace s1 : SeesMap w2 A1 n1 A2 n2 m := ⟨(s1.next U1).f1.only o2 (fun b off e _ (hb : b = _) => by have := far b (.inl (by rw [e]; rfl)); omega), (s1.next U1).f2.only o2 (fun b off e _ (hb : b = _) => by have := far b (.inr (by rw [e]; rfl)); omega)⟩
  have hgc := hc1.lt
  replace gm0 := gm0.only o2 (fun (e : _ = _) => by omega)
  replace rm := (rm.next U1).only o2 (fun (e : _ = _) => by omega)
  replace rx := (rx.next U1).only o2 (fun (e : _ = _) => by omega)
  have hz2 : w1.heap.size < w2.heap.size := gm0.lt
  clear U1 K1 hc1 hcA o2
  have c0_ := gm0.cell
  have f0_ := gm0.frozen
  generalize w1.heap.size = gm at *
  go_wp2_with fail
  have U2 : Below w2.heap.size w2 (w2.alloc (.cells #[.int .i64 x.runner, .int .i64 x.start, .int .i64 x.seen, .int .i64 x.place] 31)) := (Below.refl _ _).alloc (Nat.le_refl _) _
  have D0 : DrEnd w (w2.alloc (.cells #[.int .i64 x.runner, .int .i64 x.start, .int .i64 x.seen, .int .i64 x.place] 31)) g gm w2.heap.size m A1 n1 c1 A2 n2 c2 [.int .i64 x.runner, .int .i64 x.start, .int .i64 x.seen, .int .i64 x.place] [.int .i64 0, .int .i64 0, .slice none 0 0, .slice none 0 0] [.int .i64 0, .int .i64 0, .int .i64 0, .int .i64 0] := ⟨rm.next U2, rx.next U2, gm0.next U2, Blk.at_ rfl, s1.next U2, fun b hb => by have := far b hb; omega, by omega, K2.trans (U2.mono (by omega))⟩
  have hc := hc2.next U2
  clear rm rx gm0 s1 far K2 hc2 U2 c0_ f0_
  generalize w2.alloc (.cells #[.int .i64 x.runner, .int .i64 x.start, .int .i64 x.seen, .int .i64 x.place] 31) = wi0 at *
  generalize w2.heap.size = gx at *
  obtain ⟨P, hP⟩ : ∃ P : Nat, m.width * m.height = (P : Int) := ⟨(m.width * m.height).toNat, by have := Int.mul_nonneg hs.1.1 hs.2.1; omega⟩
  have hP100 : (P : Int) ≤ 100 := by rw [← hP]; exact Int.le_trans (Int.mul_le_mul hs.1.2 hs.2.2 hs.2.1 (by decide)) (by decide)
  have hPw : IntKind.i64.wrap (m.width * m.height) = (P : Int) := by rw [hP, IntWalk.i64_in _ (by omega)]
  have hPa : IntKind.i64.wrap ((P : Int) + 1) = (P : Int) + 1 := by rw [IntWalk.i64_in _ (by omega)]
  clear hP
  have D := D0.below ((Quiet.one wi0).below _)
  refine wp_region_held_drew (S := fun w' => w'.cell? ⟨gm, 0, none⟩ = some (.int .i64 m.width) ∧ w'.cell? ⟨gm, 1, none⟩ = some (.int .i64 m.height) ∧ w'.cell? ⟨gm, 2, none⟩ = some (.slice A1 n1 c1) ∧ w'.cell? ⟨gm, 3, none⟩ = some (.slice A2 n2 c2) ∧ w'.cell? ⟨gx, 0, none⟩ = some (.int .i64 x.runner) ∧ w'.cell? ⟨gx, 1, none⟩ = some (.int .i64 x.start) ∧ w'.cell? ⟨gx, 2, none⟩ = some (.int .i64 x.seen) ∧ w'.cell? ⟨gx, 3, none⟩ = some (.int .i64 x.place)) (by kernel_rfl) (⟨D.bm.cell 0, D.bm.cell 1, D.bm.cell 2, D.bm.cell 3, D.bx.cell 0, D.bx.cell 1, D.bx.cell 2, D.bx.cell 3⟩) (fun hHeld => ?_)
  replace hc := hc.next ((Quiet.one wi0).below _)
  generalize wi0.drew = wi1 at *
  refine wpAnyH_take (i := 0) (v := ?_) rfl (by kernel_rfl) (by kernel_rfl) (by kernel_rfl) (fun _ _ _ h => h) (Or.inl ⟨by rfl, ?_⟩) (by assumption) ?_
  rotate_left 1
  · (intro w hSw; (try dsimp only at hSw); go_simp; try with_reducible rfl)
  (try simp only [Act.put, List.setIfInBounds_toArray, List.set_cons_zero, List.set_cons_succ, List.getElem_toArray, List.getElem_cons_zero])
  refine wpAnyH_take (i := 1) (v := ?_) rfl (by kernel_rfl) (by kernel_rfl) (by kernel_rfl) (fun _ _ _ h => h) (Or.inl ⟨by rfl, ?_⟩) (by assumption) ?_
  rotate_left 1
  · (intro w hSw; (try dsimp only at hSw); go_simp; try with_reducible rfl)
  (try simp only [Act.put, List.setIfInBounds_toArray, List.set_cons_zero, List.set_cons_succ, List.getElem_toArray, List.getElem_cons_zero, List.getElem_cons_succ])
  refine wpAnyH_take (i := 2) (v := ?_) rfl (by kernel_rfl) (by kernel_rfl) (by kernel_rfl) (fun _ _ _ h => h) (Or.inl ⟨by rfl, ?_⟩) (by assumption) ?_
  rotate_left 1
  · (intro w hSw; (try dsimp only at hSw); go_simp; try with_reducible rfl)
  (try simp only [Act.put, List.setIfInBounds_toArray, List.set_cons_zero, List.set_cons_succ, List.getElem_toArray, List.getElem_cons_zero, List.getElem_cons_succ])
  refine wpAnyH_take (i := 4) (v := ?_) rfl (by kernel_rfl) (by kernel_rfl) (by kernel_rfl) (fun _ _ _ h => h) (Or.inl ⟨by rfl, ?_⟩) (by assumption) ?_
  rotate_left 1
  · (intro w hSw; (try dsimp only at hSw); go_simp; try with_reducible rfl)
  (try simp only [Act.put, List.setIfInBounds_toArray, List.set_cons_zero, List.set_cons_succ, List.getElem_toArray, List.getElem_cons_zero, List.getElem_cons_succ])
  refine wpAnyH_take (i := 5) (v := ?_) rfl (by kernel_rfl) (by kernel_rfl) (by kernel_rfl) (fun _ _ _ h => h) (Or.inl ⟨by rfl, ?_⟩) (by assumption) ?_
  rotate_left 1
  · (intro w hSw; (try dsimp only at hSw); go_simp; try with_reducible rfl)
  (try simp only [Act.put, List.setIfInBounds_toArray, List.set_cons_zero, List.set_cons_succ, List.getElem_toArray, List.getElem_cons_zero, List.getElem_cons_succ])
  refine wpAnyH_take (i := 6) (v := ?_) rfl (by kernel_rfl) (by kernel_rfl) (by kernel_rfl) (fun _ _ _ h => h) (Or.inl ⟨by rfl, ?_⟩) (by assumption) ?_
  rotate_left 1
  · (intro w hSw; (try dsimp only at hSw); go_simp; try with_reducible rfl)
  (try simp only [Act.put, List.setIfInBounds_toArray, List.set_cons_zero, List.set_cons_succ, List.getElem_toArray, List.getElem_cons_zero, List.getElem_cons_succ])
  refine wpAnyH_take (i := 7) (v := ?_) rfl (by kernel_rfl) (by kernel_rfl) (by kernel_rfl) (fun _ _ _ h => h) (Or.inl ⟨by rfl, ?_⟩) (by assumption) ?_
  rotate_left 1
  · (intro w hSw; (try dsimp only at hSw); go_simp; try with_reducible rfl)
  (try simp only [Act.put, List.setIfInBounds_toArray, List.set_cons_zero, List.set_cons_succ, List.getElem_toArray, List.getElem_cons_zero, List.getElem_cons_succ])
  refine wpAnyH_take (i := 8) (v := ?_) rfl (by kernel_rfl) (by kernel_rfl) (by kernel_rfl) (fun _ _ _ h => h) (Or.inl ⟨by rfl, ?_⟩) (by assumption) ?_
  rotate_left 1
  · (intro w hSw; (try dsimp only at hSw); go_simp; try with_reducible rfl)
  (try simp only [Act.put, List.setIfInBounds_toArray, List.set_cons_zero, List.set_cons_succ, List.getElem_toArray, List.getElem_cons_zero, List.getElem_cons_succ])
  refine wpAnyH_take (i := 9) (v := ?_) rfl (by kernel_rfl) (by kernel_rfl) (by kernel_rfl) (fun _ _ _ h => h) (Or.inl ⟨by rfl, ?_⟩) (by assumption) ?_
  rotate_left 1
  · (intro w hSw; (try dsimp only at hSw); go_simp; try with_reducible rfl)
  (try simp only [Act.put, List.setIfInBounds_toArray, List.set_cons_zero, List.set_cons_succ, List.getElem_toArray, List.getElem_cons_zero, List.getElem_cons_succ])
  refine wpAnyH_take (i := 10) (v := ?_) rfl (by kernel_rfl) (by kernel_rfl) (by kernel_rfl) (fun _ _ _ h => h) (Or.inl ⟨by rfl, ?_⟩) (by assumption) ?_
  rotate_left 1
  · (intro w hSw; (try dsimp only at hSw); go_simp; try with_reducible rfl)
  (try simp only [Act.put, List.setIfInBounds_toArray, List.set_cons_zero, List.set_cons_succ, List.getElem_toArray, List.getElem_cons_zero, List.getElem_cons_succ])
  refine wpAnyH_take (i := 12) (v := ?_) rfl (by kernel_rfl) (by kernel_rfl) (by kernel_rfl) (fun _ _ _ h => h) (Or.inl ⟨by rfl, ?_⟩) (by assumption) ?_
  rotate_left 1
  · (intro w hSw; (try dsimp only at hSw); go_simp; try with_reducible rfl)
  (try simp only [Act.put, List.setIfInBounds_toArray, List.set_cons_zero, List.set_cons_succ, List.getElem_toArray, List.getElem_cons_zero, List.getElem_cons_succ])
  refine wpAnyH_ready (rs := [3]) (by kernel_rfl) (by simp) ?_
  refine AllReadyH.cons rfl (fun K hK => ?_) AllReadyH.nil
  go_simp
  refine (pace_any g _ wi1 hc (by omega)).mono ?_
  rintro e wi2 ⟨pv, rfl, _, kc, oc⟩
  replace D := D.drawn oc
  replace hc := kc
  try replace BL := BL.only oc (fun (e : _ = _) => hgl e)
  clear kc oc
  go_wp2_with fail
  refine hK.out _ _ (⟨D.bm.cell 0, D.bm.cell 1, D.bm.cell 2, D.bm.cell 3, D.bx.cell 0, D.bx.cell 1, D.bx.cell 2, D.bx.cell 3⟩) (fun hHeld => ?_)
  clear hK K
  (try simp only [Act.put, List.setIfInBounds_toArray, List.set_cons_zero, List.set_cons_succ, List.getElem_toArray, List.getElem_cons_zero, List.getElem_cons_succ])
  refine wpAnyH_ready (rs := [11]) (by kernel_rfl) (by simp) ?_
  refine AllReadyH.cons rfl (fun K hK => ?_) AllReadyH.nil
  go_simp
  refine (pick_any ((P : Int) + 1) g _ wi2 hc (by omega) (by omega) (by omega)).mono ?_
  rintro e wi3 ⟨cl, rfl, _, kc, oc⟩
  replace D := D.drawn oc
  replace hc := kc
  try replace BL := BL.only oc (fun (e : _ = _) => hgl e)
  clear kc oc
  go_wp2_with fail
  refine hK.out _ _ (⟨D.bm.cell 0, D.bm.cell 1, D.bm.cell 2, D.bm.cell 3, D.bx.cell 0, D.bx.cell 1, D.bx.cell 2, D.bx.cell 3⟩) (fun hHeld => ?_)
  clear hK K
  (try simp only [Act.put, List.setIfInBounds_toArray, List.set_cons_zero, List.set_cons_succ, List.getElem_toArray, List.getElem_cons_zero, List.getElem_cons_succ])
  refine wpAnyH_ready (rs := [13]) (by kernel_rfl) (by simp) ?_
  refine AllReadyH.cons rfl (fun K hK => ?_) AllReadyH.nil
  go_simp
  refine (pick_any 20 g _ wi3 hc (by omega) (by decide) (by decide)).mono ?_
  rintro e wi4 ⟨r, rfl, hr, kc, oc⟩
  replace D := D.drawn oc
  replace hc := kc
  try replace BL := BL.only oc (fun (e : _ = _) => hgl e)
  clear kc oc
  have hq1 : IntKind.i64.wrap ((r : Int) / 19) = ((r / 19 : Nat) : Int) := by rw [IntWalk.i64_in _ (by have : r ≤ 19 := hr; omega)]; omega
  obtain ⟨dq, hdq⟩ : ∃ dq : Nat, r / 19 = dq := ⟨_, rfl⟩
  rw [hdq] at hq1
  clear hdq hr
  go_wp2_with fail
  refine hK.out _ _ (⟨D.bm.cell 0, D.bm.cell 1, D.bm.cell 2, D.bm.cell 3, D.bx.cell 0, D.bx.cell 1, D.bx.cell 2, D.bx.cell 3⟩) (fun hHeld => ?_)
  clear hK K
  (try simp only [Act.put, List.setIfInBounds_toArray, List.set_cons_zero, List.set_cons_succ, List.getElem_toArray, List.getElem_cons_zero, List.getElem_cons_succ])
  refine wpAnyH_take (i := 14) (v := ?_) rfl (by kernel_rfl) (by kernel_rfl) (by kernel_rfl) (fun _ _ _ h => h) (Or.inl ⟨by rfl, ?_⟩) (by assumption) ?_
  rotate_left 1
  · (intro w hSw; (try dsimp only at hSw); go_simp; try with_reducible rfl)
  (try simp only [Act.put, List.setIfInBounds_toArray, List.set_cons_zero, List.set_cons_succ, List.getElem_toArray, List.getElem_cons_zero, List.getElem_cons_succ])
  refine wpAnyH_take (i := 15) (v := ?_) rfl (by kernel_rfl) (by kernel_rfl) (by kernel_rfl) (fun _ _ _ h => h) (Or.inl ⟨by rfl, ?_⟩) (by assumption) ?_
  rotate_left 1
  · (intro w hSw; (try dsimp only at hSw); go_simp; try with_reducible rfl)
  (try simp only [Act.put, List.setIfInBounds_toArray, List.set_cons_zero, List.set_cons_succ, List.getElem_toArray, List.getElem_cons_zero, List.getElem_cons_succ])
  refine wpAnyH_ready (rs := [16]) (by kernel_rfl) (by simp) ?_
  refine AllReadyH.cons rfl (fun K hK => ?_) AllReadyH.nil
  go_simp
  have cr := D.rm.cell
  have fr := D.rm.frozen
  go_simp
  replace D := D.st1
  clear cr fr
  refine hK.out _ (setManyW wi4 w.heap.size 0 [.int .i64 m.width, .int .i64 m.height, .slice A1 n1 c1, .slice A2 n2 c2]) (⟨D.bm.cell 0, D.bm.cell 1, D.bm.cell 2, D.bm.cell 3, D.bx.cell 0, D.bx.cell 1, D.bx.cell 2, D.bx.cell 3⟩) (fun hHeld => ?_)
  clear hK K
  (try simp only [Act.put, List.setIfInBounds_toArray, List.set_cons_zero, List.set_cons_succ, List.getElem_toArray, List.getElem_cons_zero, List.getElem_cons_succ])
  generalize setManyW wi4 w.heap.size 0 [.int .i64 m.width, .int .i64 m.height, .slice A1 n1 c1, .slice A2 n2 c2] = wi5 at *
  refine wpAnyH_ready (rs := [17]) (by kernel_rfl) (by simp) ?_
  refine AllReadyH.cons rfl (fun K hK => ?_) AllReadyH.nil
  go_simp
  have cr := D.rx.cell
  have fr := D.rx.frozen
  go_simp
  replace D := D.st2 (x := x)
  clear cr fr
  refine hK.out _ (setManyW wi5 (w.heap.size + 1) 0 [.int .i64 x.runner, .int .i64 x.start, .int .i64 x.seen, .int .i64 x.place]) (⟨D.bm.cell 0, D.bm.cell 1, D.bm.cell 2, D.bm.cell 3, D.bx.cell 0, D.bx.cell 1, D.bx.cell 2, D.bx.cell 3⟩) (fun hHeld => ?_)
  clear hK K
  (try simp only [Act.put, List.setIfInBounds_toArray, List.set_cons_zero, List.set_cons_succ, List.getElem_toArray, List.getElem_cons_zero, List.getElem_cons_succ])
  generalize setManyW wi5 (w.heap.size + 1) 0 [.int .i64 x.runner, .int .i64 x.start, .int .i64 x.seen, .int .i64 x.place] = wi6 at *
  refine wpAnyH_take (i := 18) (v := ?_) rfl (by kernel_rfl) (by kernel_rfl) (by kernel_rfl) (fun _ _ _ h => h) (Or.inl ⟨by rfl, ?_⟩) (by assumption) ?_
  rotate_left 1
  · (intro w hSw; (try dsimp only at hSw); go_simp; try with_reducible rfl)
  (try simp only [Act.put, List.setIfInBounds_toArray, List.set_cons_zero, List.set_cons_succ, List.getElem_toArray, List.getElem_cons_zero, List.getElem_cons_succ])
  refine wpAnyH_take (i := 19) (v := ?_) rfl (by kernel_rfl) (by kernel_rfl) (by kernel_rfl) (fun _ _ _ h => h) (Or.inl ⟨by rfl, ?_⟩) (by assumption) ?_
  rotate_left 1
  · (intro w hSw; (try dsimp only at hSw); go_simp; try with_reducible rfl)
  (try simp only [Act.put, List.setIfInBounds_toArray, List.set_cons_zero, List.set_cons_succ, List.getElem_toArray, List.getElem_cons_zero, List.getElem_cons_succ])
  refine wpAnyH_done (by kernel_rfl) ?_ _
  clear hHeld
  clear D0
  have cm := D.rm.cell
  have cx := D.rx.cell
  have fm := D.rm.frozen
  have fx := D.rx.frozen
  go_wp2_with fail
  refine bodyPost_ret (v := .tuple #[.agg #[.int .i64 m.width, .int .i64 m.height, .slice A1 n1 c1, .slice A2 n2 c2], .agg #[.int .i64 x.runner, .int .i64 x.start, .int .i64 x.seen, .int .i64 x.place], .int .i64 pv, .int .i64 (IntKind.i64.wrap ((cl : Int) - (dq : Int)))]) (by simp [results, Try.results51, go_sem, cm, cx]) rfl ?_
  exact ⟨m, A1, n1, c1, A2, n2, c2, x, pv, _, rfl, D.sees, hn, D.kept, fun b hb => by have := D.far b hb; have := D.lo; omega, D.rm.lt⟩

end Go.Proofs.Ytjcmlloglnkbfaa
