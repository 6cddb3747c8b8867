/- What the laws of searches draw: a copy. -/
import Derived.Test.YtjcmlloglnkbfaaCurU
namespace Go.Proofs.Ytjcmlloglnkbfaa
open Go.RowKit

theorem two (w : World) (a b : Obj) : Below w.heap.size w ((w.alloc a).alloc b) := ((Below.refl w.heap.size w).alloc (Nat.le_refl _) a).alloc (by simp) b

set_option maxHeartbeats 8000000 in
theorem drawChancesOf_any (w : World) (A : Option Addr) (m0 c0 : Nat) (h : CodeIn w A m0) (hm0 : m0 ≤ 1000000) : Calls Try.prog 52 #[.slice A m0 c0] w (DrawnF w) := by
  have U0 : Below w.heap.size w ((w.alloc (.cells #[.int .i64 0, .int .i64 0, .slice none 0 0, .slice none 0 0] 29)).alloc (.cells #[.int .i64 0, .int .i64 0, .int .i64 0, .int .i64 0] 31)) := two _ _ _
  have z0 : ((w.alloc (.cells #[.int .i64 0, .int .i64 0, .slice none 0 0, .slice none 0 0] 29)).alloc (.cells #[.int .i64 0, .int .i64 0, .int .i64 0, .int .i64 0] 31)).heap.size = w.heap.size + 2 := by simp
  have rm : Blk ((w.alloc (.cells #[.int .i64 0, .int .i64 0, .slice none 0 0, .slice none 0 0] 29)).alloc (.cells #[.int .i64 0, .int .i64 0, .int .i64 0, .int .i64 0] 31)) w.heap.size 29 [.int .i64 0, .int .i64 0, .slice none 0 0, .slice none 0 0] := (Blk.at_ rfl : Blk (w.alloc _) w.heap.size 29 [.int .i64 0, .int .i64 0, .slice none 0 0, .slice none 0 0]).next ((Below.refl _ _).alloc (Nat.le_refl _) _)
  have rx : Blk ((w.alloc (.cells #[.int .i64 0, .int .i64 0, .slice none 0 0, .slice none 0 0] 29)).alloc (.cells #[.int .i64 0, .int .i64 0, .int .i64 0, .int .i64 0] 31)) (w.heap.size + 1) 31 [.int .i64 0, .int .i64 0, .int .i64 0, .int .i64 0] := Blk.at_ (by simp)
  go_enter Try.func52, Try.ntmps52
  go_wp2_with fail
  generalize ((w.alloc (.cells #[.int .i64 0, .int .i64 0, .slice none 0 0, .slice none 0 0] 29)).alloc (.cells #[.int .i64 0, .int .i64 0, .int .i64 0, .int .i64 0] 31)) = w0 at *
  refine (drawFieldOf_any w0 A m0 c0 (h.next U0) hm0).mono ?_
  rintro e w1 ⟨m, A1, n1, c1, A2, n2, c2, x, pv, tv, rfl, s1, hn, K, far, hlt⟩
  replace rm := rm.next K
  replace rx := rx.next K
  have K1 := U0.trans (K.mono (by omega))
  rw [z0] at far hlt
  clear K U0 h
  go_wp2_with fail
  have U2 : Below w1.heap.size w1 ((w1.alloc (.cells #[.int .i64 m.width, .int .i64 m.height, .slice A1 n1 c1, .slice A2 n2 c2] 29)).alloc (.cells #[.int .i64 x.runner, .int .i64 x.start, .int .i64 x.seen, .int .i64 x.place] 31)) := two _ _ _
  have z2 : ((w1.alloc (.cells #[.int .i64 m.width, .int .i64 m.height, .slice A1 n1 c1, .slice A2 n2 c2] 29)).alloc (.cells #[.int .i64 x.runner, .int .i64 x.start, .int .i64 x.seen, .int .i64 x.place] 31)).heap.size = w1.heap.size + 2 := by simp
  have bm0 : Blk ((w1.alloc (.cells #[.int .i64 m.width, .int .i64 m.height, .slice A1 n1 c1, .slice A2 n2 c2] 29)).alloc (.cells #[.int .i64 x.runner, .int .i64 x.start, .int .i64 x.seen, .int .i64 x.place] 31)) w1.heap.size 29 [.int .i64 m.width, .int .i64 m.height, .slice A1 n1 c1, .slice A2 n2 c2] := (Blk.at_ rfl : Blk (w1.alloc _) w1.heap.size 29 [.int .i64 m.width, .int .i64 m.height, .slice A1 n1 c1, .slice A2 n2 c2]).next ((Below.refl _ _).alloc (Nat.le_refl _) _)
  have D0 : DrEnd w ((w1.alloc (.cells #[.int .i64 m.width, .int .i64 m.height, .slice A1 n1 c1, .slice A2 n2 c2] 29)).alloc (.cells #[.int .i64 x.runner, .int .i64 x.start, .int .i64 x.seen, .int .i64 x.place] 31)) (w.heap.size + 1 + 1) w1.heap.size (w1.heap.size + 1) m A1 n1 c1 A2 n2 c2 [.int .i64 x.runner, .int .i64 x.start, .int .i64 x.seen, .int .i64 x.place] [.int .i64 0, .int .i64 0, .slice none 0 0, .slice none 0 0] [.int .i64 0, .int .i64 0, .int .i64 0, .int .i64 0] := ⟨rm.next U2, rx.next U2, bm0, Blk.at_ (by simp), s1.next U2, fun b hb => by have := far b hb; omega, by omega, K1.trans (U2.mono (by omega))⟩
  clear rm rx s1 far K1 bm0 U2 z2 hlt
  generalize ((w1.alloc (.cells #[.int .i64 m.width, .int .i64 m.height, .slice A1 n1 c1, .slice A2 n2 c2] 29)).alloc (.cells #[.int .i64 x.runner, .int .i64 x.start, .int .i64 x.seen, .int .i64 x.place] 31)) = wi0 at *
  generalize w1.heap.size + 1 = gx at *
  generalize w1.heap.size = gm at *
  generalize w.heap.size + 1 + 1 = g at *
  have D := D0.below ((Quiet.one wi0).below _)
  refine wp_region_held_drew (S := fun w' => w'.cell? ⟨gm, 0, none⟩ = some (.int .i64 m.width) ∧ w'.cell? ⟨gm, 1, none⟩ = some (.int .i64 m.height) ∧ w'.cell? ⟨gm, 2, none⟩ = some (.slice A1 n1 c1) ∧ w'.cell? ⟨gm, 3, none⟩ = some (.slice A2 n2 c2) ∧ w'.cell? ⟨gx, 0, none⟩ = some (.int .i64 x.runner) ∧ w'.cell? ⟨gx, 1, none⟩ = some (.int .i64 x.start) ∧ w'.cell? ⟨gx, 2, none⟩ = some (.int .i64 x.seen) ∧ w'.cell? ⟨gx, 3, none⟩ = some (.int .i64 x.place)) (by kernel_rfl) (⟨D.bm.cell 0, D.bm.cell 1, D.bm.cell 2, D.bm.cell 3, D.bx.cell 0, D.bx.cell 1, D.bx.cell 2, D.bx.cell 3⟩) (fun hHeld => ?_)
  try replace hc := hc.next ((Quiet.one wi0).below _)
  generalize wi0.drew = wi1 at *
  refine wpAnyH_take (i := 0) (v := ?_) rfl (by kernel_rfl) (by kernel_rfl) (by kernel_rfl) (fun _ _ _ h => h) (Or.inl ⟨by rfl, ?_⟩) (by assumption) ?_
  rotate_left 1
  · (intro w hSw; (try dsimp only at hSw); go_simp; try with_reducible rfl)
  (try simp only [Act.put, List.setIfInBounds_toArray, List.set_cons_zero, List.set_cons_succ, List.getElem_toArray, List.getElem_cons_zero])
  refine wpAnyH_take (i := 1) (v := ?_) rfl (by kernel_rfl) (by kernel_rfl) (by kernel_rfl) (fun _ _ _ h => h) (Or.inl ⟨by rfl, ?_⟩) (by assumption) ?_
  rotate_left 1
  · (intro w hSw; (try dsimp only at hSw); go_simp; try with_reducible rfl)
  (try simp only [Act.put, List.setIfInBounds_toArray, List.set_cons_zero, List.set_cons_succ, List.getElem_toArray, List.getElem_cons_zero, List.getElem_cons_succ])
  refine wpAnyH_take (i := 2) (v := ?_) rfl (by kernel_rfl) (by kernel_rfl) (by kernel_rfl) (fun _ _ _ h => h) (Or.inl ⟨by rfl, ?_⟩) (by assumption) ?_
  rotate_left 1
  · (intro w hSw; (try dsimp only at hSw); go_simp; try with_reducible rfl)
  (try simp only [Act.put, List.setIfInBounds_toArray, List.set_cons_zero, List.set_cons_succ, List.getElem_toArray, List.getElem_cons_zero, List.getElem_cons_succ])
  refine wpAnyH_take (i := 3) (v := ?_) rfl (by kernel_rfl) (by kernel_rfl) (by kernel_rfl) (fun _ _ _ h => h) (Or.inl ⟨by rfl, ?_⟩) (by assumption) ?_
  rotate_left 1
  · (intro w hSw; (try dsimp only at hSw); go_simp; try with_reducible rfl)
  (try simp only [Act.put, List.setIfInBounds_toArray, List.set_cons_zero, List.set_cons_succ, List.getElem_toArray, List.getElem_cons_zero, List.getElem_cons_succ])
  refine wpAnyH_ready (rs := [4]) (by kernel_rfl) (by simp) ?_
  refine AllReadyH.cons rfl (fun K hK => ?_) AllReadyH.nil
  go_simp
  have cr := D.rm.cell
  have fr := D.rm.frozen
  go_simp
  replace D := D.st1
  clear cr fr
  refine hK.out _ (setManyW wi1 w.heap.size 0 [.int .i64 m.width, .int .i64 m.height, .slice A1 n1 c1, .slice A2 n2 c2]) (⟨D.bm.cell 0, D.bm.cell 1, D.bm.cell 2, D.bm.cell 3, D.bx.cell 0, D.bx.cell 1, D.bx.cell 2, D.bx.cell 3⟩) (fun hHeld => ?_)
  clear hK K
  (try simp only [Act.put, List.setIfInBounds_toArray, List.set_cons_zero, List.set_cons_succ, List.getElem_toArray, List.getElem_cons_zero, List.getElem_cons_succ])
  generalize setManyW wi1 w.heap.size 0 [.int .i64 m.width, .int .i64 m.height, .slice A1 n1 c1, .slice A2 n2 c2] = wi2 at *
  refine wpAnyH_ready (rs := [5]) (by kernel_rfl) (by simp) ?_
  refine AllReadyH.cons rfl (fun K hK => ?_) AllReadyH.nil
  go_simp
  have cr := D.rx.cell
  have fr := D.rx.frozen
  go_simp
  replace D := D.st2 (x := x)
  clear cr fr
  refine hK.out _ (setManyW wi2 (w.heap.size + 1) 0 [.int .i64 x.runner, .int .i64 x.start, .int .i64 x.seen, .int .i64 x.place]) (⟨D.bm.cell 0, D.bm.cell 1, D.bm.cell 2, D.bm.cell 3, D.bx.cell 0, D.bx.cell 1, D.bx.cell 2, D.bx.cell 3⟩) (fun hHeld => ?_)
  clear hK K
  (try simp only [Act.put, List.setIfInBounds_toArray, List.set_cons_zero, List.set_cons_succ, List.getElem_toArray, List.getElem_cons_zero, List.getElem_cons_succ])
  generalize setManyW wi2 (w.heap.size + 1) 0 [.int .i64 x.runner, .int .i64 x.start, .int .i64 x.seen, .int .i64 x.place] = wi3 at *
  refine wpAnyH_take (i := 6) (v := ?_) rfl (by kernel_rfl) (by kernel_rfl) (by kernel_rfl) (fun _ _ _ h => h) (Or.inl ⟨by rfl, ?_⟩) (by assumption) ?_
  rotate_left 1
  · (intro w hSw; (try dsimp only at hSw); go_simp; try with_reducible rfl)
  (try simp only [Act.put, List.setIfInBounds_toArray, List.set_cons_zero, List.set_cons_succ, List.getElem_toArray, List.getElem_cons_zero, List.getElem_cons_succ])
  refine wpAnyH_take (i := 7) (v := ?_) rfl (by kernel_rfl) (by kernel_rfl) (by kernel_rfl) (fun _ _ _ h => h) (Or.inl ⟨by rfl, ?_⟩) (by assumption) ?_
  rotate_left 1
  · (intro w hSw; (try dsimp only at hSw); go_simp; try with_reducible rfl)
  (try simp only [Act.put, List.setIfInBounds_toArray, List.set_cons_zero, List.set_cons_succ, List.getElem_toArray, List.getElem_cons_zero, List.getElem_cons_succ])
  refine wpAnyH_done (by kernel_rfl) ?_ _
  clear hHeld
  clear D0
  have cm := D.rm.cell
  have cx := D.rx.cell
  have fm := D.rm.frozen
  have fx := D.rx.frozen
  go_wp2_with fail
  refine bodyPost_ret (v := .tuple #[.agg #[.int .i64 m.width, .int .i64 m.height, .slice A1 n1 c1, .slice A2 n2 c2], .agg #[.int .i64 x.runner, .int .i64 x.start, .int .i64 x.seen, .int .i64 x.place], .int .i64 pv, .int .i64 tv]) (by simp [results, Try.results52, go_sem, cm, cx]) rfl ?_
  exact ⟨m, A1, n1, c1, A2, n2, c2, x, pv, _, rfl, D.sees, hn, D.kept, fun b hb => by have := D.far b hb; have := D.lo; omega, D.rm.lt⟩

end Go.Proofs.Ytjcmlloglnkbfaa
