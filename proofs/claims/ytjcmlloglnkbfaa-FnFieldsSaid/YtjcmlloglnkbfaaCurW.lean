/- What the laws of searches draw: a map and a missing runner. -/
import Derived.Test.YtjcmlloglnkbfaaCurV
namespace Go.Proofs.Ytjcmlloglnkbfaa
open Go.RowKit

/-- Within a drawing, the cursor g aside: the results' blocks, the map's gm. -/
structure DrMid (w wr : World) (g gm : Nat) (m : MapV) (A1 : Option Addr) (n1 c1 : Nat) (A2 : Option Addr) (n2 c2 : Nat) (rmv rxv : List Value) : Prop where
  rm : Blk wr w.heap.size 29 rmv
  rx : Blk wr (w.heap.size + 1) 31 rxv
  bm : Blk wr gm 29 [.int .i64 m.width, .int .i64 m.height, .slice A1 n1 c1, .slice A2 n2 c2]
  sees : SeesMap wr A1 n1 A2 n2 m
  far : ∀ b, OwnB A1 b ∨ OwnB A2 b → g < b
  lo : w.heap.size + 1 < g ∧ g < gm
  kept : Below w.heap.size w wr
section
variable {w wr wv : World} {g gm : Nat} {m : MapV} {A1 A2 : Option Addr} {n1 c1 n2 c2 : Nat} {rmv rxv : List Value}
theorem DrMid.below (h : DrMid w wr g gm m A1 n1 c1 A2 n2 c2 rmv rxv) (hb : Below wr.heap.size wr wv) : DrMid w wv g gm m A1 n1 c1 A2 n2 c2 rmv rxv :=
  ⟨h.rm.next hb, h.rx.next hb, h.bm.next hb, h.sees.next hb, h.far, h.lo, bel_then h.kept hb⟩
theorem DrMid.only (h : DrMid w wr g gm m A1 n1 c1 A2 n2 c2 rmv rxv) {S : Nat → Prop} (hS : ∀ b, S b → b = g ∨ b = w.heap.size ∨ b = w.heap.size + 1) (ho : Only S wr wv) : SeesMap wv A1 n1 A2 n2 m ∧ Below w.heap.size w wv ∧ Blk wv gm 29 [.int .i64 m.width, .int .i64 m.height, .slice A1 n1 c1, .slice A2 n2 c2] := by
  have hlo := h.lo
  have hsz := h.kept.size
  refine ⟨⟨h.sees.f1.only ho (fun b off e _ hb => ?_), h.sees.f2.only ho (fun b off e _ hb => ?_)⟩, h.kept.trans (ho.below (fun b hb => by rcases hS b hb with h1 | h1 | h1 <;> omega) hsz), h.bm.only ho (fun hb => by rcases hS gm hb with h1 | h1 | h1 <;> omega)⟩
  · have := h.far b (.inl (by rw [e]; rfl))
    rcases hS b hb with h1 | h1 | h1 <;> omega
  · have := h.far b (.inr (by rw [e]; rfl))
    rcases hS b hb with h1 | h1 | h1 <;> omega
theorem DrMid.drawn (h : DrMid w wr g gm m A1 n1 c1 A2 n2 c2 rmv rxv) (ho : Only (fun b => b = g) wr wv) : DrMid w wv g gm m A1 n1 c1 A2 n2 c2 rmv rxv := by
  obtain ⟨h1, h2, h3⟩ := h.only (fun b hb => .inl hb) ho
  have hlo := h.lo
  exact ⟨h.rm.only ho (fun (e : _ = _) => by omega), h.rx.only ho (fun (e : _ = _) => by omega), h3, h1, h.far, hlo, h2⟩
theorem DrMid.st1 (h : DrMid w wr g gm m A1 n1 c1 A2 n2 c2 [.int .i64 0, .int .i64 0, .slice none 0 0, .slice none 0 0] rxv) : DrMid w (setManyW wr w.heap.size 0 [.int .i64 m.width, .int .i64 m.height, .slice A1 n1 c1, .slice A2 n2 c2]) g gm m A1 n1 c1 A2 n2 c2 [.int .i64 m.width, .int .i64 m.height, .slice A1 n1 c1, .slice A2 n2 c2] rxv := by
  have ho : Only (fun b => b = w.heap.size) wr (setManyW wr w.heap.size 0 [.int .i64 m.width, .int .i64 m.height, .slice A1 n1 c1, .slice A2 n2 c2]) := Only.many (S := fun b => b = w.heap.size) rfl _ (Only.refl _ _) 0
  obtain ⟨h1, h2, h3⟩ := h.only (fun b hb => .inr (.inl hb)) ho
  exact ⟨h.rm.many [.int .i64 m.width, .int .i64 m.height, .slice A1 n1 c1, .slice A2 n2 c2] 0, h.rx.only ho (fun (e : _ = _) => by omega), h3, h1, h.far, h.lo, h2⟩
theorem DrMid.st2 {x : Missing} (h : DrMid w wr g gm m A1 n1 c1 A2 n2 c2 rmv [.int .i64 0, .int .i64 0, .int .i64 0, .int .i64 0]) : DrMid w (setManyW wr (w.heap.size + 1) 0 [.int .i64 x.runner, .int .i64 x.start, .int .i64 x.seen, .int .i64 x.place]) g gm m A1 n1 c1 A2 n2 c2 rmv [.int .i64 x.runner, .int .i64 x.start, .int .i64 x.seen, .int .i64 x.place] := by
  have ho : Only (fun b => b = w.heap.size + 1) wr (setManyW wr (w.heap.size + 1) 0 [.int .i64 x.runner, .int .i64 x.start, .int .i64 x.seen, .int .i64 x.place]) := Only.many (S := fun b => b = w.heap.size + 1) rfl _ (Only.refl _ _) 0
  obtain ⟨h1, h2, h3⟩ := h.only (fun b hb => .inr (.inr hb)) ho
  exact ⟨h.rm.only ho (fun (e : _ = _) => by omega), h.rx.many [.int .i64 x.runner, .int .i64 x.start, .int .i64 x.seen, .int .i64 x.place] 0, h3, h1, h.far, h.lo, h2⟩
end

set_option maxHeartbeats 8000000 in
theorem drawIsMissing_any (w : World) (A : Option Addr) (m0 c0 : Nat) (h : CodeIn w A m0) (hm0 : m0 ≤ 1000000) : Calls Try.prog 54 #[.slice A m0 c0] w (DrawnG w) := by
  have U0 : Below w.heap.size w (((w.alloc (.cells #[.int .i64 0, .int .i64 0, .slice none 0 0, .slice none 0 0] 29)).alloc (.cells #[.int .i64 0, .int .i64 0, .int .i64 0, .int .i64 0] 31)).alloc (.cells #[.slice A m0 c0, .int .i64 0, .int .u64 0] 110)) := three _ _ _ _
  have z0 : (((w.alloc (.cells #[.int .i64 0, .int .i64 0, .slice none 0 0, .slice none 0 0] 29)).alloc (.cells #[.int .i64 0, .int .i64 0, .int .i64 0, .int .i64 0] 31)).alloc (.cells #[.slice A m0 c0, .int .i64 0, .int .u64 0] 110)).heap.size = w.heap.size + 3 := by simp
  have rm : Blk (((w.alloc (.cells #[.int .i64 0, .int .i64 0, .slice none 0 0, .slice none 0 0] 29)).alloc (.cells #[.int .i64 0, .int .i64 0, .int .i64 0, .int .i64 0] 31)).alloc (.cells #[.slice A m0 c0, .int .i64 0, .int .u64 0] 110)) w.heap.size 29 [.int .i64 0, .int .i64 0, .slice none 0 0, .slice none 0 0] := ((Blk.at_ rfl : Blk (w.alloc _) w.heap.size 29 [.int .i64 0, .int .i64 0, .slice none 0 0, .slice none 0 0]).next ((Below.refl _ _).alloc (Nat.le_refl _) _)).next ((Below.refl _ _).alloc (Nat.le_refl _) _)
  have rx : Blk (((w.alloc (.cells #[.int .i64 0, .int .i64 0, .slice none 0 0, .slice none 0 0] 29)).alloc (.cells #[.int .i64 0, .int .i64 0, .int .i64 0, .int .i64 0] 31)).alloc (.cells #[.slice A m0 c0, .int .i64 0, .int .u64 0] 110)) (w.heap.size + 1) 31 [.int .i64 0, .int .i64 0, .int .i64 0, .int .i64 0] := by
    have := (Blk.at_ rfl : Blk ((w.alloc (.cells #[.int .i64 0, .int .i64 0, .slice none 0 0, .slice none 0 0] 29)).alloc (.cells #[.int .i64 0, .int .i64 0, .int .i64 0, .int .i64 0] 31)) (w.alloc (.cells #[.int .i64 0, .int .i64 0, .slice none 0 0, .slice none 0 0] 29)).heap.size 31 [.int .i64 0, .int .i64 0, .int .i64 0, .int .i64 0]).next ((Below.refl _ _).alloc (Nat.le_refl _) (.cells #[.slice A m0 c0, .int .i64 0, .int .u64 0] 110))
    simpa using this
  have bc : Blk (((w.alloc (.cells #[.int .i64 0, .int .i64 0, .slice none 0 0, .slice none 0 0] 29)).alloc (.cells #[.int .i64 0, .int .i64 0, .int .i64 0, .int .i64 0] 31)).alloc (.cells #[.slice A m0 c0, .int .i64 0, .int .u64 0] 110)) (w.heap.size + 1 + 1) 110 [.slice A m0 c0, .int .i64 0, .int .u64 0] := by
    have := (Blk.at_ rfl : Blk (((w.alloc (.cells #[.int .i64 0, .int .i64 0, .slice none 0 0, .slice none 0 0] 29)).alloc (.cells #[.int .i64 0, .int .i64 0, .int .i64 0, .int .i64 0] 31)).alloc (.cells #[.slice A m0 c0, .int .i64 0, .int .u64 0] 110)) ((w.alloc (.cells #[.int .i64 0, .int .i64 0, .slice none 0 0, .slice none 0 0] 29)).alloc (.cells #[.int .i64 0, .int .i64 0, .int .i64 0, .int .i64 0] 31)).heap.size 110 [.slice A m0 c0, .int .i64 0, .int .u64 0])
    simpa using this
  have hc0 := cur_new h hm0 U0 (Nat.le_add_right _ (1 + 1)) bc
  clear bc h
  go_enter Try.func54, Try.ntmps54
  go_wp2_with fail
  generalize (((w.alloc (.cells #[.int .i64 0, .int .i64 0, .slice none 0 0, .slice none 0 0] 29)).alloc (.cells #[.int .i64 0, .int .i64 0, .int .i64 0, .int .i64 0] 31)).alloc (.cells #[.slice A m0 c0, .int .i64 0, .int .u64 0] 110)) = w0 at *
  refine (mapOf_any (w.heap.size + 1 + 1) 0 w0 hc0 (by decide)).mono ?_
  rintro e w1 ⟨m, A1, n1, c1, A2, n2, c2, rfl, s1, hn, hs, far1, hc1, o1⟩
  have K1 : Below w.heap.size w w1 := U0.trans (o1.below (fun b (hb : b = _) => by omega) (by omega))
  replace rm := rm.only o1 (fun (e : _ = _) => by omega)
  replace rx := rx.only o1 (fun (e : _ = _) => by omega)
  have hz := o1.size
  have far : ∀ b, OwnB A1 b ∨ OwnB A2 b → w.heap.size + 1 + 1 < b := fun b hb => by have := far1 b hb; omega
  clear far1 o1 hc0 U0
  go_wp2_with fail
  generalize hg : w.heap.size + 1 + 1 = g at *
  have hsz := K1.size
  have U1 : Below w1.heap.size w1 (w1.alloc (.cells #[.int .i64 m.width, .int .i64 m.height, .slice A1 n1 c1, .slice A2 n2 c2] 29)) := (Below.refl _ _).alloc (Nat.le_refl _) _
  have D0 : DrMid w (w1.alloc (.cells #[.int .i64 m.width, .int .i64 m.height, .slice A1 n1 c1, .slice A2 n2 c2] 29)) g w1.heap.size m A1 n1 c1 A2 n2 c2 [.int .i64 0, .int .i64 0, .slice none 0 0, .slice none 0 0] [.int .i64 0, .int .i64 0, .int .i64 0, .int .i64 0] := ⟨rm.next U1, rx.next U1, Blk.at_ rfl, s1.next U1, fun b hb => by have := far b hb; omega, ⟨by omega, hc1.lt⟩, K1.trans (U1.mono hsz)⟩
  have hc := hc1.next U1
  clear rm rx s1 far K1 hc1 U1
  generalize w1.alloc (.cells #[.int .i64 m.width, .int .i64 m.height, .slice A1 n1 c1, .slice A2 n2 c2] 29) = wi0 at *
  generalize w1.heap.size = gm at *
  have D := D0.below ((Quiet.one wi0).below _)
  refine wp_region_held_drew (S := fun w' => w'.cell? ⟨gm, 0, none⟩ = some (.int .i64 m.width) ∧ w'.cell? ⟨gm, 1, none⟩ = some (.int .i64 m.height) ∧ w'.cell? ⟨gm, 2, none⟩ = some (.slice A1 n1 c1) ∧ w'.cell? ⟨gm, 3, none⟩ = some (.slice A2 n2 c2)) (by kernel_rfl) (⟨D.bm.cell 0, D.bm.cell 1, D.bm.cell 2, D.bm.cell 3⟩) (fun hHeld => ?_)
  try replace hc := hc.next ((Quiet.one wi0).below _)
  generalize wi0.drew = wi1 at *
  refine wpAnyH_take (i := 0) (v := ?_) rfl (by kernel_rfl) (by kernel_rfl) (by kernel_rfl) (fun _ _ _ h => h) (Or.inl ⟨by rfl, ?_⟩) (by assumption) ?_
  rotate_left 1
  · (intro w hSw; (try dsimp only at hSw); go_simp; try with_reducible rfl)
  (try simp only [Act.put, List.setIfInBounds_toArray, List.set_cons_zero, List.set_cons_succ, List.getElem_toArray, List.getElem_cons_zero])
  refine wpAnyH_take (i := 1) (v := ?_) rfl (by kernel_rfl) (by kernel_rfl) (by kernel_rfl) (fun _ _ _ h => h) (Or.inl ⟨by rfl, ?_⟩) (by assumption) ?_
  rotate_left 1
  · (intro w hSw; (try dsimp only at hSw); go_simp; try with_reducible rfl)
  (try simp only [Act.put, List.setIfInBounds_toArray, List.set_cons_zero, List.set_cons_succ, List.getElem_toArray, List.getElem_cons_zero, List.getElem_cons_succ])
  refine wpAnyH_take (i := 2) (v := ?_) rfl (by kernel_rfl) (by kernel_rfl) (by kernel_rfl) (fun _ _ _ h => h) (Or.inl ⟨by rfl, ?_⟩) (by assumption) ?_
  rotate_left 1
  · (intro w hSw; (try dsimp only at hSw); go_simp; try with_reducible rfl)
  (try simp only [Act.put, List.setIfInBounds_toArray, List.set_cons_zero, List.set_cons_succ, List.getElem_toArray, List.getElem_cons_zero, List.getElem_cons_succ])
  refine wpAnyH_ready (rs := [3]) (by kernel_rfl) (by simp) ?_
  refine AllReadyH.cons rfl (fun K hK => ?_) AllReadyH.nil
  go_simp
  refine (missing_any g _ m A1 A2 n1 n2 c1 c2 wi1 hc (by omega) hs).mono ?_
  rintro e wi2 ⟨x, rfl, _, kc, oc⟩
  replace D := D.drawn oc
  replace hc := kc
  try replace BL := BL.only oc (fun (e : _ = _) => hgl e)
  clear kc oc
  go_wp2_with fail
  refine hK.out _ _ (⟨D.bm.cell 0, D.bm.cell 1, D.bm.cell 2, D.bm.cell 3⟩) (fun hHeld => ?_)
  clear hK K
  (try simp only [Act.put, List.setIfInBounds_toArray, List.set_cons_zero, List.set_cons_succ, List.getElem_toArray, List.getElem_cons_zero, List.getElem_cons_succ])
  refine wpAnyH_ready (rs := [4]) (by kernel_rfl) (by simp) ?_
  refine AllReadyH.cons rfl (fun K hK => ?_) AllReadyH.nil
  go_simp
  have cr := D.rm.cell
  have fr := D.rm.frozen
  go_simp
  replace D := D.st1
  clear cr fr
  refine hK.out _ (setManyW wi2 w.heap.size 0 [.int .i64 m.width, .int .i64 m.height, .slice A1 n1 c1, .slice A2 n2 c2]) (⟨D.bm.cell 0, D.bm.cell 1, D.bm.cell 2, D.bm.cell 3⟩) (fun hHeld => ?_)
  clear hK K
  (try simp only [Act.put, List.setIfInBounds_toArray, List.set_cons_zero, List.set_cons_succ, List.getElem_toArray, List.getElem_cons_zero, List.getElem_cons_succ])
  generalize setManyW wi2 w.heap.size 0 [.int .i64 m.width, .int .i64 m.height, .slice A1 n1 c1, .slice A2 n2 c2] = wi3 at *
  refine wpAnyH_ready (rs := [5]) (by kernel_rfl) (by simp) ?_
  refine AllReadyH.cons rfl (fun K hK => ?_) AllReadyH.nil
  go_simp
  have cr := D.rx.cell
  have fr := D.rx.frozen
  go_simp
  replace D := D.st2 (x := x)
  clear cr fr
  refine hK.out _ (setManyW wi3 (w.heap.size + 1) 0 [.int .i64 x.runner, .int .i64 x.start, .int .i64 x.seen, .int .i64 x.place]) (⟨D.bm.cell 0, D.bm.cell 1, D.bm.cell 2, D.bm.cell 3⟩) (fun hHeld => ?_)
  clear hK K
  (try simp only [Act.put, List.setIfInBounds_toArray, List.set_cons_zero, List.set_cons_succ, List.getElem_toArray, List.getElem_cons_zero, List.getElem_cons_succ])
  generalize setManyW wi3 (w.heap.size + 1) 0 [.int .i64 x.runner, .int .i64 x.start, .int .i64 x.seen, .int .i64 x.place] = wi4 at *
  refine wpAnyH_done (by kernel_rfl) ?_ _
  clear hHeld hc
  clear D0
  have cm := D.rm.cell
  have cx := D.rx.cell
  have fm := D.rm.frozen
  have fx := D.rx.frozen
  go_wp2_with fail
  refine bodyPost_ret (v := .tuple #[.agg #[.int .i64 m.width, .int .i64 m.height, .slice A1 n1 c1, .slice A2 n2 c2], .agg #[.int .i64 x.runner, .int .i64 x.start, .int .i64 x.seen, .int .i64 x.place]]) (by simp [results, Try.results54, go_sem, cm, cx]) rfl ?_
  exact ⟨m, A1, n1, c1, A2, n2, c2, x, rfl, D.sees, hn, D.kept⟩

end Go.Proofs.Ytjcmlloglnkbfaa
