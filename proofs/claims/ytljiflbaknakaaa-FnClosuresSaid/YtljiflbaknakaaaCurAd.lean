/- What the laws of permits draw, further: an area to be added. -/
import Derived.Test.YtljiflbaknakaaaCurOp
namespace Go.Proofs.Ytljiflbaknakaaa
open Go.RowKit

theorem DrB.other {w wr wv : World} {g gm : Nat} {m : MapV} {A1 A2 A : Option Addr} {n1 c1 n2 c2 k c : Nat} {xs : List Area} {rv : List Value} (h : DrB w wr g gm m A1 n1 c1 A2 n2 c2 A k c xs rv) (hg : w.heap.size + 1 < g) (ho : Only (fun b => b = w.heap.size + 1) wr wv) : DrB w wv g gm m A1 n1 c1 A2 n2 c2 A k c xs rv := by
  have hlo := h.lo
  have hsz := h.kept.size
  refine ⟨h.rm.only ho (fun (e : _ = _) => by omega), h.bm.only ho (fun (e : _ = _) => by omega), ⟨h.sees.f1.only ho (fun b off e _ (hb : b = _) => ?_), h.sees.f2.only ho (fun b off e _ (hb : b = _) => ?_)⟩, h.arr.only ho (fun b (h1 : gm + 1 ≤ b) (h2 : b = _) => by omega), h.far, hlo, h.num, h.kept.trans (ho.below (fun b (hb : b = _) => by omega) hsz)⟩
  · have := h.far b (.inl (by rw [e]; rfl)); omega
  · have := h.far b (.inr (by rw [e]; rfl)); omega
/-- A map, areas and an area, drawn. -/
def DrawnAd (w : World) (e : Ending) (w' : World) : Prop := ∃ (m : MapV) (A1 : Option Addr) (n1 c1 : Nat) (A2 : Option Addr) (n2 c2 : Nat) (A : Option Addr) (k c : Nat) (xs : List Area) (a : Area) (Y : Option Addr) (ny cy : Nat), e = .returned (.tuple #[.agg #[.int .i64 m.width, .int .i64 m.height, .slice A1 n1 c1, .slice A2 n2 c2], .slice A k c, .agg #[.int .i64 a.id, .slice Y ny cy, .int .i64 a.first, .int .i64 a.last]]) ∧ MapAr w' (w.heap.size + 1) m A1 n1 c1 A2 n2 c2 A k c xs ∧ Sees w' 0 1 Y ny (ints a.cells) ∧ ny ≤ 40 ∧ Below w.heap.size w w'

set_option maxRecDepth 100000 in
set_option maxHeartbeats 8000000 in
theorem drawAddArea_any (w : World) (A0 : Option Addr) (m0 c0 : Nat) (h : CodeIn w A0 m0) (hm0 : m0 ≤ 1000000) : Calls Try.prog 57 #[.slice A0 m0 c0] w (DrawnAd w) := by
  have U0 : Below w.heap.size w (((w.alloc (.cells #[.int .i64 0, .int .i64 0, .slice none 0 0, .slice none 0 0] 29)).alloc (.cells #[.int .i64 0, .slice none 0 0, .int .i64 0, .int .i64 0] 62)).alloc (.cells #[.slice A0 m0 c0, .int .i64 0, .int .u64 0] 101)) := (((Below.refl _ _).alloc (Nat.le_refl _) _).alloc (by simp) _).alloc (by simp; omega) _
  have rm : Blk (((w.alloc (.cells #[.int .i64 0, .int .i64 0, .slice none 0 0, .slice none 0 0] 29)).alloc (.cells #[.int .i64 0, .slice none 0 0, .int .i64 0, .int .i64 0] 62)).alloc (.cells #[.slice A0 m0 c0, .int .i64 0, .int .u64 0] 101)) w.heap.size 29 [.int .i64 0, .int .i64 0, .slice none 0 0, .slice none 0 0] := ((Blk.at_ rfl).alloc _).alloc _
  have ra : Blk (((w.alloc (.cells #[.int .i64 0, .int .i64 0, .slice none 0 0, .slice none 0 0] 29)).alloc (.cells #[.int .i64 0, .slice none 0 0, .int .i64 0, .int .i64 0] 62)).alloc (.cells #[.slice A0 m0 c0, .int .i64 0, .int .u64 0] 101)) (w.heap.size + 1) 62 [.int .i64 0, .slice none 0 0, .int .i64 0, .int .i64 0] := (Blk.at_ (by simp)).alloc _
  have bc : Blk (((w.alloc (.cells #[.int .i64 0, .int .i64 0, .slice none 0 0, .slice none 0 0] 29)).alloc (.cells #[.int .i64 0, .slice none 0 0, .int .i64 0, .int .i64 0] 62)).alloc (.cells #[.slice A0 m0 c0, .int .i64 0, .int .u64 0] 101)) (w.heap.size + 1 + 1) 101 [.slice A0 m0 c0, .int .i64 0, .int .u64 0] := Blk.at_ (by simp)
  have hc0 := cur_new h hm0 U0 (by omega) bc
  clear bc h
  go_enter Try.func57, Try.ntmps57
  go_wp2_with fail
  generalize (((w.alloc (.cells #[.int .i64 0, .int .i64 0, .slice none 0 0, .slice none 0 0] 29)).alloc (.cells #[.int .i64 0, .slice none 0 0, .int .i64 0, .int .i64 0] 62)).alloc (.cells #[.slice A0 m0 c0, .int .i64 0, .int .u64 0] 101)) = w0 at *
  refine (mapOf_any (w.heap.size + 1 + 1) 0 w0 hc0 (by decide)).mono ?_
  rintro e w1 ⟨m, A1, n1, c1, A2, n2, c2, rfl, s1, hn, hs, far1, hc1, o1⟩
  have K1 : Below w.heap.size w w1 := U0.trans (o1.below (fun b (hb : b = _) => by omega) (by have := U0.size; omega))
  have hrl := rm.lt
  have hcl := hc0.lt
  replace rm := rm.only o1 (fun (e : _ = _) => by omega)
  replace ra := ra.only o1 (fun (e : _ = _) => by omega)
  clear o1 hc0 U0
  have hg1 := hc1.lt
  have hsz := K1.size
  have U1 : Below w1.heap.size w1 (w1.alloc (.cells #[.int .i64 m.width, .int .i64 m.height, .slice A1 n1 c1, .slice A2 n2 c2] 29)) := (Below.refl _ _).alloc (Nat.le_refl _) _
  have gm0 : Blk (w1.alloc (.cells #[.int .i64 m.width, .int .i64 m.height, .slice A1 n1 c1, .slice A2 n2 c2] 29)) w1.heap.size 29 [.int .i64 m.width, .int .i64 m.height, .slice A1 n1 c1, .slice A2 n2 c2] := Blk.at_ rfl
  have hcA := hc1.next U1
  have sA := s1.next U1
  have rA := rm.next U1
  have aA := ra.next U1
  have KA := bel_then K1 U1
  clear rm ra s1 K1 hc1
  have cA := gm0.cell
  go_wp2_with fail
  generalize (w1.alloc (.cells #[.int .i64 m.width, .int .i64 m.height, .slice A1 n1 c1, .slice A2 n2 c2] 29)) = w2 at *
  have U2 := U1.size
  refine (areas_any _ _ m A1 A2 n1 n2 c1 c2 w2 hcA (by omega) hs).mono ?_
  rintro e w3 ⟨A, k, c, xs, rfl, arr, hk, hcn, hc3, o3⟩
  have D0 : DrB w w3 (w.heap.size + 1 + 1) w1.heap.size m A1 n1 c1 A2 n2 c2 A k c xs [.int .i64 0, .int .i64 0, .slice none 0 0, .slice none 0 0] := ⟨rA.only o3 (fun (e : _ = _) => by omega), gm0.only o3 (fun (e : _ = _) => by omega), ⟨sA.f1.only o3 (fun b off e _ (hb : b = _) => by have := far1 b (.inl (by rw [e]; rfl)); omega), sA.f2.only o3 (fun b off e _ (hb : b = _) => by have := far1 b (.inr (by rw [e]; rfl)); omega)⟩, arr.wide (fun b (hb : w2.heap.size + 1 ≤ b) => show w1.heap.size + 1 ≤ b by omega), fun b hb => by have := far1 b hb; omega, ⟨by omega, hg1⟩, ⟨hn, hs, hk, hcn⟩, KA.trans (o3.below (fun b (hb : b = _) => by omega) (by omega))⟩
  have ra := aA.only o3 (fun (e : _ = _) => by omega)
  clear rA aA gm0 sA arr far1 KA o3 hcA U1 U2 cA
  generalize w1.heap.size = gm at *
  have hc := hc3.next ((Quiet.one w3).below _)
  have D := D0.below ((Quiet.one w3).below _)
  replace ra := ra.next ((Quiet.one w3).below _)
  have cb := D.bm.cell
  clear D0 hc3
  go_wp2_with fail

  refine wp_region_held_drew (S := fun w' => w'.cell? ⟨gm, 0, none⟩ = some (.int .i64 m.width) ∧ w'.cell? ⟨gm, 1, none⟩ = some (.int .i64 m.height) ∧ w'.cell? ⟨gm, 2, none⟩ = some (.slice A1 n1 c1) ∧ w'.cell? ⟨gm, 3, none⟩ = some (.slice A2 n2 c2)) (by kernel_rfl) (by (try dsimp only); first | go_keep | exact ⟨D.bm.cell 0, D.bm.cell 1, D.bm.cell 2, D.bm.cell 3⟩ | exact ⟨c9 0, c9 1, c9 2, c9 3⟩) (fun hHeld => ?_)
  refine wpAnyH_take (i := 0) (v := ?_) rfl (by kernel_rfl) (by kernel_rfl) (by kernel_rfl) (fun _ _ _ h => h) (Or.inl ⟨by rfl, ?_⟩) (by assumption) ?_
  rotate_left 1
  · (intro w hSw; (try dsimp only at hSw); go_simp; try with_reducible rfl)
  simp only [Act.put, List.setIfInBounds_toArray, List.set_cons_zero, List.set_cons_succ, List.getElem_toArray, List.getElem_cons_zero]
  refine wpAnyH_take (i := 1) (v := ?_) rfl (by kernel_rfl) (by kernel_rfl) (by kernel_rfl) (fun _ _ _ h => h) (Or.inl ⟨by rfl, ?_⟩) (by assumption) ?_
  rotate_left 1
  · (intro w hSw; (try dsimp only at hSw); go_simp; try with_reducible rfl)
  simp only [Act.put, List.setIfInBounds_toArray, List.set_cons_zero, List.set_cons_succ, List.getElem_toArray, List.getElem_cons_zero, List.getElem_cons_succ]
  refine wpAnyH_take (i := 2) (v := ?_) rfl (by kernel_rfl) (by kernel_rfl) (by kernel_rfl) (fun _ _ _ h => h) (Or.inl ⟨by rfl, ?_⟩) (by assumption) ?_
  rotate_left 1
  · (intro w hSw; (try dsimp only at hSw); go_simp; try with_reducible rfl)
  simp only [Act.put, List.setIfInBounds_toArray, List.set_cons_zero, List.set_cons_succ, List.getElem_toArray, List.getElem_cons_zero, List.getElem_cons_succ]
  refine wpAnyH_take (i := 3) (v := ?_) rfl (by kernel_rfl) (by kernel_rfl) (by kernel_rfl) (fun _ _ _ h => h) (Or.inl ⟨by rfl, ?_⟩) (by assumption) ?_
  rotate_left 1
  · (intro w hSw; (try dsimp only at hSw); go_simp; try with_reducible rfl)
  simp only [Act.put, List.setIfInBounds_toArray, List.set_cons_zero, List.set_cons_succ, List.getElem_toArray, List.getElem_cons_zero, List.getElem_cons_succ]
  refine wpAnyH_take (i := 4) (v := ?_) rfl (by kernel_rfl) (by kernel_rfl) (by kernel_rfl) (fun _ _ _ h => h) (Or.inl ⟨by rfl, ?_⟩) (by assumption) ?_
  rotate_left 1
  · (intro w hSw; (try dsimp only at hSw); go_simp; try with_reducible rfl)
  simp only [Act.put, List.setIfInBounds_toArray, List.set_cons_zero, List.set_cons_succ, List.getElem_toArray, List.getElem_cons_zero, List.getElem_cons_succ]
  refine wpAnyH_ready (rs := [5]) (by kernel_rfl) (by simp) ?_
  refine AllReadyH.cons rfl (fun K hK => ?_) AllReadyH.nil
  go_simp
  refine (pick_any 12 _ _ _ hc (by omega) (by decide) (by decide)).mono ?_
  rintro e w5 ⟨r, rfl, hr, kc, oc⟩
  have hr11 : r ≤ 11 := hr
  have hq1 : IntKind.i64.wrap (1 + (r : Int)) = ((1 + r : Nat) : Int) := by rw [IntWalk.i64_in _ (by omega)]; omega
  obtain ⟨lm, hlm⟩ : ∃ lm : Nat, 1 + r = lm := ⟨_, rfl⟩
  rw [hlm] at hq1
  clear hlm hr hr11
  replace D := D.drawn oc
  replace ra := ra.only oc (fun (e : _ = _) => by omega)
  replace hc := kc
  clear kc oc cb
  have cb := D.bm.cell
  go_wp2_with fail
  refine hK.out _ _ (by (try dsimp only); first | go_keep | exact ⟨D.bm.cell 0, D.bm.cell 1, D.bm.cell 2, D.bm.cell 3⟩ | exact ⟨c9 0, c9 1, c9 2, c9 3⟩) (fun hHeld => ?_)
  clear hK K
  refine wpAnyH_take (i := 6) (v := ?_) rfl (by kernel_rfl) (by kernel_rfl) (by kernel_rfl) (fun _ _ _ h => h) (Or.inl ⟨by rfl, ?_⟩) (by assumption) ?_
  rotate_left 1
  · (intro w hSw; (try dsimp only at hSw); go_simp; try with_reducible rfl)
  simp only [Act.put, List.setIfInBounds_toArray, List.set_cons_zero, List.set_cons_succ, List.getElem_toArray, List.getElem_cons_zero, List.getElem_cons_succ]
  refine wpAnyH_ready (rs := [7]) (by kernel_rfl) (by simp) ?_
  refine AllReadyH.cons rfl (fun K hK => ?_) AllReadyH.nil
  go_simp
  have hrl6 := D.rm.lt
  have hral := ra.lt
  refine (area_any _ _ m A1 A2 n1 n2 c1 c2 (lm : Int) _ hc (by omega) hs).mono ?_
  rintro e w6 ⟨a, Y, ny, cy, rfl, oy0, hny, kc, oc⟩
  replace D := D.drawn oc
  replace ra := ra.only oc (fun (e : _ = _) => by omega)
  clear kc oc cb hc hq1
  have cb := D.bm.cell
  have D9 := D.st1
  have r9 := ra.only (DrB.st1o (w := w) (m := m) (A1 := A1) (A2 := A2) (n1 := n1) (c1 := c1) (n2 := n2) (c2 := c2)) (fun (e : _ = _) => by omega)
  have oa : Only (fun b => b = w.heap.size + 1) (setManyW w6 w.heap.size 0 [.int .i64 m.width, .int .i64 m.height, .slice A1 n1 c1, .slice A2 n2 c2]) (setManyW (setManyW w6 w.heap.size 0 [.int .i64 m.width, .int .i64 m.height, .slice A1 n1 c1, .slice A2 n2 c2]) (w.heap.size + 1) 0 [.int .i64 a.id, .slice Y ny cy, .int .i64 a.first, .int .i64 a.last]) := Only.many (S := fun b => b = w.heap.size + 1) rfl _ (Only.refl _ _) 0
  have D10 := D9.other (by omega) oa
  have r10 := r9.many [.int .i64 a.id, .slice Y ny cy, .int .i64 a.first, .int .i64 a.last] 0
  have oy := own_only (own_only oy0 (DrB.st1o (w := w) (m := m) (A1 := A1) (A2 := A2) (n1 := n1) (c1 := c1) (n2 := n2) (c2 := c2)) (fun b hb (e : b = w.heap.size) => by have := (own_top oy0 hb).1; omega)) oa (fun b hb (e : b = w.heap.size + 1) => by have := (own_top oy0 hb).1; omega)
  clear oy0 oa
  have cr := D.rm.cell
  have fr := D.rm.frozen
  have r9' : Blk ((((w6.setCell ⟨w.heap.size, 0, none⟩ (.int .i64 m.width)).setCell ⟨w.heap.size, 1, none⟩ (.int .i64 m.height)).setCell ⟨w.heap.size, 2, none⟩ (.slice A1 n1 c1)).setCell ⟨w.heap.size, 3, none⟩ (.slice A2 n2 c2)) (w.heap.size + 1) 62 [.int .i64 0, .slice none 0 0, .int .i64 0, .int .i64 0] := r9
  have cr9 := r9'.cell
  have fr9 := r9'.frozen
  have c9 := D9.bm.cell
  have D10' : Blk ((((((((w6.setCell ⟨w.heap.size, 0, none⟩ (.int .i64 m.width)).setCell ⟨w.heap.size, 1, none⟩ (.int .i64 m.height)).setCell ⟨w.heap.size, 2, none⟩ (.slice A1 n1 c1)).setCell ⟨w.heap.size, 3, none⟩ (.slice A2 n2 c2)).setCell ⟨w.heap.size + 1, 0, none⟩ (.int .i64 a.id)).setCell ⟨w.heap.size + 1, 1, none⟩ (.slice Y ny cy)).setCell ⟨w.heap.size + 1, 2, none⟩ (.int .i64 a.first)).setCell ⟨w.heap.size + 1, 3, none⟩ (.int .i64 a.last)) gm 29 [.int .i64 m.width, .int .i64 m.height, .slice A1 n1 c1, .slice A2 n2 c2] := D10.bm
  have c10 := D10'.cell
  go_wp2_with fail
  refine hK.out _ _ (by (try dsimp only); first | go_keep | exact ⟨D.bm.cell 0, D.bm.cell 1, D.bm.cell 2, D.bm.cell 3⟩ | exact ⟨c9 0, c9 1, c9 2, c9 3⟩) (fun hHeld => ?_)
  clear hK K
  refine wpAnyH_ready (rs := [8]) (by kernel_rfl) (by simp) ?_
  refine AllReadyH.cons rfl (fun K hK => ?_) AllReadyH.nil
  go_simp
  refine hK.out _ _ (by (try dsimp only); first | go_keep | exact ⟨D.bm.cell 0, D.bm.cell 1, D.bm.cell 2, D.bm.cell 3⟩ | exact ⟨c9 0, c9 1, c9 2, c9 3⟩) (fun hHeld => ?_)
  clear hK K
  try simp only [Act.put, List.setIfInBounds_toArray, List.set_cons_zero, List.set_cons_succ, List.getElem_toArray, List.getElem_cons_zero, List.getElem_cons_succ]
  refine wpAnyH_take (i := 9) (v := ?_) rfl (by kernel_rfl) (by kernel_rfl) (by kernel_rfl) (fun _ _ _ h => h) (Or.inl ⟨by rfl, ?_⟩) (by assumption) ?_
  rotate_left 1
  · (intro w hSw; (try dsimp only at hSw); go_simp; try with_reducible rfl)
  simp only [Act.put, List.setIfInBounds_toArray, List.set_cons_zero, List.set_cons_succ, List.getElem_toArray, List.getElem_cons_zero, List.getElem_cons_succ]
  refine wpAnyH_ready (rs := [10]) (by kernel_rfl) (by simp) ?_
  refine AllReadyH.cons rfl (fun K hK => ?_) AllReadyH.nil
  go_simp
  refine hK.out _ _ (by (try dsimp only); exact ⟨c10 0, c10 1, c10 2, c10 3⟩) (fun hHeld => ?_)
  clear hK K
  try simp only [Act.put, List.setIfInBounds_toArray, List.set_cons_zero, List.set_cons_succ, List.getElem_toArray, List.getElem_cons_zero, List.getElem_cons_succ]
  refine wpAnyH_done (by kernel_rfl) ?_ _

  clear cr fr cb c9 cr9 fr9 c10 r9' D10'
  have cm := (show Blk ((((((((w6.setCell ⟨w.heap.size, 0, none⟩ (.int .i64 m.width)).setCell ⟨w.heap.size, 1, none⟩ (.int .i64 m.height)).setCell ⟨w.heap.size, 2, none⟩ (.slice A1 n1 c1)).setCell ⟨w.heap.size, 3, none⟩ (.slice A2 n2 c2)).setCell ⟨w.heap.size + 1, 0, none⟩ (.int .i64 a.id)).setCell ⟨w.heap.size + 1, 1, none⟩ (.slice Y ny cy)).setCell ⟨w.heap.size + 1, 2, none⟩ (.int .i64 a.first)).setCell ⟨w.heap.size + 1, 3, none⟩ (.int .i64 a.last)) w.heap.size 29 [.int .i64 m.width, .int .i64 m.height, .slice A1 n1 c1, .slice A2 n2 c2] from D10.rm).cell
  have ca := (show Blk ((((((((w6.setCell ⟨w.heap.size, 0, none⟩ (.int .i64 m.width)).setCell ⟨w.heap.size, 1, none⟩ (.int .i64 m.height)).setCell ⟨w.heap.size, 2, none⟩ (.slice A1 n1 c1)).setCell ⟨w.heap.size, 3, none⟩ (.slice A2 n2 c2)).setCell ⟨w.heap.size + 1, 0, none⟩ (.int .i64 a.id)).setCell ⟨w.heap.size + 1, 1, none⟩ (.slice Y ny cy)).setCell ⟨w.heap.size + 1, 2, none⟩ (.int .i64 a.first)).setCell ⟨w.heap.size + 1, 3, none⟩ (.int .i64 a.last)) (w.heap.size + 1) 62 [.int .i64 a.id, .slice Y ny cy, .int .i64 a.first, .int .i64 a.last] from r10).cell
  go_wp2_with fail
  refine bodyPost_ret (v := .tuple #[.agg #[.int .i64 m.width, .int .i64 m.height, .slice A1 n1 c1, .slice A2 n2 c2], .slice A k c, .agg #[.int .i64 a.id, .slice Y ny cy, .int .i64 a.first, .int .i64 a.last]]) (by simp [results, Try.results57, go_sem, cm, ca]) rfl ?_
  obtain ⟨h1, h2⟩ := D10.made
  exact ⟨m, A1, n1, c1, A2, n2, c2, A, k, c, xs, a, Y, ny, cy, rfl, h1, (Sees.of_own oy).less (Nat.zero_le _), hny, h2⟩

end Go.Proofs.Ytljiflbaknakaaa
