/- What the laws of permits draw, further: ways, cells. -/
import Derived.Test.YtljiflbaknakaaaCurOp
import Derived.Test.YtljiflbaknakaaaCurWy
namespace Go.Proofs.Ytljiflbaknakaaa
open Go.RowKit

/-- A map, areas, a day and a way, drawn. -/
def DrawnWe (w : World) (e : Ending) (w' : World) : Prop := ∃ (m : MapV) (A1 : Option Addr) (n1 c1 : Nat) (A2 : Option Addr) (n2 c2 : Nat) (A : Option Addr) (k c : Nat) (xs : List Area) (d : Int) (Y : Option Addr) (ny cy : Nat) (ys : List Int), e = .returned (.tuple #[.agg #[.int .i64 m.width, .int .i64 m.height, .slice A1 n1 c1, .slice A2 n2 c2], .slice A k c, .int .i64 d, .slice Y ny cy]) ∧ MapAr w' (w.heap.size + 1) m A1 n1 c1 A2 n2 c2 A k c xs ∧ (-1 ≤ d ∧ d ≤ 365) ∧ Sees w' 0 1 Y ny (ints ys) ∧ ny ≤ 45 ∧ Below w.heap.size w w'
/-- A map, areas and a way, drawn. -/
def DrawnDw (w : World) (e : Ending) (w' : World) : Prop := ∃ (m : MapV) (A1 : Option Addr) (n1 c1 : Nat) (A2 : Option Addr) (n2 c2 : Nat) (A : Option Addr) (k c : Nat) (xs : List Area) (Y : Option Addr) (ny cy : Nat) (ys : List Int), e = .returned (.tuple #[.agg #[.int .i64 m.width, .int .i64 m.height, .slice A1 n1 c1, .slice A2 n2 c2], .slice A k c, .slice Y ny cy]) ∧ MapAr w' (w.heap.size + 1) m A1 n1 c1 A2 n2 c2 A k c xs ∧ Sees w' 0 1 Y ny (ints ys) ∧ ny ≤ 45 ∧ Below w.heap.size w w'

set_option maxRecDepth 100000 in
set_option maxHeartbeats 8000000 in
theorem drawWayErrors_any (w : World) (A0 : Option Addr) (m0 c0 : Nat) (h : CodeIn w A0 m0) (hm0 : m0 ≤ 1000000) : Calls Try.prog 62 #[.slice A0 m0 c0] w (DrawnWe w) := by
  have U0 : Below w.heap.size w ((w.alloc (.cells #[.int .i64 0, .int .i64 0, .slice none 0 0, .slice none 0 0] 29)).alloc (.cells #[.slice A0 m0 c0, .int .i64 0, .int .u64 0] 101)) := ((Below.refl _ _).alloc (Nat.le_refl _) _).alloc (by simp) _
  have rm : Blk ((w.alloc (.cells #[.int .i64 0, .int .i64 0, .slice none 0 0, .slice none 0 0] 29)).alloc (.cells #[.slice A0 m0 c0, .int .i64 0, .int .u64 0] 101)) w.heap.size 29 [.int .i64 0, .int .i64 0, .slice none 0 0, .slice none 0 0] := (Blk.at_ rfl).alloc _
  have bc : Blk ((w.alloc (.cells #[.int .i64 0, .int .i64 0, .slice none 0 0, .slice none 0 0] 29)).alloc (.cells #[.slice A0 m0 c0, .int .i64 0, .int .u64 0] 101)) (w.heap.size + 1) 101 [.slice A0 m0 c0, .int .i64 0, .int .u64 0] := Blk.at_ (by simp)
  have hc0 := cur_new h hm0 U0 (Nat.le_succ _) bc
  clear bc h
  go_enter Try.func62, Try.ntmps62
  go_wp2_with fail
  generalize ((w.alloc (.cells #[.int .i64 0, .int .i64 0, .slice none 0 0, .slice none 0 0] 29)).alloc (.cells #[.slice A0 m0 c0, .int .i64 0, .int .u64 0] 101)) = w0 at *
  refine (mapOf_any (w.heap.size + 1) 0 w0 hc0 (by decide)).mono ?_
  rintro e w1 ⟨m, A1, n1, c1, A2, n2, c2, rfl, s1, hn, hs, far1, hc1, o1⟩
  have K1 : Below w.heap.size w w1 := U0.trans (o1.below (fun b (hb : b = _) => by omega) (by have := U0.size; omega))
  have hrl := rm.lt
  have hcl := hc0.lt
  replace rm := rm.only o1 (fun (e : _ = _) => by omega)
  have far : ∀ b, OwnB A1 b ∨ OwnB A2 b → w.heap.size + 1 < b ∨ b = w.heap.size + 1 := fun b hb => by have := far1 b hb; omega
  clear o1 hc0 U0
  have hg1 := hc1.lt
  have hsz := K1.size
  have U1 : Below w1.heap.size w1 (w1.alloc (.cells #[.int .i64 m.width, .int .i64 m.height, .slice A1 n1 c1, .slice A2 n2 c2] 29)) := (Below.refl _ _).alloc (Nat.le_refl _) _
  have gm0 : Blk (w1.alloc (.cells #[.int .i64 m.width, .int .i64 m.height, .slice A1 n1 c1, .slice A2 n2 c2] 29)) w1.heap.size 29 [.int .i64 m.width, .int .i64 m.height, .slice A1 n1 c1, .slice A2 n2 c2] := Blk.at_ rfl
  have hcA := hc1.next U1
  have sA := s1.next U1
  have rA := rm.next U1
  have KA := bel_then K1 U1
  clear rm s1 K1 hc1
  have cA := gm0.cell
  go_wp2_with fail
  generalize (w1.alloc (.cells #[.int .i64 m.width, .int .i64 m.height, .slice A1 n1 c1, .slice A2 n2 c2] 29)) = w2 at *
  have U2 := U1.size
  refine (areas_any _ _ m A1 A2 n1 n2 c1 c2 w2 hcA (by omega) hs).mono ?_
  rintro e w3 ⟨A, k, c, xs, rfl, arr, hk, hcn, hc3, o3⟩
  have D0 : DrB w w3 (w.heap.size + 1) w1.heap.size m A1 n1 c1 A2 n2 c2 A k c xs [.int .i64 0, .int .i64 0, .slice none 0 0, .slice none 0 0] := ⟨rA.only o3 (fun (e : _ = _) => by omega), gm0.only o3 (fun (e : _ = _) => by omega), ⟨sA.f1.only o3 (fun b off e _ (hb : b = _) => by have := far1 b (.inl (by rw [e]; rfl)); omega), sA.f2.only o3 (fun b off e _ (hb : b = _) => by have := far1 b (.inr (by rw [e]; rfl)); omega)⟩, arr.wide (fun b (hb : w2.heap.size + 1 ≤ b) => show w1.heap.size + 1 ≤ b by omega), fun b hb => by have := far1 b hb; omega, ⟨by omega, hg1⟩, ⟨hn, hs, hk, hcn⟩, KA.trans (o3.below (fun b (hb : b = _) => by omega) (by omega))⟩
  clear rA gm0 sA arr far far1 KA o3 hcA U1 U2 cA
  generalize w1.heap.size = gm at *
  have hc := hc3.next ((Quiet.one w3).below _)
  have D := D0.below ((Quiet.one w3).below _)
  have cb := D.bm.cell

  go_wp2_with fail
  refine wp_region_held_drew (S := fun w' => w'.cell? ⟨gm, 0, none⟩ = some (.int .i64 m.width) ∧ w'.cell? ⟨gm, 1, none⟩ = some (.int .i64 m.height) ∧ w'.cell? ⟨gm, 2, none⟩ = some (.slice A1 n1 c1) ∧ w'.cell? ⟨gm, 3, none⟩ = some (.slice A2 n2 c2)) (by kernel_rfl) (by (try dsimp only); first | go_keep | exact ⟨D.bm.cell 0, D.bm.cell 1, D.bm.cell 2, D.bm.cell 3⟩ | exact ⟨c9 0, c9 1, c9 2, c9 3⟩) (fun hHeld => ?_)
  refine wpAnyH_take (i := 0) (v := ?_) rfl (by kernel_rfl) (by kernel_rfl) (by kernel_rfl) (fun _ _ _ h => h) (Or.inl ⟨by rfl, ?_⟩) (by assumption) ?_
  rotate_left 1
  · (intro w hSw; (try dsimp only at hSw); go_simp; try with_reducible rfl)
  simp only [Act.put, List.setIfInBounds_toArray, List.set_cons_zero, List.set_cons_succ, List.getElem_toArray, List.getElem_cons_zero]
  refine wpAnyH_take (i := 1) (v := ?_) rfl (by kernel_rfl) (by kernel_rfl) (by kernel_rfl) (fun _ _ _ h => h) (Or.inl ⟨by rfl, ?_⟩) (by assumption) ?_
  rotate_left 1
  · (intro w hSw; (try dsimp only at hSw); go_simp; try with_reducible rfl)
  simp only [Act.put, List.setIfInBounds_toArray, List.set_cons_zero, List.set_cons_succ, List.getElem_toArray, List.getElem_cons_zero, List.getElem_cons_succ]
  refine wpAnyH_take (i := 2) (v := ?_) rfl (by kernel_rfl) (by kernel_rfl) (by kernel_rfl) (fun _ _ _ h => h) (Or.inl ⟨by rfl, ?_⟩) (by assumption) ?_
  rotate_left 1
  · (intro w hSw; (try dsimp only at hSw); go_simp; try with_reducible rfl)
  simp only [Act.put, List.setIfInBounds_toArray, List.set_cons_zero, List.set_cons_succ, List.getElem_toArray, List.getElem_cons_zero, List.getElem_cons_succ]
  refine wpAnyH_take (i := 4) (v := ?_) rfl (by kernel_rfl) (by kernel_rfl) (by kernel_rfl) (fun _ _ _ h => h) (Or.inl ⟨by rfl, ?_⟩) (by assumption) ?_
  rotate_left 1
  · (intro w hSw; (try dsimp only at hSw); go_simp; try with_reducible rfl)
  simp only [Act.put, List.setIfInBounds_toArray, List.set_cons_zero, List.set_cons_succ, List.getElem_toArray, List.getElem_cons_zero, List.getElem_cons_succ]
  refine wpAnyH_take (i := 5) (v := ?_) rfl (by kernel_rfl) (by kernel_rfl) (by kernel_rfl) (fun _ _ _ h => h) (Or.inl ⟨by rfl, ?_⟩) (by assumption) ?_
  rotate_left 1
  · (intro w hSw; (try dsimp only at hSw); go_simp; try with_reducible rfl)
  simp only [Act.put, List.setIfInBounds_toArray, List.set_cons_zero, List.set_cons_succ, List.getElem_toArray, List.getElem_cons_zero, List.getElem_cons_succ]
  refine wpAnyH_ready (rs := [3]) (by kernel_rfl) (by simp) ?_
  refine AllReadyH.cons rfl (fun K hK => ?_) AllReadyH.nil
  go_simp
  refine (day24_any _ _ _ hc (by omega)).mono ?_
  rintro e w5 ⟨d, rfl, hd, kc, oc⟩
  replace D := D.drawn oc
  replace hc := kc
  clear kc oc cb
  have cb := D.bm.cell
  go_wp2_with fail
  refine hK.out _ _ (by (try dsimp only); first | go_keep | exact ⟨D.bm.cell 0, D.bm.cell 1, D.bm.cell 2, D.bm.cell 3⟩ | exact ⟨c9 0, c9 1, c9 2, c9 3⟩) (fun hHeld => ?_)
  clear hK K
  refine wpAnyH_ready (rs := [6]) (by kernel_rfl) (by simp) ?_
  refine AllReadyH.cons rfl (fun K hK => ?_) AllReadyH.nil
  go_simp
  have hrl6 := D.rm.lt
  refine (way24_any _ _ m A1 A2 n1 n2 c1 c2 _ hc (by omega) hs).mono ?_
  rintro e w6 ⟨Y, ny, cy, ys, rfl, oy0, hny, kc, oc⟩
  replace D := D.drawn oc
  replace hc := kc
  clear kc oc cb
  have cb := D.bm.cell
  have oy := own_only oy0 (DrB.st1o (m := m) (A1 := A1) (A2 := A2) (n1 := n1) (c1 := c1) (n2 := n2) (c2 := c2)) (fun b hb (e : b = w.heap.size) => by have := (own_top oy0 hb).1; omega)
  have D9 := D.st1
  have cr := D.rm.cell
  have fr := D.rm.frozen
  have c9 := D9.bm.cell
  go_wp2_with fail
  refine hK.out _ _ (by (try dsimp only); first | go_keep | exact ⟨D.bm.cell 0, D.bm.cell 1, D.bm.cell 2, D.bm.cell 3⟩ | exact ⟨c9 0, c9 1, c9 2, c9 3⟩) (fun hHeld => ?_)
  clear hK K
  refine wpAnyH_ready (rs := [7]) (by kernel_rfl) (by simp) ?_
  refine AllReadyH.cons rfl (fun K hK => ?_) AllReadyH.nil
  go_simp
  refine hK.out _ _ (by (try dsimp only); first | go_keep | exact ⟨D.bm.cell 0, D.bm.cell 1, D.bm.cell 2, D.bm.cell 3⟩ | exact ⟨c9 0, c9 1, c9 2, c9 3⟩) (fun hHeld => ?_)
  clear hK K
  try simp only [Act.put, List.setIfInBounds_toArray, List.set_cons_zero, List.set_cons_succ, List.getElem_toArray, List.getElem_cons_zero, List.getElem_cons_succ]
  refine wpAnyH_take (i := 8) (v := ?_) rfl (by kernel_rfl) (by kernel_rfl) (by kernel_rfl) (fun _ _ _ h => h) (Or.inl ⟨by rfl, ?_⟩) (by assumption) ?_
  rotate_left 1
  · (intro w hSw; (try dsimp only at hSw); go_simp; try with_reducible rfl)
  simp only [Act.put, List.setIfInBounds_toArray, List.set_cons_zero, List.set_cons_succ, List.getElem_toArray, List.getElem_cons_zero, List.getElem_cons_succ]
  refine wpAnyH_take (i := 9) (v := ?_) rfl (by kernel_rfl) (by kernel_rfl) (by kernel_rfl) (fun _ _ _ h => h) (Or.inl ⟨by rfl, ?_⟩) (by assumption) ?_
  rotate_left 1
  · (intro w hSw; (try dsimp only at hSw); go_simp; try with_reducible rfl)
  simp only [Act.put, List.setIfInBounds_toArray, List.set_cons_zero, List.set_cons_succ, List.getElem_toArray, List.getElem_cons_zero, List.getElem_cons_succ]
  refine wpAnyH_take (i := 10) (v := ?_) rfl (by kernel_rfl) (by kernel_rfl) (by kernel_rfl) (fun _ _ _ h => h) (Or.inl ⟨by rfl, ?_⟩) (by assumption) ?_
  rotate_left 1
  · (intro w hSw; (try dsimp only at hSw); go_simp; try with_reducible rfl)
  simp only [Act.put, List.setIfInBounds_toArray, List.set_cons_zero, List.set_cons_succ, List.getElem_toArray, List.getElem_cons_zero, List.getElem_cons_succ]
  refine wpAnyH_done (by kernel_rfl) ?_ _
  clear cr fr cb c9
  have cm := (show Blk ((((w6.setCell ⟨w.heap.size, 0, none⟩ (.int .i64 m.width)).setCell ⟨w.heap.size, 1, none⟩ (.int .i64 m.height)).setCell ⟨w.heap.size, 2, none⟩ (.slice A1 n1 c1)).setCell ⟨w.heap.size, 3, none⟩ (.slice A2 n2 c2)) w.heap.size 29 [.int .i64 m.width, .int .i64 m.height, .slice A1 n1 c1, .slice A2 n2 c2] from D9.rm).cell
  go_wp2_with fail
  refine bodyPost_ret (v := .tuple #[.agg #[.int .i64 m.width, .int .i64 m.height, .slice A1 n1 c1, .slice A2 n2 c2], .slice A k c, .int .i64 d, .slice Y ny cy]) (by simp [results, Try.results62, go_sem, cm]) rfl ?_
  obtain ⟨h1, h2⟩ := D9.made
  exact ⟨m, A1, n1, c1, A2, n2, c2, A, k, c, xs, d, Y, ny, cy, ys, rfl, h1, hd, (Sees.of_own oy).less (Nat.zero_le _), hny, h2⟩

set_option maxRecDepth 100000 in
set_option maxHeartbeats 8000000 in
theorem drawDaysForWay_any (w : World) (A0 : Option Addr) (m0 c0 : Nat) (h : CodeIn w A0 m0) (hm0 : m0 ≤ 1000000) : Calls Try.prog 53 #[.slice A0 m0 c0] w (DrawnDw w) := by
  have U0 : Below w.heap.size w ((w.alloc (.cells #[.int .i64 0, .int .i64 0, .slice none 0 0, .slice none 0 0] 29)).alloc (.cells #[.slice A0 m0 c0, .int .i64 0, .int .u64 0] 101)) := ((Below.refl _ _).alloc (Nat.le_refl _) _).alloc (by simp) _
  have rm : Blk ((w.alloc (.cells #[.int .i64 0, .int .i64 0, .slice none 0 0, .slice none 0 0] 29)).alloc (.cells #[.slice A0 m0 c0, .int .i64 0, .int .u64 0] 101)) w.heap.size 29 [.int .i64 0, .int .i64 0, .slice none 0 0, .slice none 0 0] := (Blk.at_ rfl).alloc _
  have bc : Blk ((w.alloc (.cells #[.int .i64 0, .int .i64 0, .slice none 0 0, .slice none 0 0] 29)).alloc (.cells #[.slice A0 m0 c0, .int .i64 0, .int .u64 0] 101)) (w.heap.size + 1) 101 [.slice A0 m0 c0, .int .i64 0, .int .u64 0] := Blk.at_ (by simp)
  have hc0 := cur_new h hm0 U0 (Nat.le_succ _) bc
  clear bc h
  go_enter Try.func53, Try.ntmps53
  go_wp2_with fail
  generalize ((w.alloc (.cells #[.int .i64 0, .int .i64 0, .slice none 0 0, .slice none 0 0] 29)).alloc (.cells #[.slice A0 m0 c0, .int .i64 0, .int .u64 0] 101)) = w0 at *
  refine (mapOf_any (w.heap.size + 1) 0 w0 hc0 (by decide)).mono ?_
  rintro e w1 ⟨m, A1, n1, c1, A2, n2, c2, rfl, s1, hn, hs, far1, hc1, o1⟩
  have K1 : Below w.heap.size w w1 := U0.trans (o1.below (fun b (hb : b = _) => by omega) (by have := U0.size; omega))
  have hrl := rm.lt
  have hcl := hc0.lt
  replace rm := rm.only o1 (fun (e : _ = _) => by omega)
  have far : ∀ b, OwnB A1 b ∨ OwnB A2 b → w.heap.size + 1 < b ∨ b = w.heap.size + 1 := fun b hb => by have := far1 b hb; omega
  clear o1 hc0 U0
  have hg1 := hc1.lt
  have hsz := K1.size
  have U1 : Below w1.heap.size w1 (w1.alloc (.cells #[.int .i64 m.width, .int .i64 m.height, .slice A1 n1 c1, .slice A2 n2 c2] 29)) := (Below.refl _ _).alloc (Nat.le_refl _) _
  have gm0 : Blk (w1.alloc (.cells #[.int .i64 m.width, .int .i64 m.height, .slice A1 n1 c1, .slice A2 n2 c2] 29)) w1.heap.size 29 [.int .i64 m.width, .int .i64 m.height, .slice A1 n1 c1, .slice A2 n2 c2] := Blk.at_ rfl
  have hcA := hc1.next U1
  have sA := s1.next U1
  have rA := rm.next U1
  have KA := bel_then K1 U1
  clear rm s1 K1 hc1
  have cA := gm0.cell
  go_wp2_with fail
  generalize (w1.alloc (.cells #[.int .i64 m.width, .int .i64 m.height, .slice A1 n1 c1, .slice A2 n2 c2] 29)) = w2 at *
  have U2 := U1.size
  refine (areas_any _ _ m A1 A2 n1 n2 c1 c2 w2 hcA (by omega) hs).mono ?_
  rintro e w3 ⟨A, k, c, xs, rfl, arr, hk, hcn, hc3, o3⟩
  have D0 : DrB w w3 (w.heap.size + 1) w1.heap.size m A1 n1 c1 A2 n2 c2 A k c xs [.int .i64 0, .int .i64 0, .slice none 0 0, .slice none 0 0] := ⟨rA.only o3 (fun (e : _ = _) => by omega), gm0.only o3 (fun (e : _ = _) => by omega), ⟨sA.f1.only o3 (fun b off e _ (hb : b = _) => by have := far1 b (.inl (by rw [e]; rfl)); omega), sA.f2.only o3 (fun b off e _ (hb : b = _) => by have := far1 b (.inr (by rw [e]; rfl)); omega)⟩, arr.wide (fun b (hb : w2.heap.size + 1 ≤ b) => show w1.heap.size + 1 ≤ b by omega), fun b hb => by have := far1 b hb; omega, ⟨by omega, hg1⟩, ⟨hn, hs, hk, hcn⟩, KA.trans (o3.below (fun b (hb : b = _) => by omega) (by omega))⟩
  clear rA gm0 sA arr far far1 KA o3 hcA U1 U2 cA
  generalize w1.heap.size = gm at *
  have hc := hc3.next ((Quiet.one w3).below _)
  have D := D0.below ((Quiet.one w3).below _)
  have cb := D.bm.cell

  go_wp2_with fail
  refine wp_region_held_drew (S := fun w' => w'.cell? ⟨gm, 0, none⟩ = some (.int .i64 m.width) ∧ w'.cell? ⟨gm, 1, none⟩ = some (.int .i64 m.height) ∧ w'.cell? ⟨gm, 2, none⟩ = some (.slice A1 n1 c1) ∧ w'.cell? ⟨gm, 3, none⟩ = some (.slice A2 n2 c2)) (by kernel_rfl) (by (try dsimp only); first | go_keep | exact ⟨D.bm.cell 0, D.bm.cell 1, D.bm.cell 2, D.bm.cell 3⟩ | exact ⟨c9 0, c9 1, c9 2, c9 3⟩) (fun hHeld => ?_)
  refine wpAnyH_take (i := 0) (v := ?_) rfl (by kernel_rfl) (by kernel_rfl) (by kernel_rfl) (fun _ _ _ h => h) (Or.inl ⟨by rfl, ?_⟩) (by assumption) ?_
  rotate_left 1
  · (intro w hSw; (try dsimp only at hSw); go_simp; try with_reducible rfl)
  simp only [Act.put, List.setIfInBounds_toArray, List.set_cons_zero, List.set_cons_succ, List.getElem_toArray, List.getElem_cons_zero]
  refine wpAnyH_take (i := 1) (v := ?_) rfl (by kernel_rfl) (by kernel_rfl) (by kernel_rfl) (fun _ _ _ h => h) (Or.inl ⟨by rfl, ?_⟩) (by assumption) ?_
  rotate_left 1
  · (intro w hSw; (try dsimp only at hSw); go_simp; try with_reducible rfl)
  simp only [Act.put, List.setIfInBounds_toArray, List.set_cons_zero, List.set_cons_succ, List.getElem_toArray, List.getElem_cons_zero, List.getElem_cons_succ]
  refine wpAnyH_take (i := 2) (v := ?_) rfl (by kernel_rfl) (by kernel_rfl) (by kernel_rfl) (fun _ _ _ h => h) (Or.inl ⟨by rfl, ?_⟩) (by assumption) ?_
  rotate_left 1
  · (intro w hSw; (try dsimp only at hSw); go_simp; try with_reducible rfl)
  simp only [Act.put, List.setIfInBounds_toArray, List.set_cons_zero, List.set_cons_succ, List.getElem_toArray, List.getElem_cons_zero, List.getElem_cons_succ]
  refine wpAnyH_take (i := 3) (v := ?_) rfl (by kernel_rfl) (by kernel_rfl) (by kernel_rfl) (fun _ _ _ h => h) (Or.inl ⟨by rfl, ?_⟩) (by assumption) ?_
  rotate_left 1
  · (intro w hSw; (try dsimp only at hSw); go_simp; try with_reducible rfl)
  simp only [Act.put, List.setIfInBounds_toArray, List.set_cons_zero, List.set_cons_succ, List.getElem_toArray, List.getElem_cons_zero, List.getElem_cons_succ]
  refine wpAnyH_ready (rs := [4]) (by kernel_rfl) (by simp) ?_
  refine AllReadyH.cons rfl (fun K hK => ?_) AllReadyH.nil
  go_simp
  have hrl6 := D.rm.lt
  refine (way24_any _ _ m A1 A2 n1 n2 c1 c2 _ hc (by omega) hs).mono ?_
  rintro e w6 ⟨Y, ny, cy, ys, rfl, oy0, hny, kc, oc⟩
  replace D := D.drawn oc
  replace hc := kc
  clear kc oc cb
  have cb := D.bm.cell
  have oy := own_only oy0 (DrB.st1o (m := m) (A1 := A1) (A2 := A2) (n1 := n1) (c1 := c1) (n2 := n2) (c2 := c2)) (fun b hb (e : b = w.heap.size) => by have := (own_top oy0 hb).1; omega)
  have D9 := D.st1
  have cr := D.rm.cell
  have fr := D.rm.frozen
  have c9 := D9.bm.cell
  go_wp2_with fail
  refine hK.out _ _ (by (try dsimp only); first | go_keep | exact ⟨D.bm.cell 0, D.bm.cell 1, D.bm.cell 2, D.bm.cell 3⟩ | exact ⟨c9 0, c9 1, c9 2, c9 3⟩) (fun hHeld => ?_)
  clear hK K
  refine wpAnyH_ready (rs := [5]) (by kernel_rfl) (by simp) ?_
  refine AllReadyH.cons rfl (fun K hK => ?_) AllReadyH.nil
  go_simp
  refine hK.out _ _ (by (try dsimp only); first | go_keep | exact ⟨D.bm.cell 0, D.bm.cell 1, D.bm.cell 2, D.bm.cell 3⟩ | exact ⟨c9 0, c9 1, c9 2, c9 3⟩) (fun hHeld => ?_)
  clear hK K
  try simp only [Act.put, List.setIfInBounds_toArray, List.set_cons_zero, List.set_cons_succ, List.getElem_toArray, List.getElem_cons_zero, List.getElem_cons_succ]
  refine wpAnyH_take (i := 6) (v := ?_) rfl (by kernel_rfl) (by kernel_rfl) (by kernel_rfl) (fun _ _ _ h => h) (Or.inl ⟨by rfl, ?_⟩) (by assumption) ?_
  rotate_left 1
  · (intro w hSw; (try dsimp only at hSw); go_simp; try with_reducible rfl)
  simp only [Act.put, List.setIfInBounds_toArray, List.set_cons_zero, List.set_cons_succ, List.getElem_toArray, List.getElem_cons_zero, List.getElem_cons_succ]
  refine wpAnyH_take (i := 7) (v := ?_) rfl (by kernel_rfl) (by kernel_rfl) (by kernel_rfl) (fun _ _ _ h => h) (Or.inl ⟨by rfl, ?_⟩) (by assumption) ?_
  rotate_left 1
  · (intro w hSw; (try dsimp only at hSw); go_simp; try with_reducible rfl)
  simp only [Act.put, List.setIfInBounds_toArray, List.set_cons_zero, List.set_cons_succ, List.getElem_toArray, List.getElem_cons_zero, List.getElem_cons_succ]
  refine wpAnyH_done (by kernel_rfl) ?_ _
  clear cr fr cb c9
  have cm := (show Blk ((((w6.setCell ⟨w.heap.size, 0, none⟩ (.int .i64 m.width)).setCell ⟨w.heap.size, 1, none⟩ (.int .i64 m.height)).setCell ⟨w.heap.size, 2, none⟩ (.slice A1 n1 c1)).setCell ⟨w.heap.size, 3, none⟩ (.slice A2 n2 c2)) w.heap.size 29 [.int .i64 m.width, .int .i64 m.height, .slice A1 n1 c1, .slice A2 n2 c2] from D9.rm).cell
  go_wp2_with fail
  refine bodyPost_ret (v := .tuple #[.agg #[.int .i64 m.width, .int .i64 m.height, .slice A1 n1 c1, .slice A2 n2 c2], .slice A k c, .slice Y ny cy]) (by simp [results, Try.results53, go_sem, cm]) rfl ?_
  obtain ⟨h1, h2⟩ := D9.made
  exact ⟨m, A1, n1, c1, A2, n2, c2, A, k, c, xs, Y, ny, cy, ys, rfl, h1, (Sees.of_own oy).less (Nat.zero_le _), hny, h2⟩

end Go.Proofs.Ytljiflbaknakaaa
