/- What the laws of permits draw. -/
import Derived.Test.YtljiflbaknakaaaCurAs
namespace Go.Proofs.Ytljiflbaknakaaa
open Go.RowKit

/-- Within a drawing, the cursor g aside: the result's map at w.heap.size, the map's box gm, the areas behind it. -/
structure DrB (w wr : World) (g gm : Nat) (m : MapV) (A1 : Option Addr) (n1 c1 : Nat) (A2 : Option Addr) (n2 c2 : Nat) (A : Option Addr) (k c : Nat) (xs : List Area) (rv : List Value) : Prop where
  rm : Blk wr w.heap.size 29 rv
  bm : Blk wr gm 29 [.int .i64 m.width, .int .i64 m.height, .slice A1 n1 c1, .slice A2 n2 c2]
  sees : SeesMap wr A1 n1 A2 n2 m
  arr : MineN areaSh wr (fun b => gm + 1 ≤ b) 62 3 A k c xs
  far : ∀ b, OwnB A1 b ∨ OwnB A2 b → g < b
  lo : w.heap.size < g ∧ g < gm
  num : (n1 ≤ 40 ∧ n2 ≤ 40) ∧ ((0 ≤ m.width ∧ m.width ≤ 10) ∧ (0 ≤ m.height ∧ m.height ≤ 10)) ∧ k ≤ 10 ∧ ∀ x ∈ xs, x.cnt ≤ 40
  kept : Below w.heap.size w wr
section
variable {w wr wv : World} {g gm : Nat} {m : MapV} {A1 A2 A : Option Addr} {n1 c1 n2 c2 k c : Nat} {xs : List Area} {rv : List Value}
theorem DrB.below (h : DrB w wr g gm m A1 n1 c1 A2 n2 c2 A k c xs rv) (hb : Below wr.heap.size wr wv) : DrB w wv g gm m A1 n1 c1 A2 n2 c2 A k c xs rv :=
  ⟨h.rm.next hb, h.bm.next hb, h.sees.next hb, h.arr.next hb, h.far, h.lo, h.num, bel_then h.kept hb⟩
theorem DrB.drawn (h : DrB w wr g gm m A1 n1 c1 A2 n2 c2 A k c xs rv) (ho : Only (fun b => b = g) wr wv) : DrB w wv g gm m A1 n1 c1 A2 n2 c2 A k c xs rv := by
  have hlo := h.lo
  have hsz := h.kept.size
  refine ⟨h.rm.only ho (fun (e : _ = _) => by omega), h.bm.only ho (fun (e : _ = _) => by omega), ⟨h.sees.f1.only ho (fun b off e _ (hb : b = g) => ?_), h.sees.f2.only ho (fun b off e _ (hb : b = g) => ?_)⟩, h.arr.only ho (fun b (h1 : gm + 1 ≤ b) (h2 : b = g) => by omega), h.far, hlo, h.num, h.kept.trans (ho.below (fun b (hb : b = g) => by omega) hsz)⟩
  · have := h.far b (.inl (by rw [e]; rfl)); omega
  · have := h.far b (.inr (by rw [e]; rfl)); omega
/-- the map is stored into the result -/
theorem DrB.st1 (h : DrB w wr g gm m A1 n1 c1 A2 n2 c2 A k c xs [.int .i64 0, .int .i64 0, .slice none 0 0, .slice none 0 0]) : DrB w (setManyW wr w.heap.size 0 [.int .i64 m.width, .int .i64 m.height, .slice A1 n1 c1, .slice A2 n2 c2]) g gm m A1 n1 c1 A2 n2 c2 A k c xs [.int .i64 m.width, .int .i64 m.height, .slice A1 n1 c1, .slice A2 n2 c2] := by
  have ho : Only (fun b => b = w.heap.size) wr (setManyW wr w.heap.size 0 [.int .i64 m.width, .int .i64 m.height, .slice A1 n1 c1, .slice A2 n2 c2]) := Only.many (S := fun b => b = w.heap.size) rfl _ (Only.refl _ _) 0
  have hlo := h.lo
  have hsz := h.kept.size
  refine ⟨h.rm.many [.int .i64 m.width, .int .i64 m.height, .slice A1 n1 c1, .slice A2 n2 c2] 0, h.bm.only ho (fun (e : _ = _) => by omega), ⟨h.sees.f1.only ho (fun b off e _ (hb : b = w.heap.size) => ?_), h.sees.f2.only ho (fun b off e _ (hb : b = w.heap.size) => ?_)⟩, h.arr.only ho (fun b (h1 : gm + 1 ≤ b) (h2 : b = w.heap.size) => by omega), h.far, hlo, h.num, h.kept.trans (ho.below (fun b (hb : b = w.heap.size) => by omega) hsz)⟩
  · have := h.far b (.inl (by rw [e]; rfl)); omega
  · have := h.far b (.inr (by rw [e]; rfl)); omega
end
theorem DrB.st1o {w wr : World} {m : MapV} {A1 A2 : Option Addr} {n1 c1 n2 c2 : Nat} : Only (fun b => b = w.heap.size) wr (setManyW wr w.heap.size 0 [.int .i64 m.width, .int .i64 m.height, .slice A1 n1 c1, .slice A2 n2 c2]) := Only.many (S := fun b => b = w.heap.size) rfl _ (Only.refl _ _) 0
/-- A map and areas, drawn. -/
structure MapAr (w' : World) (lo : Nat) (m : MapV) (A1 : Option Addr) (n1 c1 : Nat) (A2 : Option Addr) (n2 c2 : Nat) (A : Option Addr) (k c : Nat) (xs : List Area) : Prop where
  sees : SeesMap w' A1 n1 A2 n2 m
  arr : MineN areaSh w' (fun b => lo ≤ b) 62 3 A k c xs
  far : ∀ b, OwnB A1 b ∨ OwnB A2 b → lo ≤ b
  num : (n1 ≤ 40 ∧ n2 ≤ 40) ∧ ((0 ≤ m.width ∧ m.width ≤ 10) ∧ (0 ≤ m.height ∧ m.height ≤ 10)) ∧ k ≤ 10 ∧ ∀ x ∈ xs, x.cnt ≤ 40
theorem DrB.made {w wr : World} {g gm : Nat} {m : MapV} {A1 A2 A : Option Addr} {n1 c1 n2 c2 k c : Nat} {xs : List Area} {rv : List Value} (h : DrB w wr g gm m A1 n1 c1 A2 n2 c2 A k c xs rv) : MapAr wr (w.heap.size + 1) m A1 n1 c1 A2 n2 c2 A k c xs ∧ Below w.heap.size w wr :=
  ⟨⟨h.sees, h.arr.wide fun b (hb : gm + 1 ≤ b) => show w.heap.size + 1 ≤ b by have := h.lo; omega, fun b hb => by have := h.far b hb; have := h.lo; omega, h.num⟩, h.kept⟩

/-- A map, areas and a day, drawn. -/
def DrawnOp (w : World) (e : Ending) (w' : World) : Prop := ∃ (m : MapV) (A1 : Option Addr) (n1 c1 : Nat) (A2 : Option Addr) (n2 c2 : Nat) (A : Option Addr) (k c : Nat) (xs : List Area) (d : Int), e = .returned (.tuple #[.agg #[.int .i64 m.width, .int .i64 m.height, .slice A1 n1 c1, .slice A2 n2 c2], .slice A k c, .int .i64 d]) ∧ MapAr w' (w.heap.size + 1) m A1 n1 c1 A2 n2 c2 A k c xs ∧ (-1 ≤ d ∧ d ≤ 365) ∧ Below w.heap.size w w'

set_option maxRecDepth 100000 in
set_option maxHeartbeats 8000000 in
theorem drawOpenCells_any (w : World) (A0 : Option Addr) (m0 c0 : Nat) (h : CodeIn w A0 m0) (hm0 : m0 ≤ 1000000) : Calls Try.prog 61 #[.slice A0 m0 c0] w (DrawnOp w) := by
  have U0 : Below w.heap.size w ((w.alloc (.cells #[.int .i64 0, .int .i64 0, .slice none 0 0, .slice none 0 0] 29)).alloc (.cells #[.slice A0 m0 c0, .int .i64 0, .int .u64 0] 101)) := ((Below.refl _ _).alloc (Nat.le_refl _) _).alloc (by simp) _
  have rm : Blk ((w.alloc (.cells #[.int .i64 0, .int .i64 0, .slice none 0 0, .slice none 0 0] 29)).alloc (.cells #[.slice A0 m0 c0, .int .i64 0, .int .u64 0] 101)) w.heap.size 29 [.int .i64 0, .int .i64 0, .slice none 0 0, .slice none 0 0] := (Blk.at_ rfl).alloc _
  have bc : Blk ((w.alloc (.cells #[.int .i64 0, .int .i64 0, .slice none 0 0, .slice none 0 0] 29)).alloc (.cells #[.slice A0 m0 c0, .int .i64 0, .int .u64 0] 101)) (w.heap.size + 1) 101 [.slice A0 m0 c0, .int .i64 0, .int .u64 0] := Blk.at_ (by simp)
  have hc0 := cur_new h hm0 U0 (Nat.le_succ _) bc
  clear bc h
  go_enter Try.func61, Try.ntmps61
  go_wp2_with fail
  generalize ((w.alloc (.cells #[.int .i64 0, .int .i64 0, .slice none 0 0, .slice none 0 0] 29)).alloc (.cells #[.slice A0 m0 c0, .int .i64 0, .int .u64 0] 101)) = w0 at *
  refine (mapOf_any (w.heap.size + 1) 0 w0 hc0 (by decide)).mono ?_
  rintro e w1 ⟨m, A1, n1, c1, A2, n2, c2, rfl, s1, hn, hs, far1, hc1, o1⟩
  have K1 : Below w.heap.size w w1 := U0.trans (o1.below (fun b (hb : b = _) => by omega) (by have := U0.size; omega))
  have hrl := rm.lt
  have hcl := hc0.lt
  replace rm := rm.only o1 (fun (e : _ = _) => by omega)
  have far : ∀ b, OwnB A1 b ∨ OwnB A2 b → w.heap.size + 1 < b ∨ b = w.heap.size + 1 := fun b hb => by have := far1 b hb; omega
  clear o1 hc0 U0
  have hg1 := hc1.lt
  have hsz := K1.size
  have U1 : Below w1.heap.size w1 (w1.alloc (.cells #[.int .i64 m.width, .int .i64 m.height, .slice A1 n1 c1, .slice A2 n2 c2] 29)) := (Below.refl _ _).alloc (Nat.le_refl _) _
  have gm0 : Blk (w1.alloc (.cells #[.int .i64 m.width, .int .i64 m.height, .slice A1 n1 c1, .slice A2 n2 c2] 29)) w1.heap.size 29 [.int .i64 m.width, .int .i64 m.height, .slice A1 n1 c1, .slice A2 n2 c2] := Blk.at_ rfl
  have hcA := hc1.next U1
  have sA := s1.next U1
  have rA := rm.next U1
  have KA := bel_then K1 U1
  clear rm s1 K1 hc1
  have cA := gm0.cell
  go_wp2_with fail
  generalize (w1.alloc (.cells #[.int .i64 m.width, .int .i64 m.height, .slice A1 n1 c1, .slice A2 n2 c2] 29)) = w2 at *
  have U2 := U1.size
  refine (areas_any _ _ m A1 A2 n1 n2 c1 c2 w2 hcA (by omega) hs).mono ?_
  rintro e w3 ⟨A, k, c, xs, rfl, arr, hk, hcn, hc3, o3⟩
  have D0 : DrB w w3 (w.heap.size + 1) w1.heap.size m A1 n1 c1 A2 n2 c2 A k c xs [.int .i64 0, .int .i64 0, .slice none 0 0, .slice none 0 0] := ⟨rA.only o3 (fun (e : _ = _) => by omega), gm0.only o3 (fun (e : _ = _) => by omega), ⟨sA.f1.only o3 (fun b off e _ (hb : b = _) => by have := far1 b (.inl (by rw [e]; rfl)); omega), sA.f2.only o3 (fun b off e _ (hb : b = _) => by have := far1 b (.inr (by rw [e]; rfl)); omega)⟩, arr.wide (fun b (hb : w2.heap.size + 1 ≤ b) => show w1.heap.size + 1 ≤ b by omega), fun b hb => by have := far1 b hb; omega, ⟨by omega, hg1⟩, ⟨hn, hs, hk, hcn⟩, KA.trans (o3.below (fun b (hb : b = _) => by omega) (by omega))⟩
  clear rA gm0 sA arr far far1 KA o3 hcA U1 U2 cA
  generalize w1.heap.size = gm at *
  have hc := hc3.next ((Quiet.one w3).below _)
  have D := D0.below ((Quiet.one w3).below _)
  have cb := D.bm.cell
  go_wp2_with fail
  refine wp_region_held_drew (S := fun w' => w'.cell? ⟨gm, 0, none⟩ = some (.int .i64 m.width) ∧ w'.cell? ⟨gm, 1, none⟩ = some (.int .i64 m.height) ∧ w'.cell? ⟨gm, 2, none⟩ = some (.slice A1 n1 c1) ∧ w'.cell? ⟨gm, 3, none⟩ = some (.slice A2 n2 c2)) (by kernel_rfl) (by (try dsimp only); first | go_keep | exact ⟨D.bm.cell 0, D.bm.cell 1, D.bm.cell 2, D.bm.cell 3⟩) (fun hHeld => ?_)
  refine wpAnyH_take (i := 0) (v := ?_) rfl (by kernel_rfl) (by kernel_rfl) (by kernel_rfl) (fun _ _ _ h => h) (Or.inl ⟨by rfl, ?_⟩) (by assumption) ?_
  rotate_left 1
  · (intro w hSw; (try dsimp only at hSw); go_simp; try with_reducible rfl)
  simp only [Act.put, List.setIfInBounds_toArray, List.set_cons_zero, List.set_cons_succ, List.getElem_toArray, List.getElem_cons_zero]
  refine wpAnyH_take (i := 1) (v := ?_) rfl (by kernel_rfl) (by kernel_rfl) (by kernel_rfl) (fun _ _ _ h => h) (Or.inl ⟨by rfl, ?_⟩) (by assumption) ?_
  rotate_left 1
  · (intro w hSw; (try dsimp only at hSw); go_simp; try with_reducible rfl)
  simp only [Act.put, List.setIfInBounds_toArray, List.set_cons_zero, List.set_cons_succ, List.getElem_toArray, List.getElem_cons_zero, List.getElem_cons_succ]
  refine wpAnyH_take (i := 2) (v := ?_) rfl (by kernel_rfl) (by kernel_rfl) (by kernel_rfl) (fun _ _ _ h => h) (Or.inl ⟨by rfl, ?_⟩) (by assumption) ?_
  rotate_left 1
  · (intro w hSw; (try dsimp only at hSw); go_simp; try with_reducible rfl)
  simp only [Act.put, List.setIfInBounds_toArray, List.set_cons_zero, List.set_cons_succ, List.getElem_toArray, List.getElem_cons_zero, List.getElem_cons_succ]
  refine wpAnyH_ready (rs := [3]) (by kernel_rfl) (by simp) ?_
  refine AllReadyH.cons rfl (fun K hK => ?_) AllReadyH.nil
  go_simp
  refine (day24_any _ _ _ hc (by omega)).mono ?_
  rintro e w5 ⟨d, rfl, hd, kc, oc⟩
  replace D := D.drawn oc
  have D9 := D.st1
  have cr := D.rm.cell
  have fr := D.rm.frozen
  clear kc oc hc cb
  have cb := D.bm.cell
  have c9 := D9.bm.cell
  go_wp2_with fail
  refine hK.out _ _ (by (try dsimp only); first | go_keep | exact ⟨D.bm.cell 0, D.bm.cell 1, D.bm.cell 2, D.bm.cell 3⟩) (fun hHeld => ?_)
  clear hK K
  refine wpAnyH_ready (rs := [4]) (by kernel_rfl) (by simp) ?_
  refine AllReadyH.cons rfl (fun K hK => ?_) AllReadyH.nil
  go_simp
  refine hK.out _ _ (by (try dsimp only); first | go_keep | exact ⟨c9 0, c9 1, c9 2, c9 3⟩) (fun hHeld => ?_)
  clear hK K
  try simp only [Act.put, List.setIfInBounds_toArray, List.set_cons_zero, List.set_cons_succ, List.getElem_toArray, List.getElem_cons_zero, List.getElem_cons_succ]
  refine wpAnyH_take (i := 5) (v := ?_) rfl (by kernel_rfl) (by kernel_rfl) (by kernel_rfl) (fun _ _ _ h => h) (Or.inl ⟨by rfl, ?_⟩) (by assumption) ?_
  rotate_left 1
  · (intro w hSw; (try dsimp only at hSw); go_simp; try with_reducible rfl)
  simp only [Act.put, List.setIfInBounds_toArray, List.set_cons_zero, List.set_cons_succ, List.getElem_toArray, List.getElem_cons_zero, List.getElem_cons_succ]
  refine wpAnyH_take (i := 6) (v := ?_) rfl (by kernel_rfl) (by kernel_rfl) (by kernel_rfl) (fun _ _ _ h => h) (Or.inl ⟨by rfl, ?_⟩) (by assumption) ?_
  rotate_left 1
  · (intro w hSw; (try dsimp only at hSw); go_simp; try with_reducible rfl)
  simp only [Act.put, List.setIfInBounds_toArray, List.set_cons_zero, List.set_cons_succ, List.getElem_toArray, List.getElem_cons_zero, List.getElem_cons_succ]
  refine wpAnyH_done (by kernel_rfl) ?_ _
  clear cr fr cb c9
  have cm := (show Blk ((((w5.setCell ⟨w.heap.size, 0, none⟩ (.int .i64 m.width)).setCell ⟨w.heap.size, 1, none⟩ (.int .i64 m.height)).setCell ⟨w.heap.size, 2, none⟩ (.slice A1 n1 c1)).setCell ⟨w.heap.size, 3, none⟩ (.slice A2 n2 c2)) w.heap.size 29 [.int .i64 m.width, .int .i64 m.height, .slice A1 n1 c1, .slice A2 n2 c2] from D9.rm).cell
  go_wp2_with fail
  refine bodyPost_ret (v := .tuple #[.agg #[.int .i64 m.width, .int .i64 m.height, .slice A1 n1 c1, .slice A2 n2 c2], .slice A k c, .int .i64 d]) (by simp [results, Try.results61, go_sem, cm]) rfl ?_
  obtain ⟨h1, h2⟩ := D9.made
  exact ⟨m, A1, n1, c1, A2, n2, c2, A, k, c, xs, d, rfl, h1, hd, h2⟩

end Go.Proofs.Ytljiflbaknakaaa
