/- The draw of an area. -/
import Derived.Test.YtljiflbaknakaaaCurM
import Derived.Test.YtljiflbaknakaaaAreas
import Derived.Deep.CutBlock
namespace Go.Proofs.Ytljiflbaknakaaa
open Go.RowKit

theorem l1Least_any (a b : Int) (w : World) : Calls Try.prog 116 #[.int .i64 a, .int .i64 b] w fun e w' => ∃ r, e = .returned (.int .i64 r) ∧ w = w' ∧ r ≤ a ∧ (r = a ∨ r = b) := by
  by_cases h : a < b
  · go_enter Try.func116, Try.ntmps116
    go_wp2
    go_ret
    exact ⟨a, rfl, rfl, Int.le_refl _, .inl rfl⟩
  · go_enter Try.func116, Try.ntmps116
    go_wp2
    go_ret
    exact ⟨b, rfl, rfl, by omega, .inr rfl⟩
/-- Within the draw of an area: the map's box, the result's block, the area's block gp. -/
structure ArSt (w wr : World) (g n gp : Nat) (bx : List Value) (i : Int) (A : Option Addr) (k c : Nat) (xs : List Int) (p q : Int) : Prop where
  cur : Cur wr g n
  box : Blk wr w.heap.size 29 bx
  res : Blk wr (w.heap.size + 1) 62 [.int .i64 0, .slice none 0 0, .int .i64 0, .int .i64 0]
  blk : Blk wr gp 62 [.int .i64 i, .slice A k c, .int .i64 p, .int .i64 q]
  own : wr.ownsRow (w.heap.size + 2) 3 1 (.slice A k c) k (ints xs)
  far : ¬ OwnB A gp
  lo : w.heap.size + 1 < gp
  only : Only (fun b => b = g) w wr
section
variable {w wr wv w' : World} {g n n' gp : Nat} {bx : List Value} {i p q : Int} {A : Option Addr} {k c : Nat} {xs : List Int}
theorem ArSt.below (h : ArSt w wr g n gp bx i A k c xs p q) (hb : Below wr.heap.size wr wv) : ArSt w wv g n gp bx i A k c xs p q :=
  ⟨h.cur.next hb, h.box.next hb, h.res.next hb, h.blk.next hb, own_below h.own hb, h.far, h.lo, h.only.then_ hb⟩
theorem ArSt.drawn (h : ArSt w wr g n gp bx i A k c xs p q) (hg : g < w.heap.size) (hc : Cur wv g n') (ho : Only (fun b => b = g) wr wv) : ArSt w wv g n' gp bx i A k c xs p q :=
  ⟨hc, h.box.only ho (fun (e : _ = _) => by omega), h.res.only ho (fun (e : _ = _) => by omega), h.blk.only ho (fun (e : _ = _) => by have := h.lo; omega), own_only h.own ho (fun b hb (e : _ = _) => by have := (own_top h.own hb).1; omega), h.far, h.lo, h.only.trans ho⟩
theorem ArSt.step (h : ArSt w wr g n gp bx i A k c xs p q) (hg : g < w.heap.size) (hb : Below wr.heap.size wr wv) (hc : Cur w' g n') (ho : Only (fun b => b = g) wv w') : ArSt w w' g n' gp bx i A k c xs p q := (h.below hb).drawn hg hc ho
theorem ArSt.more (h : ArSt w wr g n gp bx i A k c xs p q) (hn : n ≤ n') : ArSt w wr g n' gp bx i A k c xs p q := { h with cur := h.cur.more hn }
theorem ArSt.kept (h : ArSt w wr g n gp bx i A k c xs p q) (hg : g < w.heap.size) (j : Nat) (v : Value) : Cur (wr.setCell ⟨gp, j, none⟩ v) g n ∧ Blk (wr.setCell ⟨gp, j, none⟩ v) w.heap.size 29 bx ∧ Blk (wr.setCell ⟨gp, j, none⟩ v) (w.heap.size + 1) 62 [.int .i64 0, .slice none 0 0, .int .i64 0, .int .i64 0] ∧ Only (fun b => b = g) w (wr.setCell ⟨gp, j, none⟩ v) ∧ Only (fun b => b = gp) wr (wr.setCell ⟨gp, j, none⟩ v) := by
  have hS : Only (fun b => b = gp) wr (wr.setCell ⟨gp, j, none⟩ v) := only_set (Only.refl _ _) j _
  have hlo := h.lo
  exact ⟨h.cur.keep hS (fun (e : _ = _) => by omega) (fun b (e : _ = _) => by omega), h.box.only hS (fun (e : _ = _) => by omega), h.res.only hS (fun (e : _ = _) => by omega), only_new h.only (by show w.heap.size ≤ gp; omega) _, hS⟩
theorem ArSt.set0 (h : ArSt w wr g n gp bx i A k c xs p q) (hg : g < w.heap.size) (v : Int) : ArSt w (wr.setCell ⟨gp, 0, none⟩ (.int .i64 v)) g n gp bx v A k c xs p q := by
  obtain ⟨h1, h2, h3, h4, h5⟩ := h.kept hg 0 (.int .i64 v)
  exact ⟨h1, h2, h3, h.blk.set_ 0 _, own_only h.own h5 (fun b hb (e : _ = _) => h.far (e ▸ hb)), h.far, h.lo, h4⟩
theorem ArSt.set2 (h : ArSt w wr g n gp bx i A k c xs p q) (hg : g < w.heap.size) (v : Int) : ArSt w (wr.setCell ⟨gp, 2, none⟩ (.int .i64 v)) g n gp bx i A k c xs v q := by
  obtain ⟨h1, h2, h3, h4, h5⟩ := h.kept hg 2 (.int .i64 v)
  exact ⟨h1, h2, h3, h.blk.set_ 2 _, own_only h.own h5 (fun b hb (e : _ = _) => h.far (e ▸ hb)), h.far, h.lo, h4⟩
theorem ArSt.set3 (h : ArSt w wr g n gp bx i A k c xs p q) (hg : g < w.heap.size) (v : Int) : ArSt w (wr.setCell ⟨gp, 3, none⟩ (.int .i64 v)) g n gp bx i A k c xs p v := by
  obtain ⟨h1, h2, h3, h4, h5⟩ := h.kept hg 3 (.int .i64 v)
  exact ⟨h1, h2, h3, h.blk.set_ 3 _, own_only h.own h5 (fun b hb (e : _ = _) => h.far (e ▸ hb)), h.far, h.lo, h4⟩
/-- another slice of cells -/
theorem ArSt.cells {A' : Option Addr} {k' c' : Nat} {ys : List Int} (h : ArSt w wr g n gp bx i A k c xs p q) (hg : g < w.heap.size) (ho : wr.ownsRow (w.heap.size + 2) 3 1 (.slice A' k' c') k' (ints ys)) (hf : ¬ OwnB A' gp) : ArSt w (wr.setCell ⟨gp, 1, none⟩ (.slice A' k' c')) g n gp bx i A' k' c' ys p q := by
  obtain ⟨h1, h2, h3, h4, h5⟩ := h.kept hg 1 (.slice A' k' c')
  exact ⟨h1, h2, h3, h.blk.set_ 1 _, own_only ho h5 (fun b hb (e : _ = _) => hf (e ▸ hb)), hf, h.lo, h4⟩
/-- one cell more -/
theorem ArSt.push {A' : Option Addr} {k' c' : Nat} {v : Int} (h : ArSt w wr g n gp bx i A k c xs p q) (hg : g < w.heap.size) (ho : wv.ownsRow (w.heap.size + 2) 3 1 (.slice A' k' c') k' (ints xs ++ [.int .i64 v])) (hq : Only (OwnB A) wr wv) (hat : ∀ b, OwnB A' b → OwnB A b ∨ wr.heap.size ≤ b) :
    ArSt w (wv.setCell ⟨gp, 1, none⟩ (.slice A' k' c')) g n gp bx i A' k' c' (xs ++ [v]) p q ∧ Blk wv gp 62 [.int .i64 i, .slice A k c, .int .i64 p, .int .i64 q] := by
  have hlo := h.lo
  have ht : ∀ b, OwnB A b → w.heap.size + 2 ≤ b := fun b hb => (own_top h.own hb).1
  have hb : Blk wv gp 62 [.int .i64 i, .slice A k c, .int .i64 p, .int .i64 q] := h.blk.only hq h.far
  have o2 : Only (fun b => b = g) w wv := ⟨hq.os.trans h.only.os, hq.tape.trans h.only.tape, hq.output.trans h.only.output, Nat.le_trans h.only.size hq.size, fun j hj hS => (hq.block j (Nat.lt_of_lt_of_le hj h.only.size) (fun hb => by have := ht _ hb; omega)).trans (h.only.block j hj hS)⟩
  have s : ArSt w wv g n gp bx i A k c xs p q ∨ True := .inr trivial
  have hlt := h.blk.lt
  have hA' : ¬ OwnB A' gp := fun hb => by
    rcases hat _ hb with h1 | h1
    · exact h.far h1
    · omega
  have hS : Only (fun b => b = gp) wv (wv.setCell ⟨gp, 1, none⟩ (.slice A' k' c')) := only_set (Only.refl _ _) 1 _
  have hc := h.cur.keep hq (fun hb => by have := ht _ hb; omega) (fun b hb => by have := ht _ hb; omega)
  refine ⟨⟨hc.keep hS (fun (e : _ = _) => by omega) (fun b (e : _ = _) => by omega), (h.box.only hq (fun hb => by have := ht _ hb; omega)).only hS (fun (e : _ = _) => by omega), (h.res.only hq (fun hb => by have := ht _ hb; omega)).only hS (fun (e : _ = _) => by omega), hb.set_ 1 _, own_only (by rw [ints_append]; exact ho) hS (fun b hb (e : _ = _) => hA' (e ▸ hb)), hA', hlo, only_new o2 (by show w.heap.size ≤ gp; omega) _⟩, hb⟩
end
/-- An area, drawn. -/
def DrawnAr (w : World) (g n : Nat) (e : Ending) (w' : World) : Prop := ∃ (x : Area) (A : Option Addr) (k c : Nat), e = .returned (.agg #[.int .i64 x.id, .slice A k c, .int .i64 x.first, .int .i64 x.last]) ∧ w'.ownsRow w.heap.size 3 1 (.slice A k c) k (ints x.cells) ∧ k ≤ 40 ∧ Cur w' g n ∧ Only (fun b => b = g) w w'
theorem ArSt.done {w wr : World} {g n gp : Nat} {bx : List Value} {i p q : Int} {A : Option Addr} {k c : Nat} {xs : List Int} (h : ArSt w wr g n gp bx i A k c xs p q) (hg : g < w.heap.size) (hk : k ≤ 40) : DrawnAr w g n (.returned (.agg #[.int .i64 i, .slice A k c, .int .i64 p, .int .i64 q])) (setManyW wr (w.heap.size + 1) 0 [.int .i64 i, .slice A k c, .int .i64 p, .int .i64 q]) := by
  have ho : Only (fun b => b = w.heap.size + 1) wr (setManyW wr (w.heap.size + 1) 0 [.int .i64 i, .slice A k c, .int .i64 p, .int .i64 q]) := Only.many (S := fun b => b = w.heap.size + 1) rfl _ (Only.refl _ _) 0
  have h1 := h.only
  exact ⟨⟨i, xs, p, q⟩, A, k, c, rfl, own_base (own_only h.own ho (fun b hb (e : _ = _) => by have := (own_top h.own hb).1; omega)) (by omega), hk, h.cur.keep ho (fun (e : _ = _) => by omega) (fun b (e : _ = _) => by omega), ⟨ho.os.trans h1.os, ho.tape.trans h1.tape, ho.output.trans h1.output, Nat.le_trans h1.size ho.size, fun k hk hS => (ho.block k (Nat.lt_of_lt_of_le hk h1.size) (fun e => by omega)).trans (h1.block k hk hS)⟩⟩

set_option maxRecDepth 100000 in
set_option maxHeartbeats 8000000 in
theorem area_any (g n : Nat) (m : MapV) (A1 A2 : Option Addr) (n1 n2 c1 c2 : Nat) (i0 : Int) (w : World) (h : Cur w g n) (hn : n ≤ 800000) (hs : (0 ≤ m.width ∧ m.width ≤ 10) ∧ (0 ≤ m.height ∧ m.height ≤ 10)) :
    Calls Try.prog 97 #[.pointer (some ⟨g, 0, none⟩), .agg #[.int .i64 m.width, .int .i64 m.height, .slice A1 n1 c1, .slice A2 n2 c2], .int .i64 i0] w (DrawnAr w g (n + 200)) := by
  have hg := h.lt
  obtain ⟨P, hP⟩ : ∃ P : Nat, m.width * m.height = (P : Int) := ⟨(m.width * m.height).toNat, by have := Int.mul_nonneg hs.1.1 hs.2.1; omega⟩
  have hP100 : (P : Int) ≤ 100 := by rw [← hP]; exact Int.le_trans (Int.mul_le_mul hs.1.2 hs.2.2 hs.2.1 (by decide)) (by decide)
  have L1 : Below w.heap.size w (((w.alloc (.cells #[.int .i64 m.width, .int .i64 m.height, .slice A1 n1 c1, .slice A2 n2 c2] 29)).alloc (.cells #[.int .i64 0, .slice none 0 0, .int .i64 0, .int .i64 0] 62)).alloc (.cells #[.int .i64 0, .int .i64 10, .int .i64 100, .int .i64 300, .int .i64 364] 3)) := (((Below.refl _ _).alloc (Nat.le_refl _) _).alloc (by simp) _).alloc (by simp; omega) _
  have B1 : Blk (((w.alloc (.cells #[.int .i64 m.width, .int .i64 m.height, .slice A1 n1 c1, .slice A2 n2 c2] 29)).alloc (.cells #[.int .i64 0, .slice none 0 0, .int .i64 0, .int .i64 0] 62)).alloc (.cells #[.int .i64 0, .int .i64 10, .int .i64 100, .int .i64 300, .int .i64 364] 3)) (w.heap.size + 1 + 1) 3 (ints [0, 10, 100, 300, 364]) := Blk.at_ (by simp)
  have M1 : Blk (((w.alloc (.cells #[.int .i64 m.width, .int .i64 m.height, .slice A1 n1 c1, .slice A2 n2 c2] 29)).alloc (.cells #[.int .i64 0, .slice none 0 0, .int .i64 0, .int .i64 0] 62)).alloc (.cells #[.int .i64 0, .int .i64 10, .int .i64 100, .int .i64 300, .int .i64 364] 3)) w.heap.size 29 [.int .i64 m.width, .int .i64 m.height, .slice A1 n1 c1, .slice A2 n2 c2] := ((Blk.at_ rfl).alloc _).alloc _
  have R1 : Blk (((w.alloc (.cells #[.int .i64 m.width, .int .i64 m.height, .slice A1 n1 c1, .slice A2 n2 c2] 29)).alloc (.cells #[.int .i64 0, .slice none 0 0, .int .i64 0, .int .i64 0] 62)).alloc (.cells #[.int .i64 0, .int .i64 10, .int .i64 100, .int .i64 300, .int .i64 364] 3)) (w.heap.size + 1) 62 [.int .i64 0, .slice none 0 0, .int .i64 0, .int .i64 0] := (Blk.at_ (by simp)).alloc _
  obtain ⟨hs1, hs2⟩ := hs
  go_enter Try.func97, Try.ntmps97
  go_wp2_with fail
  refine (among_any g n (w.heap.size + 1 + 1) 5 _ [0, 10, 100, 300, 364] _ B1 (by omega) (h.next L1) (by omega) rfl (by decide) (by decide)).mono ?_
  rintro e w1 ⟨x1, rfl, xm, k1, o1⟩
  have hx1 : 0 ≤ x1 ∧ x1 ≤ 364 := by simp at xm; omega
  have O1 := (Only.of_below (S := fun b => b = g) L1).trans o1
  replace M1 := M1.only o1 (fun (e : _ = _) => by omega)
  replace R1 := R1.only o1 (fun (e : _ = _) => by omega)
  have hr1 := R1.lt
  clear L1 B1 o1 xm
  have V2 : Below w1.heap.size w1 (w1.alloc (.cells #[.int .i64 i0, .slice none 0 0, .int .i64 x1, .int .i64 0] 62)) := (Below.refl _ _).alloc (Nat.le_refl _) _
  have M : ArSt w (w1.alloc (.cells #[.int .i64 i0, .slice none 0 0, .int .i64 x1, .int .i64 0] 62)) g (n + 2) w1.heap.size [.int .i64 m.width, .int .i64 m.height, .slice A1 n1 c1, .slice A2 n2 c2] i0 none 0 0 [] x1 0 := ⟨k1.next V2, M1.next V2, R1.next V2, Blk.at_ rfl, World.ownsRow_nil _ _ _ _, (fun h => by simp [OwnB, Value.ownBlock] at h), hr1, O1.then_ V2⟩
  clear V2 M1 R1 O1 k1
  go_wp2_with fail
  generalize (w1.alloc (.cells #[.int .i64 i0, .slice none 0 0, .int .i64 x1, .int .i64 0] 62)) = wx at *
  generalize w1.heap.size = gp at *
  have WB : Below wx.heap.size wx ((wx.alloc (.cells #[.int .i64 0, .int .i64 5, .int .i64 90, .int .i64 364] 3))).drew := bel_quiet ((Below.refl _ _).alloc (Nat.le_refl _) _) (Quiet.one _)
  have ML := M.below WB
  have BL : Blk ((wx.alloc (.cells #[.int .i64 0, .int .i64 5, .int .i64 90, .int .i64 364] 3))).drew wx.heap.size 3 (ints [0, 5, 90, 364]) := (Blk.at_ rfl).quiet (Quiet.one _)
  have hsz := M.only.size
  have hgx := M.blk.lt
  have cl := ML.blk.cell
  have cm := (M.below ((Quiet.one wx).below _)).blk.cell
  refine wp_region_held_drew (S := fun w' => w'.cell? ⟨gp, 2, none⟩ = some (.int .i64 x1)) (by kernel_rfl) (by (try dsimp only); first | go_keep | exact (M5.blk.set_ 3 (.int .i64 tv)).cell 2) (fun hHeld => ?_)
  refine wpAnyH_take (i := 0) (v := ?_) rfl (by kernel_rfl) (by kernel_rfl) (by kernel_rfl) (fun _ _ _ h => h) (Or.inl ⟨by rfl, ?_⟩) (by assumption) ?_
  rotate_left 1
  · (intro w hSw; (try dsimp only at hSw); go_simp; try with_reducible rfl)
  simp only [Act.put, List.setIfInBounds_toArray, List.set_cons_zero, List.set_cons_succ, List.getElem_toArray, List.getElem_cons_zero]
  refine wpAnyH_take (i := 1) (v := ?_) rfl (by kernel_rfl) (by kernel_rfl) (by kernel_rfl) (fun _ _ _ h => h) (Or.inl ⟨by rfl, ?_⟩) (by assumption) ?_
  rotate_left 1
  · (intro w hSw; (try dsimp only at hSw); go_simp; try with_reducible rfl)
  simp only [Act.put, List.setIfInBounds_toArray, List.set_cons_zero, List.set_cons_succ, List.getElem_toArray, List.getElem_cons_zero, List.getElem_cons_succ]
  refine wpAnyH_take (i := 2) (v := ?_) rfl (by kernel_rfl) (by kernel_rfl) (by kernel_rfl) (fun _ _ _ h => h) (Or.inl ⟨by rfl, ?_⟩) (by assumption) ?_
  rotate_left 1
  · (intro w hSw; (try dsimp only at hSw); go_simp; try with_reducible rfl)
  simp only [Act.put, List.setIfInBounds_toArray, List.set_cons_zero, List.set_cons_succ, List.getElem_toArray, List.getElem_cons_zero, List.getElem_cons_succ]
  refine wpAnyH_ready (rs := [3]) (by kernel_rfl) (by simp) ?_
  refine AllReadyH.cons rfl (fun K hK => ?_) AllReadyH.nil
  go_simp
  refine hK.out _ _ (by (try dsimp only); first | go_keep | exact (M5.blk.set_ 3 (.int .i64 tv)).cell 2) (fun hHeld => ?_)
  clear hK K
  try simp only [Act.put, List.setIfInBounds_toArray, List.set_cons_zero, List.set_cons_succ, List.getElem_toArray, List.getElem_cons_zero, List.getElem_cons_succ]
  refine wpAnyH_ready (rs := [4]) (by kernel_rfl) (by simp) ?_
  refine AllReadyH.cons rfl (fun K hK => ?_) AllReadyH.nil
  go_simp
  refine (among_any g _ wx.heap.size 4 _ [0, 5, 90, 364] _ BL (by omega) ML.cur (by omega) rfl (by decide) (by decide)).mono ?_
  rintro e wy ⟨sv, rfl, sm, kc, oc⟩
  have hsv : 0 ≤ sv ∧ sv ≤ 364 := by simp at sm; omega
  have M5 := ML.drawn hg kc oc
  clear kc oc sm cm cl
  have cm := M5.blk.cell
  have fm := M5.blk.frozen
  have hws : IntKind.i64.wrap (x1 + sv) = x1 + sv := IntWalk.i64_in _ (by omega)
  go_wp2_with fail
  refine hK.out _ _ (by (try dsimp only); first | go_keep | exact (M5.blk.set_ 3 (.int .i64 tv)).cell 2) (fun hHeld => ?_)
  clear hK K
  refine wpAnyH_take (i := 5) (v := ?_) rfl (by kernel_rfl) (by kernel_rfl) (by kernel_rfl) (fun _ _ _ h => h) (Or.inl ⟨by rfl, ?_⟩) (by assumption) ?_
  rotate_left 1
  · (intro w hSw; (try dsimp only at hSw); go_simp; try with_reducible rfl)
  simp only [Act.put, List.setIfInBounds_toArray, List.set_cons_zero, List.set_cons_succ, List.getElem_toArray, List.getElem_cons_zero, List.getElem_cons_succ]
  refine wpAnyH_ready (rs := [6]) (by kernel_rfl) (by simp) ?_
  refine AllReadyH.cons rfl (fun K hK => ?_) AllReadyH.nil
  go_simp
  refine (l1Least_any 364 (x1 + sv) _).mono ?_
  rintro e w' ⟨tv, rfl, rfl, ht1, ht2⟩
  have htv : -1000 ≤ tv ∧ tv ≤ 364 := by omega
  clear ht1 ht2
  go_wp2_with fail
  refine hK.out _ _ (by (try dsimp only); first | go_keep | exact (M5.blk.set_ 3 (.int .i64 tv)).cell 2) (fun hHeld => ?_)
  clear hK K
  refine wpAnyH_take (i := 7) (v := ?_) rfl (by kernel_rfl) (by kernel_rfl) (by kernel_rfl) (fun _ _ _ h => h) (Or.inl ⟨by rfl, ?_⟩) (by assumption) ?_
  rotate_left 1
  · (intro w hSw; (try dsimp only at hSw); go_simp; try with_reducible rfl)
  simp only [Act.put, List.setIfInBounds_toArray, List.set_cons_zero, List.set_cons_succ, List.getElem_toArray, List.getElem_cons_zero, List.getElem_cons_succ]
  refine wpAnyH_ready (rs := [8]) (by kernel_rfl) (by simp) ?_
  refine AllReadyH.cons rfl (fun K hK => ?_) AllReadyH.nil
  go_simp
  refine hK.out _ _ (by (try dsimp only); first | go_keep | exact (M5.blk.set_ 3 (.int .i64 tv)).cell 2) (fun hHeld => ?_)
  clear hK K
  try simp only [Act.put, List.setIfInBounds_toArray, List.set_cons_zero, List.set_cons_succ, List.getElem_toArray, List.getElem_cons_zero, List.getElem_cons_succ]
  refine wpAnyH_done (by kernel_rfl) ?_ _
  have M6 := M5.set3 hg tv
  clear ML BL WB M hsz cm fm hws
  go_upto_block 0 with fail
  generalize wy.setCell ⟨gp, 3, none⟩ (.int .i64 tv) = wz at *
  clear M5
  go_cut [8] (fun s8 wr => ∃ (A : Option Addr) (k c : Nat) (xs : List Int), k ≤ 36 ∧ ArSt w wr g (n + 100) gp [.int .i64 m.width, .int .i64 m.height, .slice A1 n1 c1, .slice A2 n2 c2] i0 A k c xs x1 tv)
  case first =>
   go_wp2_with fail
   go_loopw [8] (fun jv wr => ∃ (j : Nat) (A : Option Addr) (k c : Nat) (xs : List Int), j ≤ 36 ∧ j ≤ P ∧ jv = .int .i64 (j : Int) ∧ k ≤ j ∧ ArSt w wr g (n + 4 + 2 * j) gp [.int .i64 m.width, .int .i64 m.height, .slice A1 n1 c1, .slice A2 n2 c2] i0 A k c xs x1 tv) (fun jv _ => 36 - (intOf jv).toNat)
   case atStart => exact ⟨0, none, 0, 0, [], by omega, by omega, rfl, Nat.le_refl _, M6.more (by omega)⟩
   case round =>
     clear M6
     obtain ⟨j, A, k, c, xs, hj, hjP, rfl, hk, M⟩ := hrel
     have cm := M.box.cell
     have hwP : IntKind.i64.wrap (m.width * m.height) = (P : Int) := by rw [hP]; exact IntWalk.i64_in _ (by omega)
     by_cases hlt : j < P ∧ j < 36
     · obtain ⟨hl1, hl2⟩ := hlt
       go_wp2_with fail
       refine (one_any 4 g _ wr M.cur (by omega) (by decide) (by decide)).mono ?_
       rintro e wc ⟨bb, rfl, kc, oc⟩
       replace M := M.drawn hg kc oc
       have HJ := Lib.hid hl1
       clear kc oc cm
       have cm := M.blk.cell
       cases bb
       · go_wp2_with fail
         go_roundw
         case rel => exact ⟨j + 1, A, k, c, xs, by omega, by have := HJ.out; omega, by go_num, by omega, M.more (by omega)⟩
         case measure => simp [intOf]; omega
       · have hz := M.blk.lt
         have hlo := M.lo
         go_wp2_with (at_builtin; (refine wpList_pushNew rfl _ _ _ rfl Try.underlying22 info_int rfl (by decide) rfl M.own rfl (by simp) (by rfl) (by rfl) (by omega) (by decide) (by omega) ?_); intro A6 c6 w6 o6 h6 b6 q6; obtain ⟨M3, Bw6⟩ := M.push hg o6 h6 q6; have cw6 := Bw6.cell; have fw6 := Bw6.frozen)
         go_roundw
         case rel => exact ⟨j + 1, A6, k + 1, c6, _, by omega, by have := HJ.out; omega, by go_num, by omega, M3.more (by omega)⟩
         case measure => simp [intOf]; omega
     · have hk36 : k ≤ 36 := by omega
       replace M := M.more (n' := n + 100) (by omega)
       rcases Nat.lt_or_ge j P with h1 | h1
       · have h2 : ¬ j < 36 := fun h => hlt ⟨h1, h⟩
         clear hlt
         go_wp2_with fail
         go_meet
         exact ⟨A, k, c, xs, hk36, M⟩
       · have h2 : ¬ j < P := by omega
         clear hlt
         go_wp2_with fail
         go_meet
         exact ⟨A, k, c, xs, hk36, M⟩
  case rest =>
    obtain ⟨A, k, c, xs, hk36, M⟩ := hcut
    obtain ⟨wr, rfl⟩ : ∃ w' : World, w' = wc := ⟨_, rfl⟩
    clear M6
    have hwP : IntKind.i64.wrap (m.width * m.height) = (P : Int) := by rw [hP]; exact IntWalk.i64_in _ (by omega)
    have cm := M.blk.cell
    have fm := M.blk.frozen
    by_cases hk0 : k = 0
    · subst hk0
      go_wp2_with fail
      refine (one_any 12 g _ wr M.cur (by omega) (by decide) (by decide)).mono ?_
      rintro e wc ⟨bb, rfl, kc, oc⟩
      replace M := M.drawn hg kc oc
      clear kc oc cm fm
      cases bb
      · have UA : Below wc.heap.size wc (wc.alloc (.cells #[.int .i64 0] 3)) := (Below.refl _ _).alloc (Nat.le_refl _) _
        have M' := M.below UA
        have hzl := M.only.size
        have BN : Blk (wc.alloc (.cells #[.int .i64 0] 3)) wc.heap.size 3 [.int .i64 0] := Blk.at_ rfl
        have hlo := M.lo
        have hgl := M.blk.lt
        have ON : (wc.alloc (.cells #[.int .i64 0] 3)).ownsRow (w.heap.size + 2) 3 1 (.slice (some ⟨wc.heap.size, 0, none⟩) 1 1) 1 (ints [0]) := BN.own (by omega) rfl (by simp [maxLen])
        have M2 := M'.cells hg ON (fun hb => by have h : wc.heap.size = gp := (by simpa [OwnB, Value.ownBlock] using hb); omega)
        have cm := M'.blk.cell
        have fm := M'.blk.frozen
        clear UA M BN ON hgl M'
        go_wp2_with fail
        generalize (wc.alloc (.cells #[.int .i64 0] 3)).setCell ⟨gp, 1, none⟩ (.slice (some ⟨wc.heap.size, 0, none⟩) 1 1) = wb at *
        generalize (some ⟨wc.heap.size, 0, none⟩ : Option Addr) = A at *
        clear cm fm
        have M := M2.more (n' := n + 110) (by omega)
        clear M2
        have hgl := M.only.size
        refine (pick_any 70 g _ wb M.cur (by omega) (by decide) (by decide)).mono ?_
        rintro e wd ⟨z, rfl, -, kz, oz⟩
        replace M := M.drawn hg kz oz
        clear kz oz hgl
        have cm := M.blk.cell
        have fm := M.blk.frozen
        by_cases h0 : z = 0
        · have zb0 : ((z : Int) == 0) = true := by rw [h0]; rfl
          clear h0
          go_wp2_with fail
          refine (among_any g _ wd.heap.size 3 _ [0, 99, 100] _ (Blk.at_ rfl : Blk (wd.alloc (.cells #[.int .i64 (0), .int .i64 (99), .int .i64 (100)] 3)) wd.heap.size 3 (ints [0, 99, 100])) (by have := hg; have := M.only.size; omega) (M.cur.next ((Below.refl _ _).alloc (Nat.le_refl _) _)) (by omega) rfl (by decide) (by decide)).mono ?_
          rintro e wa ⟨wav, rfl, wam, wac, wao⟩
          replace M := M.step hg ((Below.refl _ _).alloc (Nat.le_refl _) _) wac wao
          clear wac wao wam cm fm
          have cm := M.blk.cell
          have fm := M.blk.frozen
          have M2 := M.set0 hg wav
          have cr := M2.res.cell
          have fr := M2.res.frozen
          have cx := M2.blk.cell
          go_wp2_with fail
          refine bodyPost_ret (v := .agg #[.int .i64 (wav), .slice (A) (1) (1), .int .i64 (x1), .int .i64 (tv)]) (by simp [results, Try.results97, go_sem, cr]) rfl ?_
          exact (M2.more (by omega)).done hg (by omega)
        · have zb0 : ((z : Int) == 0) = false := beq_eq_false_iff_ne.2 (by omega)
          by_cases h1 : z = 1
          · have zb1 : ((z : Int) == 1) = true := by rw [h1]; rfl
            clear h0 h1
            clear cm fm
            have WB : Below wd.heap.size wd ((wd.alloc (.cells #[.int .i64 0, .int .i64 (P : Int)] 3))).drew := bel_quiet ((Below.refl _ _).alloc (Nat.le_refl _) _) (Quiet.one _)
            have ML := M.below WB
            have BL : Blk ((wd.alloc (.cells #[.int .i64 0, .int .i64 (P : Int)] 3))).drew wd.heap.size 3 (ints [0, (P : Int)]) := (Blk.at_ rfl).quiet (Quiet.one _)
            have hsz := M.only.size
            have hgx := M.blk.lt
            have cl := ML.blk.cell
            have MD := M.below ((Quiet.one wd).below _)
            have cm := MD.blk.cell
            have cb := MD.box.cell
            have cbl := ML.box.cell
            have hwl : w.heap.size < wd.heap.size := M.box.lt
            have hwP2 : IntKind.i64.wrap (P : Int) = (P : Int) := IntWalk.i64_in _ (by omega)
            go_wp2_with fail
            refine wp_region_held_drew (S := fun w' => w'.cell? ⟨w.heap.size, 0, none⟩ = some (.int .i64 m.width) ∧ w'.cell? ⟨w.heap.size, 1, none⟩ = some (.int .i64 m.height)) (by kernel_rfl) (by (try dsimp only); first | go_keep | exact ⟨x7 0, x7 1⟩ | exact ⟨M7.box.cell 0, M7.box.cell 1⟩ | exact ⟨M5.box.cell 0, M5.box.cell 1⟩) (fun hHeld => ?_)
            refine wpAnyH_take (i := 0) (v := ?_) rfl (by kernel_rfl) (by kernel_rfl) (by kernel_rfl) (fun _ _ _ h => h) (Or.inl ⟨by rfl, ?_⟩) (by assumption) ?_
            rotate_left 1
            · (intro w hSw; (try dsimp only at hSw); go_simp; try with_reducible rfl)
            simp only [Act.put, List.setIfInBounds_toArray, List.set_cons_zero, List.set_cons_succ, List.getElem_toArray, List.getElem_cons_zero]
            refine wpAnyH_take (i := 2) (v := ?_) rfl (by kernel_rfl) (by kernel_rfl) (by kernel_rfl) (fun _ _ _ h => h) (Or.inl ⟨by rfl, ?_⟩) (by assumption) ?_
            rotate_left 1
            · (intro w hSw; (try dsimp only at hSw); go_simp; try with_reducible rfl)
            simp only [Act.put, List.setIfInBounds_toArray, List.set_cons_zero, List.set_cons_succ, List.getElem_toArray, List.getElem_cons_zero, List.getElem_cons_succ]
            refine wpAnyH_take (i := 3) (v := ?_) rfl (by kernel_rfl) (by kernel_rfl) (by kernel_rfl) (fun _ _ _ h => h) (Or.inl ⟨by rfl, ?_⟩) (by assumption) ?_
            rotate_left 1
            · (intro w hSw; (try dsimp only at hSw); go_simp; try with_reducible rfl)
            simp only [Act.put, List.setIfInBounds_toArray, List.set_cons_zero, List.set_cons_succ, List.getElem_toArray, List.getElem_cons_zero, List.getElem_cons_succ]
            refine wpAnyH_take (i := 4) (v := ?_) rfl (by kernel_rfl) (by kernel_rfl) (by kernel_rfl) (fun _ _ _ h => h) (Or.inl ⟨by rfl, ?_⟩) (by assumption) ?_
            rotate_left 1
            · (intro w hSw; (try dsimp only at hSw); go_simp; try with_reducible rfl)
            simp only [Act.put, List.setIfInBounds_toArray, List.set_cons_zero, List.set_cons_succ, List.getElem_toArray, List.getElem_cons_zero, List.getElem_cons_succ]
            refine wpAnyH_take (i := 5) (v := ?_) rfl (by kernel_rfl) (by kernel_rfl) (by kernel_rfl) (fun _ _ _ h => h) (Or.inl ⟨by rfl, ?_⟩) (by assumption) ?_
            rotate_left 1
            · (intro w hSw; (try dsimp only at hSw); go_simp; try with_reducible rfl)
            simp only [Act.put, List.setIfInBounds_toArray, List.set_cons_zero, List.set_cons_succ, List.getElem_toArray, List.getElem_cons_zero, List.getElem_cons_succ]
            refine wpAnyH_take (i := 6) (v := ?_) rfl (by kernel_rfl) (by kernel_rfl) (by kernel_rfl) (fun _ _ _ h => h) (Or.inl ⟨by rfl, ?_⟩) (by assumption) ?_
            rotate_left 1
            · (intro w hSw; (try dsimp only at hSw); go_simp; try with_reducible rfl)
            simp only [Act.put, List.setIfInBounds_toArray, List.set_cons_zero, List.set_cons_succ, List.getElem_toArray, List.getElem_cons_zero, List.getElem_cons_succ]
            refine wpAnyH_take (i := 7) (v := ?_) rfl (by kernel_rfl) (by kernel_rfl) (by kernel_rfl) (fun _ _ _ h => h) (Or.inl ⟨by rfl, ?_⟩) (by assumption) ?_
            rotate_left 1
            · (intro w hSw; (try dsimp only at hSw); go_simp; try with_reducible rfl)
            simp only [Act.put, List.setIfInBounds_toArray, List.set_cons_zero, List.set_cons_succ, List.getElem_toArray, List.getElem_cons_zero, List.getElem_cons_succ]
            refine wpAnyH_ready (rs := [1, 8]) (by kernel_rfl) (by simp) ?_
            refine AllReadyH.cons rfl (fun K hK => ?_) ?_
            · go_simp
              refine hK.out _ _ (by (try dsimp only); first | go_keep | exact ⟨x7 0, x7 1⟩ | exact ⟨M7.box.cell 0, M7.box.cell 1⟩ | exact ⟨M5.box.cell 0, M5.box.cell 1⟩) (fun hHeld => ?_)
              clear hK K
              try simp only [Act.put, List.setIfInBounds_toArray, List.set_cons_zero, List.set_cons_succ, List.getElem_toArray, List.getElem_cons_zero, List.getElem_cons_succ]
              refine wpAnyH_ready (rs := [8]) (by kernel_rfl) (by simp) ?_
              refine AllReadyH.cons rfl (fun K hK => ?_) AllReadyH.nil
              go_simp
              refine hK.out _ _ (by (try dsimp only); first | go_keep | exact ⟨x7 0, x7 1⟩ | exact ⟨M7.box.cell 0, M7.box.cell 1⟩ | exact ⟨M5.box.cell 0, M5.box.cell 1⟩) (fun hHeld => ?_)
              clear hK K
              try simp only [Act.put, List.setIfInBounds_toArray, List.set_cons_zero, List.set_cons_succ, List.getElem_toArray, List.getElem_cons_zero, List.getElem_cons_succ]
              refine wpAnyH_ready (rs := [9]) (by kernel_rfl) (by simp) ?_
              refine AllReadyH.cons rfl (fun K hK => ?_) AllReadyH.nil
              go_simp
              refine (among_any g _ wd.heap.size 2 _ [0, (P : Int)] _ BL (by omega) ML.cur (by omega) rfl (by decide) (by decide)).mono ?_
              rintro e wy ⟨sv, rfl, -, kc, oc⟩
              have M5 := ML.drawn hg kc oc
              clear kc oc
              have c5 := M5.blk.cell
              have f5 := M5.blk.frozen
              have U5 : Below wy.heap.size wy (wy.alloc (.cells #[.int .i64 sv] 3)) := (Below.refl _ _).alloc (Nat.le_refl _) _
              have M6 := M5.below U5
              have BX : Blk (wy.alloc (.cells #[.int .i64 sv] 3)) wy.heap.size 3 [.int .i64 sv] := Blk.at_ rfl
              have c6' := M6.blk.cell
              have hz5 := M5.only.size
              go_wp2_with fail
              refine hK.out _ _ (by (try dsimp only); first | go_keep | exact ⟨x7 0, x7 1⟩ | exact ⟨M7.box.cell 0, M7.box.cell 1⟩ | exact ⟨M5.box.cell 0, M5.box.cell 1⟩) (fun hHeld => ?_)
              clear hK K
              refine wpAnyH_ready (rs := [10]) (by kernel_rfl) (by simp) ?_
              refine AllReadyH.cons rfl (fun K hK => ?_) AllReadyH.nil
              go_simp
              refine hK.out _ _ (by (try dsimp only); first | go_keep | exact ⟨x7 0, x7 1⟩ | exact ⟨M7.box.cell 0, M7.box.cell 1⟩ | exact ⟨M5.box.cell 0, M5.box.cell 1⟩) (fun hHeld => ?_)
              clear hK K
              try simp only [Act.put, List.setIfInBounds_toArray, List.set_cons_zero, List.set_cons_succ, List.getElem_toArray, List.getElem_cons_zero, List.getElem_cons_succ]
              refine wpAnyH_ready (rs := [11]) (by kernel_rfl) (by simp) ?_
              refine AllReadyH.cons rfl (fun K hK => ?_) AllReadyH.nil
              refine step_cat rfl _ _ _ (by rfl) Try.underlying22 info_int rfl (by decide) (by rfl) M6.own (by rfl) (m := 1) (BX.sees (s := 1) (Nat.zero_le _) rfl) (by simp [Value.oneCell']) (by omega) (by omega) (by decide) (by have := M6.blk.lt; have := M6.lo; omega) ?_
              intro A6 c6 w6 o6 h6 b6 q6
              obtain ⟨M7, B7⟩ := M6.push hg o6 h6 q6
              have c7 := B7.cell
              have f7 := B7.frozen
              have x7 := (M6.box.only h6 (fun hb => by have := (own_top M6.own hb).1; omega)).cell
              refine hK.out _ _ (by (try dsimp only); first | go_keep | exact ⟨x7 0, x7 1⟩ | exact ⟨M7.box.cell 0, M7.box.cell 1⟩ | exact ⟨M5.box.cell 0, M5.box.cell 1⟩) (fun hHeld => ?_)
              clear hK K
              try simp only [Act.put, List.setIfInBounds_toArray, List.set_cons_zero, List.set_cons_succ, List.getElem_toArray, List.getElem_cons_zero, List.getElem_cons_succ]
              refine wpAnyH_take (i := 12) (v := ?_) rfl (by kernel_rfl) (by kernel_rfl) (by kernel_rfl) (fun _ _ _ h => h) (Or.inl ⟨by rfl, ?_⟩) (by assumption) ?_
              rotate_left 1
              · (intro w hSw; (try dsimp only at hSw); go_simp; try with_reducible rfl)
              simp only [Act.put, List.setIfInBounds_toArray, List.set_cons_zero, List.set_cons_succ, List.getElem_toArray, List.getElem_cons_zero, List.getElem_cons_succ]
              refine wpAnyH_ready (rs := [13]) (by kernel_rfl) (by simp) ?_
              refine AllReadyH.cons rfl (fun K hK => ?_) AllReadyH.nil
              go_simp
              refine hK.out _ _ (by (try dsimp only); first | go_keep | exact ⟨x7 0, x7 1⟩ | exact ⟨M7.box.cell 0, M7.box.cell 1⟩ | exact ⟨M5.box.cell 0, M5.box.cell 1⟩) (fun hHeld => ?_)
              clear hK K
              try simp only [Act.put, List.setIfInBounds_toArray, List.set_cons_zero, List.set_cons_succ, List.getElem_toArray, List.getElem_cons_zero, List.getElem_cons_succ]
              refine wpAnyH_done (by kernel_rfl) ?_ _
              clear c7 f7 x7
              have M2 := M7
              have cr := M2.res.cell
              have fr := M2.res.frozen
              have cx := M2.blk.cell
              go_wp2_with fail
              refine bodyPost_ret (v := .agg #[.int .i64 (i0), .slice (A6) (1 + 1) (c6), .int .i64 (x1), .int .i64 (tv)]) (by simp [results, Try.results97, go_sem, cr]) rfl ?_
              exact (M2.more (by omega)).done hg (by omega)
            refine AllReadyH.cons rfl (fun K hK => ?_) AllReadyH.nil
            · go_simp
              refine hK.out _ _ (by (try dsimp only); first | go_keep | exact ⟨x7 0, x7 1⟩ | exact ⟨M7.box.cell 0, M7.box.cell 1⟩ | exact ⟨M5.box.cell 0, M5.box.cell 1⟩) (fun hHeld => ?_)
              clear hK K
              try simp only [Act.put, List.setIfInBounds_toArray, List.set_cons_zero, List.set_cons_succ, List.getElem_toArray, List.getElem_cons_zero, List.getElem_cons_succ]
              refine wpAnyH_ready (rs := [1, 9]) (by kernel_rfl) (by simp) ?_
              refine AllReadyH.cons rfl (fun K hK => ?_) ?_
              · go_simp
                refine hK.out _ _ (by (try dsimp only); first | go_keep | exact ⟨x7 0, x7 1⟩ | exact ⟨M7.box.cell 0, M7.box.cell 1⟩ | exact ⟨M5.box.cell 0, M5.box.cell 1⟩) (fun hHeld => ?_)
                clear hK K
                try simp only [Act.put, List.setIfInBounds_toArray, List.set_cons_zero, List.set_cons_succ, List.getElem_toArray, List.getElem_cons_zero, List.getElem_cons_succ]
                refine wpAnyH_ready (rs := [9]) (by kernel_rfl) (by simp) ?_
                refine AllReadyH.cons rfl (fun K hK => ?_) AllReadyH.nil
                go_simp
                refine (among_any g _ wd.heap.size 2 _ [0, (P : Int)] _ BL (by omega) ML.cur (by omega) rfl (by decide) (by decide)).mono ?_
                rintro e wy ⟨sv, rfl, -, kc, oc⟩
                have M5 := ML.drawn hg kc oc
                clear kc oc
                have c5 := M5.blk.cell
                have f5 := M5.blk.frozen
                have U5 : Below wy.heap.size wy (wy.alloc (.cells #[.int .i64 sv] 3)) := (Below.refl _ _).alloc (Nat.le_refl _) _
                have M6 := M5.below U5
                have BX : Blk (wy.alloc (.cells #[.int .i64 sv] 3)) wy.heap.size 3 [.int .i64 sv] := Blk.at_ rfl
                have c6' := M6.blk.cell
                have hz5 := M5.only.size
                go_wp2_with fail
                refine hK.out _ _ (by (try dsimp only); first | go_keep | exact ⟨x7 0, x7 1⟩ | exact ⟨M7.box.cell 0, M7.box.cell 1⟩ | exact ⟨M5.box.cell 0, M5.box.cell 1⟩) (fun hHeld => ?_)
                clear hK K
                refine wpAnyH_ready (rs := [10]) (by kernel_rfl) (by simp) ?_
                refine AllReadyH.cons rfl (fun K hK => ?_) AllReadyH.nil
                go_simp
                refine hK.out _ _ (by (try dsimp only); first | go_keep | exact ⟨x7 0, x7 1⟩ | exact ⟨M7.box.cell 0, M7.box.cell 1⟩ | exact ⟨M5.box.cell 0, M5.box.cell 1⟩) (fun hHeld => ?_)
                clear hK K
                try simp only [Act.put, List.setIfInBounds_toArray, List.set_cons_zero, List.set_cons_succ, List.getElem_toArray, List.getElem_cons_zero, List.getElem_cons_succ]
                refine wpAnyH_ready (rs := [11]) (by kernel_rfl) (by simp) ?_
                refine AllReadyH.cons rfl (fun K hK => ?_) AllReadyH.nil
                refine step_cat rfl _ _ _ (by rfl) Try.underlying22 info_int rfl (by decide) (by rfl) M6.own (by rfl) (m := 1) (BX.sees (s := 1) (Nat.zero_le _) rfl) (by simp [Value.oneCell']) (by omega) (by omega) (by decide) (by have := M6.blk.lt; have := M6.lo; omega) ?_
                intro A6 c6 w6 o6 h6 b6 q6
                obtain ⟨M7, B7⟩ := M6.push hg o6 h6 q6
                have c7 := B7.cell
                have f7 := B7.frozen
                have x7 := (M6.box.only h6 (fun hb => by have := (own_top M6.own hb).1; omega)).cell
                refine hK.out _ _ (by (try dsimp only); first | go_keep | exact ⟨x7 0, x7 1⟩ | exact ⟨M7.box.cell 0, M7.box.cell 1⟩ | exact ⟨M5.box.cell 0, M5.box.cell 1⟩) (fun hHeld => ?_)
                clear hK K
                try simp only [Act.put, List.setIfInBounds_toArray, List.set_cons_zero, List.set_cons_succ, List.getElem_toArray, List.getElem_cons_zero, List.getElem_cons_succ]
                refine wpAnyH_take (i := 12) (v := ?_) rfl (by kernel_rfl) (by kernel_rfl) (by kernel_rfl) (fun _ _ _ h => h) (Or.inl ⟨by rfl, ?_⟩) (by assumption) ?_
                rotate_left 1
                · (intro w hSw; (try dsimp only at hSw); go_simp; try with_reducible rfl)
                simp only [Act.put, List.setIfInBounds_toArray, List.set_cons_zero, List.set_cons_succ, List.getElem_toArray, List.getElem_cons_zero, List.getElem_cons_succ]
                refine wpAnyH_ready (rs := [13]) (by kernel_rfl) (by simp) ?_
                refine AllReadyH.cons rfl (fun K hK => ?_) AllReadyH.nil
                go_simp
                refine hK.out _ _ (by (try dsimp only); first | go_keep | exact ⟨x7 0, x7 1⟩ | exact ⟨M7.box.cell 0, M7.box.cell 1⟩ | exact ⟨M5.box.cell 0, M5.box.cell 1⟩) (fun hHeld => ?_)
                clear hK K
                try simp only [Act.put, List.setIfInBounds_toArray, List.set_cons_zero, List.set_cons_succ, List.getElem_toArray, List.getElem_cons_zero, List.getElem_cons_succ]
                refine wpAnyH_done (by kernel_rfl) ?_ _
                clear c7 f7 x7
                have M2 := M7
                have cr := M2.res.cell
                have fr := M2.res.frozen
                have cx := M2.blk.cell
                go_wp2_with fail
                refine bodyPost_ret (v := .agg #[.int .i64 (i0), .slice (A6) (1 + 1) (c6), .int .i64 (x1), .int .i64 (tv)]) (by simp [results, Try.results97, go_sem, cr]) rfl ?_
                exact (M2.more (by omega)).done hg (by omega)
              refine AllReadyH.cons rfl (fun K hK => ?_) AllReadyH.nil
              · go_simp
                refine (among_any g _ wd.heap.size 2 _ [0, (P : Int)] _ BL (by omega) ML.cur (by omega) rfl (by decide) (by decide)).mono ?_
                rintro e wy ⟨sv, rfl, -, kc, oc⟩
                have M5 := ML.drawn hg kc oc
                clear kc oc
                have c5 := M5.blk.cell
                have f5 := M5.blk.frozen
                have U5 : Below wy.heap.size wy (wy.alloc (.cells #[.int .i64 sv] 3)) := (Below.refl _ _).alloc (Nat.le_refl _) _
                have M6 := M5.below U5
                have BX : Blk (wy.alloc (.cells #[.int .i64 sv] 3)) wy.heap.size 3 [.int .i64 sv] := Blk.at_ rfl
                have c6' := M6.blk.cell
                have hz5 := M5.only.size
                go_wp2_with fail
                refine hK.out _ _ (by (try dsimp only); first | go_keep | exact ⟨x7 0, x7 1⟩ | exact ⟨M7.box.cell 0, M7.box.cell 1⟩ | exact ⟨M5.box.cell 0, M5.box.cell 1⟩) (fun hHeld => ?_)
                clear hK K
                refine wpAnyH_ready (rs := [1, 10]) (by kernel_rfl) (by simp) ?_
                refine AllReadyH.cons rfl (fun K hK => ?_) ?_
                · go_simp
                  refine hK.out _ _ (by (try dsimp only); first | go_keep | exact ⟨x7 0, x7 1⟩ | exact ⟨M7.box.cell 0, M7.box.cell 1⟩ | exact ⟨M5.box.cell 0, M5.box.cell 1⟩) (fun hHeld => ?_)
                  clear hK K
                  try simp only [Act.put, List.setIfInBounds_toArray, List.set_cons_zero, List.set_cons_succ, List.getElem_toArray, List.getElem_cons_zero, List.getElem_cons_succ]
                  refine wpAnyH_ready (rs := [10]) (by kernel_rfl) (by simp) ?_
                  refine AllReadyH.cons rfl (fun K hK => ?_) AllReadyH.nil
                  go_simp
                  refine hK.out _ _ (by (try dsimp only); first | go_keep | exact ⟨x7 0, x7 1⟩ | exact ⟨M7.box.cell 0, M7.box.cell 1⟩ | exact ⟨M5.box.cell 0, M5.box.cell 1⟩) (fun hHeld => ?_)
                  clear hK K
                  try simp only [Act.put, List.setIfInBounds_toArray, List.set_cons_zero, List.set_cons_succ, List.getElem_toArray, List.getElem_cons_zero, List.getElem_cons_succ]
                  refine wpAnyH_ready (rs := [11]) (by kernel_rfl) (by simp) ?_
                  refine AllReadyH.cons rfl (fun K hK => ?_) AllReadyH.nil
                  refine step_cat rfl _ _ _ (by rfl) Try.underlying22 info_int rfl (by decide) (by rfl) M6.own (by rfl) (m := 1) (BX.sees (s := 1) (Nat.zero_le _) rfl) (by simp [Value.oneCell']) (by omega) (by omega) (by decide) (by have := M6.blk.lt; have := M6.lo; omega) ?_
                  intro A6 c6 w6 o6 h6 b6 q6
                  obtain ⟨M7, B7⟩ := M6.push hg o6 h6 q6
                  have c7 := B7.cell
                  have f7 := B7.frozen
                  have x7 := (M6.box.only h6 (fun hb => by have := (own_top M6.own hb).1; omega)).cell
                  refine hK.out _ _ (by (try dsimp only); first | go_keep | exact ⟨x7 0, x7 1⟩ | exact ⟨M7.box.cell 0, M7.box.cell 1⟩ | exact ⟨M5.box.cell 0, M5.box.cell 1⟩) (fun hHeld => ?_)
                  clear hK K
                  try simp only [Act.put, List.setIfInBounds_toArray, List.set_cons_zero, List.set_cons_succ, List.getElem_toArray, List.getElem_cons_zero, List.getElem_cons_succ]
                  refine wpAnyH_take (i := 12) (v := ?_) rfl (by kernel_rfl) (by kernel_rfl) (by kernel_rfl) (fun _ _ _ h => h) (Or.inl ⟨by rfl, ?_⟩) (by assumption) ?_
                  rotate_left 1
                  · (intro w hSw; (try dsimp only at hSw); go_simp; try with_reducible rfl)
                  simp only [Act.put, List.setIfInBounds_toArray, List.set_cons_zero, List.set_cons_succ, List.getElem_toArray, List.getElem_cons_zero, List.getElem_cons_succ]
                  refine wpAnyH_ready (rs := [13]) (by kernel_rfl) (by simp) ?_
                  refine AllReadyH.cons rfl (fun K hK => ?_) AllReadyH.nil
                  go_simp
                  refine hK.out _ _ (by (try dsimp only); first | go_keep | exact ⟨x7 0, x7 1⟩ | exact ⟨M7.box.cell 0, M7.box.cell 1⟩ | exact ⟨M5.box.cell 0, M5.box.cell 1⟩) (fun hHeld => ?_)
                  clear hK K
                  try simp only [Act.put, List.setIfInBounds_toArray, List.set_cons_zero, List.set_cons_succ, List.getElem_toArray, List.getElem_cons_zero, List.getElem_cons_succ]
                  refine wpAnyH_done (by kernel_rfl) ?_ _
                  clear c7 f7 x7
                  have M2 := M7
                  have cr := M2.res.cell
                  have fr := M2.res.frozen
                  have cx := M2.blk.cell
                  go_wp2_with fail
                  refine bodyPost_ret (v := .agg #[.int .i64 (i0), .slice (A6) (1 + 1) (c6), .int .i64 (x1), .int .i64 (tv)]) (by simp [results, Try.results97, go_sem, cr]) rfl ?_
                  exact (M2.more (by omega)).done hg (by omega)
                refine AllReadyH.cons rfl (fun K hK => ?_) AllReadyH.nil
                · go_simp
                  refine hK.out _ _ (by (try dsimp only); first | go_keep | exact ⟨x7 0, x7 1⟩ | exact ⟨M7.box.cell 0, M7.box.cell 1⟩ | exact ⟨M5.box.cell 0, M5.box.cell 1⟩) (fun hHeld => ?_)
                  clear hK K
                  try simp only [Act.put, List.setIfInBounds_toArray, List.set_cons_zero, List.set_cons_succ, List.getElem_toArray, List.getElem_cons_zero, List.getElem_cons_succ]
                  refine wpAnyH_ready (rs := [1]) (by kernel_rfl) (by simp) ?_
                  refine AllReadyH.cons rfl (fun K hK => ?_) AllReadyH.nil
                  go_simp
                  refine hK.out _ _ (by (try dsimp only); first | go_keep | exact ⟨x7 0, x7 1⟩ | exact ⟨M7.box.cell 0, M7.box.cell 1⟩ | exact ⟨M5.box.cell 0, M5.box.cell 1⟩) (fun hHeld => ?_)
                  clear hK K
                  try simp only [Act.put, List.setIfInBounds_toArray, List.set_cons_zero, List.set_cons_succ, List.getElem_toArray, List.getElem_cons_zero, List.getElem_cons_succ]
                  refine wpAnyH_ready (rs := [11]) (by kernel_rfl) (by simp) ?_
                  refine AllReadyH.cons rfl (fun K hK => ?_) AllReadyH.nil
                  refine step_cat rfl _ _ _ (by rfl) Try.underlying22 info_int rfl (by decide) (by rfl) M6.own (by rfl) (m := 1) (BX.sees (s := 1) (Nat.zero_le _) rfl) (by simp [Value.oneCell']) (by omega) (by omega) (by decide) (by have := M6.blk.lt; have := M6.lo; omega) ?_
                  intro A6 c6 w6 o6 h6 b6 q6
                  obtain ⟨M7, B7⟩ := M6.push hg o6 h6 q6
                  have c7 := B7.cell
                  have f7 := B7.frozen
                  have x7 := (M6.box.only h6 (fun hb => by have := (own_top M6.own hb).1; omega)).cell
                  refine hK.out _ _ (by (try dsimp only); first | go_keep | exact ⟨x7 0, x7 1⟩ | exact ⟨M7.box.cell 0, M7.box.cell 1⟩ | exact ⟨M5.box.cell 0, M5.box.cell 1⟩) (fun hHeld => ?_)
                  clear hK K
                  try simp only [Act.put, List.setIfInBounds_toArray, List.set_cons_zero, List.set_cons_succ, List.getElem_toArray, List.getElem_cons_zero, List.getElem_cons_succ]
                  refine wpAnyH_take (i := 12) (v := ?_) rfl (by kernel_rfl) (by kernel_rfl) (by kernel_rfl) (fun _ _ _ h => h) (Or.inl ⟨by rfl, ?_⟩) (by assumption) ?_
                  rotate_left 1
                  · (intro w hSw; (try dsimp only at hSw); go_simp; try with_reducible rfl)
                  simp only [Act.put, List.setIfInBounds_toArray, List.set_cons_zero, List.set_cons_succ, List.getElem_toArray, List.getElem_cons_zero, List.getElem_cons_succ]
                  refine wpAnyH_ready (rs := [13]) (by kernel_rfl) (by simp) ?_
                  refine AllReadyH.cons rfl (fun K hK => ?_) AllReadyH.nil
                  go_simp
                  refine hK.out _ _ (by (try dsimp only); first | go_keep | exact ⟨x7 0, x7 1⟩ | exact ⟨M7.box.cell 0, M7.box.cell 1⟩ | exact ⟨M5.box.cell 0, M5.box.cell 1⟩) (fun hHeld => ?_)
                  clear hK K
                  try simp only [Act.put, List.setIfInBounds_toArray, List.set_cons_zero, List.set_cons_succ, List.getElem_toArray, List.getElem_cons_zero, List.getElem_cons_succ]
                  refine wpAnyH_done (by kernel_rfl) ?_ _
                  clear c7 f7 x7
                  have M2 := M7
                  have cr := M2.res.cell
                  have fr := M2.res.frozen
                  have cx := M2.blk.cell
                  go_wp2_with fail
                  refine bodyPost_ret (v := .agg #[.int .i64 (i0), .slice (A6) (1 + 1) (c6), .int .i64 (x1), .int .i64 (tv)]) (by simp [results, Try.results97, go_sem, cr]) rfl ?_
                  exact (M2.more (by omega)).done hg (by omega)
          · have zb1 : ((z : Int) == 1) = false := beq_eq_false_iff_ne.2 (by omega)
            by_cases h2 : z = 2
            · have zb2 : ((z : Int) == 2) = true := by rw [h2]; rfl
              clear h0 h1 h2
              have hw2 : IntKind.i64.wrap (tv + 1) = tv + 1 := IntWalk.i64_in _ (by omega)
              go_wp2_with fail
              refine (among_any g _ wd.heap.size 2 _ [-1, tv + 1] _ (Blk.at_ rfl : Blk (wd.alloc (.cells #[.int .i64 (-1), .int .i64 (tv + 1)] 3)) wd.heap.size 3 (ints [-1, tv + 1])) (by have := hg; have := M.only.size; omega) (M.cur.next ((Below.refl _ _).alloc (Nat.le_refl _) _)) (by omega) rfl (by decide) (by decide)).mono ?_
              rintro e wa ⟨wav, rfl, wam, wac, wao⟩
              replace M := M.step hg ((Below.refl _ _).alloc (Nat.le_refl _) _) wac wao
              clear wac wao wam cm fm hw2
              have cm := M.blk.cell
              have fm := M.blk.frozen
              have M2 := M.set2 hg wav
              have cr := M2.res.cell
              have fr := M2.res.frozen
              have cx := M2.blk.cell
              go_wp2_with fail
              refine bodyPost_ret (v := .agg #[.int .i64 (i0), .slice (A) (1) (1), .int .i64 (wav), .int .i64 (tv)]) (by simp [results, Try.results97, go_sem, cr]) rfl ?_
              exact (M2.more (by omega)).done hg (by omega)
            · have zb2 : ((z : Int) == 2) = false := beq_eq_false_iff_ne.2 (by omega)
              by_cases h3 : z = 3
              · have zb3 : ((z : Int) == 3) = true := by rw [h3]; rfl
                clear h0 h1 h2 h3
                have M2 := M.set3 hg 365
                have cr := M2.res.cell
                have fr := M2.res.frozen
                have cx := M2.blk.cell
                go_wp2_with fail
                refine bodyPost_ret (v := .agg #[.int .i64 (i0), .slice (A) (1) (1), .int .i64 (x1), .int .i64 (365)]) (by simp [results, Try.results97, go_sem, cr]) rfl ?_
                exact (M2.more (by omega)).done hg (by omega)
              · have zb3 : ((z : Int) == 3) = false := beq_eq_false_iff_ne.2 (by omega)
                clear h0 h1 h2 h3
                have M2 := M
                have cr := M2.res.cell
                have fr := M2.res.frozen
                have cx := M2.blk.cell
                go_wp2_with fail
                refine bodyPost_ret (v := .agg #[.int .i64 (i0), .slice (A) (1) (1), .int .i64 (x1), .int .i64 (tv)]) (by simp [results, Try.results97, go_sem, cr]) rfl ?_
                exact (M2.more (by omega)).done hg (by omega)
      · have M2 := M.more (n' := n + 110) (by omega)
        clear M
        have M := M2
        clear M2
        have cm := M.blk.cell
        go_wp2_with fail
        clear cm
        obtain ⟨wb, rfl⟩ : ∃ wb : World, wb = wc := ⟨_, rfl⟩
        have hgl := M.only.size
        refine (pick_any 70 g _ wb M.cur (by omega) (by decide) (by decide)).mono ?_
        rintro e wd ⟨z, rfl, -, kz, oz⟩
        replace M := M.drawn hg kz oz
        clear kz oz hgl
        have cm := M.blk.cell
        have fm := M.blk.frozen
        by_cases h0 : z = 0
        · have zb0 : ((z : Int) == 0) = true := by rw [h0]; rfl
          clear h0
          go_wp2_with fail
          refine (among_any g _ wd.heap.size 3 _ [0, 99, 100] _ (Blk.at_ rfl : Blk (wd.alloc (.cells #[.int .i64 (0), .int .i64 (99), .int .i64 (100)] 3)) wd.heap.size 3 (ints [0, 99, 100])) (by have := hg; have := M.only.size; omega) (M.cur.next ((Below.refl _ _).alloc (Nat.le_refl _) _)) (by omega) rfl (by decide) (by decide)).mono ?_
          rintro e wa ⟨wav, rfl, wam, wac, wao⟩
          replace M := M.step hg ((Below.refl _ _).alloc (Nat.le_refl _) _) wac wao
          clear wac wao wam cm fm
          have cm := M.blk.cell
          have fm := M.blk.frozen
          have M2 := M.set0 hg wav
          have cr := M2.res.cell
          have fr := M2.res.frozen
          have cx := M2.blk.cell
          go_wp2_with fail
          refine bodyPost_ret (v := .agg #[.int .i64 (wav), .slice (A) (0) (c), .int .i64 (x1), .int .i64 (tv)]) (by simp [results, Try.results97, go_sem, cr]) rfl ?_
          exact (M2.more (by omega)).done hg (by omega)
        · have zb0 : ((z : Int) == 0) = false := beq_eq_false_iff_ne.2 (by omega)
          by_cases h1 : z = 1
          · have zb1 : ((z : Int) == 1) = true := by rw [h1]; rfl
            clear h0 h1
            clear cm fm
            have WB : Below wd.heap.size wd ((wd.alloc (.cells #[.int .i64 0, .int .i64 (P : Int)] 3))).drew := bel_quiet ((Below.refl _ _).alloc (Nat.le_refl _) _) (Quiet.one _)
            have ML := M.below WB
            have BL : Blk ((wd.alloc (.cells #[.int .i64 0, .int .i64 (P : Int)] 3))).drew wd.heap.size 3 (ints [0, (P : Int)]) := (Blk.at_ rfl).quiet (Quiet.one _)
            have hsz := M.only.size
            have hgx := M.blk.lt
            have cl := ML.blk.cell
            have MD := M.below ((Quiet.one wd).below _)
            have cm := MD.blk.cell
            have cb := MD.box.cell
            have cbl := ML.box.cell
            have hwl : w.heap.size < wd.heap.size := M.box.lt
            have hwP2 : IntKind.i64.wrap (P : Int) = (P : Int) := IntWalk.i64_in _ (by omega)
            go_wp2_with fail
            refine wp_region_held_drew (S := fun w' => w'.cell? ⟨w.heap.size, 0, none⟩ = some (.int .i64 m.width) ∧ w'.cell? ⟨w.heap.size, 1, none⟩ = some (.int .i64 m.height)) (by kernel_rfl) (by (try dsimp only); first | go_keep | exact ⟨x7 0, x7 1⟩ | exact ⟨M7.box.cell 0, M7.box.cell 1⟩ | exact ⟨M5.box.cell 0, M5.box.cell 1⟩) (fun hHeld => ?_)
            refine wpAnyH_take (i := 0) (v := ?_) rfl (by kernel_rfl) (by kernel_rfl) (by kernel_rfl) (fun _ _ _ h => h) (Or.inl ⟨by rfl, ?_⟩) (by assumption) ?_
            rotate_left 1
            · (intro w hSw; (try dsimp only at hSw); go_simp; try with_reducible rfl)
            simp only [Act.put, List.setIfInBounds_toArray, List.set_cons_zero, List.set_cons_succ, List.getElem_toArray, List.getElem_cons_zero]
            refine wpAnyH_take (i := 2) (v := ?_) rfl (by kernel_rfl) (by kernel_rfl) (by kernel_rfl) (fun _ _ _ h => h) (Or.inl ⟨by rfl, ?_⟩) (by assumption) ?_
            rotate_left 1
            · (intro w hSw; (try dsimp only at hSw); go_simp; try with_reducible rfl)
            simp only [Act.put, List.setIfInBounds_toArray, List.set_cons_zero, List.set_cons_succ, List.getElem_toArray, List.getElem_cons_zero, List.getElem_cons_succ]
            refine wpAnyH_take (i := 3) (v := ?_) rfl (by kernel_rfl) (by kernel_rfl) (by kernel_rfl) (fun _ _ _ h => h) (Or.inl ⟨by rfl, ?_⟩) (by assumption) ?_
            rotate_left 1
            · (intro w hSw; (try dsimp only at hSw); go_simp; try with_reducible rfl)
            simp only [Act.put, List.setIfInBounds_toArray, List.set_cons_zero, List.set_cons_succ, List.getElem_toArray, List.getElem_cons_zero, List.getElem_cons_succ]
            refine wpAnyH_take (i := 4) (v := ?_) rfl (by kernel_rfl) (by kernel_rfl) (by kernel_rfl) (fun _ _ _ h => h) (Or.inl ⟨by rfl, ?_⟩) (by assumption) ?_
            rotate_left 1
            · (intro w hSw; (try dsimp only at hSw); go_simp; try with_reducible rfl)
            simp only [Act.put, List.setIfInBounds_toArray, List.set_cons_zero, List.set_cons_succ, List.getElem_toArray, List.getElem_cons_zero, List.getElem_cons_succ]
            refine wpAnyH_take (i := 5) (v := ?_) rfl (by kernel_rfl) (by kernel_rfl) (by kernel_rfl) (fun _ _ _ h => h) (Or.inl ⟨by rfl, ?_⟩) (by assumption) ?_
            rotate_left 1
            · (intro w hSw; (try dsimp only at hSw); go_simp; try with_reducible rfl)
            simp only [Act.put, List.setIfInBounds_toArray, List.set_cons_zero, List.set_cons_succ, List.getElem_toArray, List.getElem_cons_zero, List.getElem_cons_succ]
            refine wpAnyH_take (i := 6) (v := ?_) rfl (by kernel_rfl) (by kernel_rfl) (by kernel_rfl) (fun _ _ _ h => h) (Or.inl ⟨by rfl, ?_⟩) (by assumption) ?_
            rotate_left 1
            · (intro w hSw; (try dsimp only at hSw); go_simp; try with_reducible rfl)
            simp only [Act.put, List.setIfInBounds_toArray, List.set_cons_zero, List.set_cons_succ, List.getElem_toArray, List.getElem_cons_zero, List.getElem_cons_succ]
            refine wpAnyH_take (i := 7) (v := ?_) rfl (by kernel_rfl) (by kernel_rfl) (by kernel_rfl) (fun _ _ _ h => h) (Or.inl ⟨by rfl, ?_⟩) (by assumption) ?_
            rotate_left 1
            · (intro w hSw; (try dsimp only at hSw); go_simp; try with_reducible rfl)
            simp only [Act.put, List.setIfInBounds_toArray, List.set_cons_zero, List.set_cons_succ, List.getElem_toArray, List.getElem_cons_zero, List.getElem_cons_succ]
            refine wpAnyH_ready (rs := [1, 8]) (by kernel_rfl) (by simp) ?_
            refine AllReadyH.cons rfl (fun K hK => ?_) ?_
            · go_simp
              refine hK.out _ _ (by (try dsimp only); first | go_keep | exact ⟨x7 0, x7 1⟩ | exact ⟨M7.box.cell 0, M7.box.cell 1⟩ | exact ⟨M5.box.cell 0, M5.box.cell 1⟩) (fun hHeld => ?_)
              clear hK K
              try simp only [Act.put, List.setIfInBounds_toArray, List.set_cons_zero, List.set_cons_succ, List.getElem_toArray, List.getElem_cons_zero, List.getElem_cons_succ]
              refine wpAnyH_ready (rs := [8]) (by kernel_rfl) (by simp) ?_
              refine AllReadyH.cons rfl (fun K hK => ?_) AllReadyH.nil
              go_simp
              refine hK.out _ _ (by (try dsimp only); first | go_keep | exact ⟨x7 0, x7 1⟩ | exact ⟨M7.box.cell 0, M7.box.cell 1⟩ | exact ⟨M5.box.cell 0, M5.box.cell 1⟩) (fun hHeld => ?_)
              clear hK K
              try simp only [Act.put, List.setIfInBounds_toArray, List.set_cons_zero, List.set_cons_succ, List.getElem_toArray, List.getElem_cons_zero, List.getElem_cons_succ]
              refine wpAnyH_ready (rs := [9]) (by kernel_rfl) (by simp) ?_
              refine AllReadyH.cons rfl (fun K hK => ?_) AllReadyH.nil
              go_simp
              refine (among_any g _ wd.heap.size 2 _ [0, (P : Int)] _ BL (by omega) ML.cur (by omega) rfl (by decide) (by decide)).mono ?_
              rintro e wy ⟨sv, rfl, -, kc, oc⟩
              have M5 := ML.drawn hg kc oc
              clear kc oc
              have c5 := M5.blk.cell
              have f5 := M5.blk.frozen
              have U5 : Below wy.heap.size wy (wy.alloc (.cells #[.int .i64 sv] 3)) := (Below.refl _ _).alloc (Nat.le_refl _) _
              have M6 := M5.below U5
              have BX : Blk (wy.alloc (.cells #[.int .i64 sv] 3)) wy.heap.size 3 [.int .i64 sv] := Blk.at_ rfl
              have c6' := M6.blk.cell
              have hz5 := M5.only.size
              go_wp2_with fail
              refine hK.out _ _ (by (try dsimp only); first | go_keep | exact ⟨x7 0, x7 1⟩ | exact ⟨M7.box.cell 0, M7.box.cell 1⟩ | exact ⟨M5.box.cell 0, M5.box.cell 1⟩) (fun hHeld => ?_)
              clear hK K
              refine wpAnyH_ready (rs := [10]) (by kernel_rfl) (by simp) ?_
              refine AllReadyH.cons rfl (fun K hK => ?_) AllReadyH.nil
              go_simp
              refine hK.out _ _ (by (try dsimp only); first | go_keep | exact ⟨x7 0, x7 1⟩ | exact ⟨M7.box.cell 0, M7.box.cell 1⟩ | exact ⟨M5.box.cell 0, M5.box.cell 1⟩) (fun hHeld => ?_)
              clear hK K
              try simp only [Act.put, List.setIfInBounds_toArray, List.set_cons_zero, List.set_cons_succ, List.getElem_toArray, List.getElem_cons_zero, List.getElem_cons_succ]
              refine wpAnyH_ready (rs := [11]) (by kernel_rfl) (by simp) ?_
              refine AllReadyH.cons rfl (fun K hK => ?_) AllReadyH.nil
              refine step_cat rfl _ _ _ (by rfl) Try.underlying22 info_int rfl (by decide) (by rfl) M6.own (by rfl) (m := 1) (BX.sees (s := 1) (Nat.zero_le _) rfl) (by simp [Value.oneCell']) (by omega) (by omega) (by decide) (by have := M6.blk.lt; have := M6.lo; omega) ?_
              intro A6 c6 w6 o6 h6 b6 q6
              obtain ⟨M7, B7⟩ := M6.push hg o6 h6 q6
              have c7 := B7.cell
              have f7 := B7.frozen
              have x7 := (M6.box.only h6 (fun hb => by have := (own_top M6.own hb).1; omega)).cell
              refine hK.out _ _ (by (try dsimp only); first | go_keep | exact ⟨x7 0, x7 1⟩ | exact ⟨M7.box.cell 0, M7.box.cell 1⟩ | exact ⟨M5.box.cell 0, M5.box.cell 1⟩) (fun hHeld => ?_)
              clear hK K
              try simp only [Act.put, List.setIfInBounds_toArray, List.set_cons_zero, List.set_cons_succ, List.getElem_toArray, List.getElem_cons_zero, List.getElem_cons_succ]
              refine wpAnyH_take (i := 12) (v := ?_) rfl (by kernel_rfl) (by kernel_rfl) (by kernel_rfl) (fun _ _ _ h => h) (Or.inl ⟨by rfl, ?_⟩) (by assumption) ?_
              rotate_left 1
              · (intro w hSw; (try dsimp only at hSw); go_simp; try with_reducible rfl)
              simp only [Act.put, List.setIfInBounds_toArray, List.set_cons_zero, List.set_cons_succ, List.getElem_toArray, List.getElem_cons_zero, List.getElem_cons_succ]
              refine wpAnyH_ready (rs := [13]) (by kernel_rfl) (by simp) ?_
              refine AllReadyH.cons rfl (fun K hK => ?_) AllReadyH.nil
              go_simp
              refine hK.out _ _ (by (try dsimp only); first | go_keep | exact ⟨x7 0, x7 1⟩ | exact ⟨M7.box.cell 0, M7.box.cell 1⟩ | exact ⟨M5.box.cell 0, M5.box.cell 1⟩) (fun hHeld => ?_)
              clear hK K
              try simp only [Act.put, List.setIfInBounds_toArray, List.set_cons_zero, List.set_cons_succ, List.getElem_toArray, List.getElem_cons_zero, List.getElem_cons_succ]
              refine wpAnyH_done (by kernel_rfl) ?_ _
              clear c7 f7 x7
              have M2 := M7
              have cr := M2.res.cell
              have fr := M2.res.frozen
              have cx := M2.blk.cell
              go_wp2_with fail
              refine bodyPost_ret (v := .agg #[.int .i64 (i0), .slice (A6) (0 + 1) (c6), .int .i64 (x1), .int .i64 (tv)]) (by simp [results, Try.results97, go_sem, cr]) rfl ?_
              exact (M2.more (by omega)).done hg (by omega)
            refine AllReadyH.cons rfl (fun K hK => ?_) AllReadyH.nil
            · go_simp
              refine hK.out _ _ (by (try dsimp only); first | go_keep | exact ⟨x7 0, x7 1⟩ | exact ⟨M7.box.cell 0, M7.box.cell 1⟩ | exact ⟨M5.box.cell 0, M5.box.cell 1⟩) (fun hHeld => ?_)
              clear hK K
              try simp only [Act.put, List.setIfInBounds_toArray, List.set_cons_zero, List.set_cons_succ, List.getElem_toArray, List.getElem_cons_zero, List.getElem_cons_succ]
              refine wpAnyH_ready (rs := [1, 9]) (by kernel_rfl) (by simp) ?_
              refine AllReadyH.cons rfl (fun K hK => ?_) ?_
              · go_simp
                refine hK.out _ _ (by (try dsimp only); first | go_keep | exact ⟨x7 0, x7 1⟩ | exact ⟨M7.box.cell 0, M7.box.cell 1⟩ | exact ⟨M5.box.cell 0, M5.box.cell 1⟩) (fun hHeld => ?_)
                clear hK K
                try simp only [Act.put, List.setIfInBounds_toArray, List.set_cons_zero, List.set_cons_succ, List.getElem_toArray, List.getElem_cons_zero, List.getElem_cons_succ]
                refine wpAnyH_ready (rs := [9]) (by kernel_rfl) (by simp) ?_
                refine AllReadyH.cons rfl (fun K hK => ?_) AllReadyH.nil
                go_simp
                refine (among_any g _ wd.heap.size 2 _ [0, (P : Int)] _ BL (by omega) ML.cur (by omega) rfl (by decide) (by decide)).mono ?_
                rintro e wy ⟨sv, rfl, -, kc, oc⟩
                have M5 := ML.drawn hg kc oc
                clear kc oc
                have c5 := M5.blk.cell
                have f5 := M5.blk.frozen
                have U5 : Below wy.heap.size wy (wy.alloc (.cells #[.int .i64 sv] 3)) := (Below.refl _ _).alloc (Nat.le_refl _) _
                have M6 := M5.below U5
                have BX : Blk (wy.alloc (.cells #[.int .i64 sv] 3)) wy.heap.size 3 [.int .i64 sv] := Blk.at_ rfl
                have c6' := M6.blk.cell
                have hz5 := M5.only.size
                go_wp2_with fail
                refine hK.out _ _ (by (try dsimp only); first | go_keep | exact ⟨x7 0, x7 1⟩ | exact ⟨M7.box.cell 0, M7.box.cell 1⟩ | exact ⟨M5.box.cell 0, M5.box.cell 1⟩) (fun hHeld => ?_)
                clear hK K
                refine wpAnyH_ready (rs := [10]) (by kernel_rfl) (by simp) ?_
                refine AllReadyH.cons rfl (fun K hK => ?_) AllReadyH.nil
                go_simp
                refine hK.out _ _ (by (try dsimp only); first | go_keep | exact ⟨x7 0, x7 1⟩ | exact ⟨M7.box.cell 0, M7.box.cell 1⟩ | exact ⟨M5.box.cell 0, M5.box.cell 1⟩) (fun hHeld => ?_)
                clear hK K
                try simp only [Act.put, List.setIfInBounds_toArray, List.set_cons_zero, List.set_cons_succ, List.getElem_toArray, List.getElem_cons_zero, List.getElem_cons_succ]
                refine wpAnyH_ready (rs := [11]) (by kernel_rfl) (by simp) ?_
                refine AllReadyH.cons rfl (fun K hK => ?_) AllReadyH.nil
                refine step_cat rfl _ _ _ (by rfl) Try.underlying22 info_int rfl (by decide) (by rfl) M6.own (by rfl) (m := 1) (BX.sees (s := 1) (Nat.zero_le _) rfl) (by simp [Value.oneCell']) (by omega) (by omega) (by decide) (by have := M6.blk.lt; have := M6.lo; omega) ?_
                intro A6 c6 w6 o6 h6 b6 q6
                obtain ⟨M7, B7⟩ := M6.push hg o6 h6 q6
                have c7 := B7.cell
                have f7 := B7.frozen
                have x7 := (M6.box.only h6 (fun hb => by have := (own_top M6.own hb).1; omega)).cell
                refine hK.out _ _ (by (try dsimp only); first | go_keep | exact ⟨x7 0, x7 1⟩ | exact ⟨M7.box.cell 0, M7.box.cell 1⟩ | exact ⟨M5.box.cell 0, M5.box.cell 1⟩) (fun hHeld => ?_)
                clear hK K
                try simp only [Act.put, List.setIfInBounds_toArray, List.set_cons_zero, List.set_cons_succ, List.getElem_toArray, List.getElem_cons_zero, List.getElem_cons_succ]
                refine wpAnyH_take (i := 12) (v := ?_) rfl (by kernel_rfl) (by kernel_rfl) (by kernel_rfl) (fun _ _ _ h => h) (Or.inl ⟨by rfl, ?_⟩) (by assumption) ?_
                rotate_left 1
                · (intro w hSw; (try dsimp only at hSw); go_simp; try with_reducible rfl)
                simp only [Act.put, List.setIfInBounds_toArray, List.set_cons_zero, List.set_cons_succ, List.getElem_toArray, List.getElem_cons_zero, List.getElem_cons_succ]
                refine wpAnyH_ready (rs := [13]) (by kernel_rfl) (by simp) ?_
                refine AllReadyH.cons rfl (fun K hK => ?_) AllReadyH.nil
                go_simp
                refine hK.out _ _ (by (try dsimp only); first | go_keep | exact ⟨x7 0, x7 1⟩ | exact ⟨M7.box.cell 0, M7.box.cell 1⟩ | exact ⟨M5.box.cell 0, M5.box.cell 1⟩) (fun hHeld => ?_)
                clear hK K
                try simp only [Act.put, List.setIfInBounds_toArray, List.set_cons_zero, List.set_cons_succ, List.getElem_toArray, List.getElem_cons_zero, List.getElem_cons_succ]
                refine wpAnyH_done (by kernel_rfl) ?_ _
                clear c7 f7 x7
                have M2 := M7
                have cr := M2.res.cell
                have fr := M2.res.frozen
                have cx := M2.blk.cell
                go_wp2_with fail
                refine bodyPost_ret (v := .agg #[.int .i64 (i0), .slice (A6) (0 + 1) (c6), .int .i64 (x1), .int .i64 (tv)]) (by simp [results, Try.results97, go_sem, cr]) rfl ?_
                exact (M2.more (by omega)).done hg (by omega)
              refine AllReadyH.cons rfl (fun K hK => ?_) AllReadyH.nil
              · go_simp
                refine (among_any g _ wd.heap.size 2 _ [0, (P : Int)] _ BL (by omega) ML.cur (by omega) rfl (by decide) (by decide)).mono ?_
                rintro e wy ⟨sv, rfl, -, kc, oc⟩
                have M5 := ML.drawn hg kc oc
                clear kc oc
                have c5 := M5.blk.cell
                have f5 := M5.blk.frozen
                have U5 : Below wy.heap.size wy (wy.alloc (.cells #[.int .i64 sv] 3)) := (Below.refl _ _).alloc (Nat.le_refl _) _
                have M6 := M5.below U5
                have BX : Blk (wy.alloc (.cells #[.int .i64 sv] 3)) wy.heap.size 3 [.int .i64 sv] := Blk.at_ rfl
                have c6' := M6.blk.cell
                have hz5 := M5.only.size
                go_wp2_with fail
                refine hK.out _ _ (by (try dsimp only); first | go_keep | exact ⟨x7 0, x7 1⟩ | exact ⟨M7.box.cell 0, M7.box.cell 1⟩ | exact ⟨M5.box.cell 0, M5.box.cell 1⟩) (fun hHeld => ?_)
                clear hK K
                refine wpAnyH_ready (rs := [1, 10]) (by kernel_rfl) (by simp) ?_
                refine AllReadyH.cons rfl (fun K hK => ?_) ?_
                · go_simp
                  refine hK.out _ _ (by (try dsimp only); first | go_keep | exact ⟨x7 0, x7 1⟩ | exact ⟨M7.box.cell 0, M7.box.cell 1⟩ | exact ⟨M5.box.cell 0, M5.box.cell 1⟩) (fun hHeld => ?_)
                  clear hK K
                  try simp only [Act.put, List.setIfInBounds_toArray, List.set_cons_zero, List.set_cons_succ, List.getElem_toArray, List.getElem_cons_zero, List.getElem_cons_succ]
                  refine wpAnyH_ready (rs := [10]) (by kernel_rfl) (by simp) ?_
                  refine AllReadyH.cons rfl (fun K hK => ?_) AllReadyH.nil
                  go_simp
                  refine hK.out _ _ (by (try dsimp only); first | go_keep | exact ⟨x7 0, x7 1⟩ | exact ⟨M7.box.cell 0, M7.box.cell 1⟩ | exact ⟨M5.box.cell 0, M5.box.cell 1⟩) (fun hHeld => ?_)
                  clear hK K
                  try simp only [Act.put, List.setIfInBounds_toArray, List.set_cons_zero, List.set_cons_succ, List.getElem_toArray, List.getElem_cons_zero, List.getElem_cons_succ]
                  refine wpAnyH_ready (rs := [11]) (by kernel_rfl) (by simp) ?_
                  refine AllReadyH.cons rfl (fun K hK => ?_) AllReadyH.nil
                  refine step_cat rfl _ _ _ (by rfl) Try.underlying22 info_int rfl (by decide) (by rfl) M6.own (by rfl) (m := 1) (BX.sees (s := 1) (Nat.zero_le _) rfl) (by simp [Value.oneCell']) (by omega) (by omega) (by decide) (by have := M6.blk.lt; have := M6.lo; omega) ?_
                  intro A6 c6 w6 o6 h6 b6 q6
                  obtain ⟨M7, B7⟩ := M6.push hg o6 h6 q6
                  have c7 := B7.cell
                  have f7 := B7.frozen
                  have x7 := (M6.box.only h6 (fun hb => by have := (own_top M6.own hb).1; omega)).cell
                  refine hK.out _ _ (by (try dsimp only); first | go_keep | exact ⟨x7 0, x7 1⟩ | exact ⟨M7.box.cell 0, M7.box.cell 1⟩ | exact ⟨M5.box.cell 0, M5.box.cell 1⟩) (fun hHeld => ?_)
                  clear hK K
                  try simp only [Act.put, List.setIfInBounds_toArray, List.set_cons_zero, List.set_cons_succ, List.getElem_toArray, List.getElem_cons_zero, List.getElem_cons_succ]
                  refine wpAnyH_take (i := 12) (v := ?_) rfl (by kernel_rfl) (by kernel_rfl) (by kernel_rfl) (fun _ _ _ h => h) (Or.inl ⟨by rfl, ?_⟩) (by assumption) ?_
                  rotate_left 1
                  · (intro w hSw; (try dsimp only at hSw); go_simp; try with_reducible rfl)
                  simp only [Act.put, List.setIfInBounds_toArray, List.set_cons_zero, List.set_cons_succ, List.getElem_toArray, List.getElem_cons_zero, List.getElem_cons_succ]
                  refine wpAnyH_ready (rs := [13]) (by kernel_rfl) (by simp) ?_
                  refine AllReadyH.cons rfl (fun K hK => ?_) AllReadyH.nil
                  go_simp
                  refine hK.out _ _ (by (try dsimp only); first | go_keep | exact ⟨x7 0, x7 1⟩ | exact ⟨M7.box.cell 0, M7.box.cell 1⟩ | exact ⟨M5.box.cell 0, M5.box.cell 1⟩) (fun hHeld => ?_)
                  clear hK K
                  try simp only [Act.put, List.setIfInBounds_toArray, List.set_cons_zero, List.set_cons_succ, List.getElem_toArray, List.getElem_cons_zero, List.getElem_cons_succ]
                  refine wpAnyH_done (by kernel_rfl) ?_ _
                  clear c7 f7 x7
                  have M2 := M7
                  have cr := M2.res.cell
                  have fr := M2.res.frozen
                  have cx := M2.blk.cell
                  go_wp2_with fail
                  refine bodyPost_ret (v := .agg #[.int .i64 (i0), .slice (A6) (0 + 1) (c6), .int .i64 (x1), .int .i64 (tv)]) (by simp [results, Try.results97, go_sem, cr]) rfl ?_
                  exact (M2.more (by omega)).done hg (by omega)
                refine AllReadyH.cons rfl (fun K hK => ?_) AllReadyH.nil
                · go_simp
                  refine hK.out _ _ (by (try dsimp only); first | go_keep | exact ⟨x7 0, x7 1⟩ | exact ⟨M7.box.cell 0, M7.box.cell 1⟩ | exact ⟨M5.box.cell 0, M5.box.cell 1⟩) (fun hHeld => ?_)
                  clear hK K
                  try simp only [Act.put, List.setIfInBounds_toArray, List.set_cons_zero, List.set_cons_succ, List.getElem_toArray, List.getElem_cons_zero, List.getElem_cons_succ]
                  refine wpAnyH_ready (rs := [1]) (by kernel_rfl) (by simp) ?_
                  refine AllReadyH.cons rfl (fun K hK => ?_) AllReadyH.nil
                  go_simp
                  refine hK.out _ _ (by (try dsimp only); first | go_keep | exact ⟨x7 0, x7 1⟩ | exact ⟨M7.box.cell 0, M7.box.cell 1⟩ | exact ⟨M5.box.cell 0, M5.box.cell 1⟩) (fun hHeld => ?_)
                  clear hK K
                  try simp only [Act.put, List.setIfInBounds_toArray, List.set_cons_zero, List.set_cons_succ, List.getElem_toArray, List.getElem_cons_zero, List.getElem_cons_succ]
                  refine wpAnyH_ready (rs := [11]) (by kernel_rfl) (by simp) ?_
                  refine AllReadyH.cons rfl (fun K hK => ?_) AllReadyH.nil
                  refine step_cat rfl _ _ _ (by rfl) Try.underlying22 info_int rfl (by decide) (by rfl) M6.own (by rfl) (m := 1) (BX.sees (s := 1) (Nat.zero_le _) rfl) (by simp [Value.oneCell']) (by omega) (by omega) (by decide) (by have := M6.blk.lt; have := M6.lo; omega) ?_
                  intro A6 c6 w6 o6 h6 b6 q6
                  obtain ⟨M7, B7⟩ := M6.push hg o6 h6 q6
                  have c7 := B7.cell
                  have f7 := B7.frozen
                  have x7 := (M6.box.only h6 (fun hb => by have := (own_top M6.own hb).1; omega)).cell
                  refine hK.out _ _ (by (try dsimp only); first | go_keep | exact ⟨x7 0, x7 1⟩ | exact ⟨M7.box.cell 0, M7.box.cell 1⟩ | exact ⟨M5.box.cell 0, M5.box.cell 1⟩) (fun hHeld => ?_)
                  clear hK K
                  try simp only [Act.put, List.setIfInBounds_toArray, List.set_cons_zero, List.set_cons_succ, List.getElem_toArray, List.getElem_cons_zero, List.getElem_cons_succ]
                  refine wpAnyH_take (i := 12) (v := ?_) rfl (by kernel_rfl) (by kernel_rfl) (by kernel_rfl) (fun _ _ _ h => h) (Or.inl ⟨by rfl, ?_⟩) (by assumption) ?_
                  rotate_left 1
                  · (intro w hSw; (try dsimp only at hSw); go_simp; try with_reducible rfl)
                  simp only [Act.put, List.setIfInBounds_toArray, List.set_cons_zero, List.set_cons_succ, List.getElem_toArray, List.getElem_cons_zero, List.getElem_cons_succ]
                  refine wpAnyH_ready (rs := [13]) (by kernel_rfl) (by simp) ?_
                  refine AllReadyH.cons rfl (fun K hK => ?_) AllReadyH.nil
                  go_simp
                  refine hK.out _ _ (by (try dsimp only); first | go_keep | exact ⟨x7 0, x7 1⟩ | exact ⟨M7.box.cell 0, M7.box.cell 1⟩ | exact ⟨M5.box.cell 0, M5.box.cell 1⟩) (fun hHeld => ?_)
                  clear hK K
                  try simp only [Act.put, List.setIfInBounds_toArray, List.set_cons_zero, List.set_cons_succ, List.getElem_toArray, List.getElem_cons_zero, List.getElem_cons_succ]
                  refine wpAnyH_done (by kernel_rfl) ?_ _
                  clear c7 f7 x7
                  have M2 := M7
                  have cr := M2.res.cell
                  have fr := M2.res.frozen
                  have cx := M2.blk.cell
                  go_wp2_with fail
                  refine bodyPost_ret (v := .agg #[.int .i64 (i0), .slice (A6) (0 + 1) (c6), .int .i64 (x1), .int .i64 (tv)]) (by simp [results, Try.results97, go_sem, cr]) rfl ?_
                  exact (M2.more (by omega)).done hg (by omega)
          · have zb1 : ((z : Int) == 1) = false := beq_eq_false_iff_ne.2 (by omega)
            by_cases h2 : z = 2
            · have zb2 : ((z : Int) == 2) = true := by rw [h2]; rfl
              clear h0 h1 h2
              have hw2 : IntKind.i64.wrap (tv + 1) = tv + 1 := IntWalk.i64_in _ (by omega)
              go_wp2_with fail
              refine (among_any g _ wd.heap.size 2 _ [-1, tv + 1] _ (Blk.at_ rfl : Blk (wd.alloc (.cells #[.int .i64 (-1), .int .i64 (tv + 1)] 3)) wd.heap.size 3 (ints [-1, tv + 1])) (by have := hg; have := M.only.size; omega) (M.cur.next ((Below.refl _ _).alloc (Nat.le_refl _) _)) (by omega) rfl (by decide) (by decide)).mono ?_
              rintro e wa ⟨wav, rfl, wam, wac, wao⟩
              replace M := M.step hg ((Below.refl _ _).alloc (Nat.le_refl _) _) wac wao
              clear wac wao wam cm fm hw2
              have cm := M.blk.cell
              have fm := M.blk.frozen
              have M2 := M.set2 hg wav
              have cr := M2.res.cell
              have fr := M2.res.frozen
              have cx := M2.blk.cell
              go_wp2_with fail
              refine bodyPost_ret (v := .agg #[.int .i64 (i0), .slice (A) (0) (c), .int .i64 (wav), .int .i64 (tv)]) (by simp [results, Try.results97, go_sem, cr]) rfl ?_
              exact (M2.more (by omega)).done hg (by omega)
            · have zb2 : ((z : Int) == 2) = false := beq_eq_false_iff_ne.2 (by omega)
              by_cases h3 : z = 3
              · have zb3 : ((z : Int) == 3) = true := by rw [h3]; rfl
                clear h0 h1 h2 h3
                have M2 := M.set3 hg 365
                have cr := M2.res.cell
                have fr := M2.res.frozen
                have cx := M2.blk.cell
                go_wp2_with fail
                refine bodyPost_ret (v := .agg #[.int .i64 (i0), .slice (A) (0) (c), .int .i64 (x1), .int .i64 (365)]) (by simp [results, Try.results97, go_sem, cr]) rfl ?_
                exact (M2.more (by omega)).done hg (by omega)
              · have zb3 : ((z : Int) == 3) = false := beq_eq_false_iff_ne.2 (by omega)
                clear h0 h1 h2 h3
                have M2 := M
                have cr := M2.res.cell
                have fr := M2.res.frozen
                have cx := M2.blk.cell
                go_wp2_with fail
                refine bodyPost_ret (v := .agg #[.int .i64 (i0), .slice (A) (0) (c), .int .i64 (x1), .int .i64 (tv)]) (by simp [results, Try.results97, go_sem, cr]) rfl ?_
                exact (M2.more (by omega)).done hg (by omega)
    · have hkne : ((k : Int) == 0) = false := beq_eq_false_iff_ne.2 (by omega)
      have M2 := M.more (n' := n + 110) (by omega)
      go_wp2_with fail
      clear M cm fm
      have M := M2
      clear M2
      obtain ⟨wb, rfl⟩ : ∃ wb : World, wb = wr := ⟨_, rfl⟩
      have hgl := M.only.size
      refine (pick_any 70 g _ wb M.cur (by omega) (by decide) (by decide)).mono ?_
      rintro e wd ⟨z, rfl, -, kz, oz⟩
      replace M := M.drawn hg kz oz
      clear kz oz hgl
      have cm := M.blk.cell
      have fm := M.blk.frozen
      by_cases h0 : z = 0
      · have zb0 : ((z : Int) == 0) = true := by rw [h0]; rfl
        clear h0
        go_wp2_with fail
        refine (among_any g _ wd.heap.size 3 _ [0, 99, 100] _ (Blk.at_ rfl : Blk (wd.alloc (.cells #[.int .i64 (0), .int .i64 (99), .int .i64 (100)] 3)) wd.heap.size 3 (ints [0, 99, 100])) (by have := hg; have := M.only.size; omega) (M.cur.next ((Below.refl _ _).alloc (Nat.le_refl _) _)) (by omega) rfl (by decide) (by decide)).mono ?_
        rintro e wa ⟨wav, rfl, wam, wac, wao⟩
        replace M := M.step hg ((Below.refl _ _).alloc (Nat.le_refl _) _) wac wao
        clear wac wao wam cm fm
        have cm := M.blk.cell
        have fm := M.blk.frozen
        have M2 := M.set0 hg wav
        have cr := M2.res.cell
        have fr := M2.res.frozen
        have cx := M2.blk.cell
        go_wp2_with fail
        refine bodyPost_ret (v := .agg #[.int .i64 (wav), .slice (A) (k) (c), .int .i64 (x1), .int .i64 (tv)]) (by simp [results, Try.results97, go_sem, cr]) rfl ?_
        exact (M2.more (by omega)).done hg (by omega)
      · have zb0 : ((z : Int) == 0) = false := beq_eq_false_iff_ne.2 (by omega)
        by_cases h1 : z = 1
        · have zb1 : ((z : Int) == 1) = true := by rw [h1]; rfl
          clear h0 h1
          clear cm fm
          have WB : Below wd.heap.size wd ((wd.alloc (.cells #[.int .i64 0, .int .i64 (P : Int)] 3))).drew := bel_quiet ((Below.refl _ _).alloc (Nat.le_refl _) _) (Quiet.one _)
          have ML := M.below WB
          have BL : Blk ((wd.alloc (.cells #[.int .i64 0, .int .i64 (P : Int)] 3))).drew wd.heap.size 3 (ints [0, (P : Int)]) := (Blk.at_ rfl).quiet (Quiet.one _)
          have hsz := M.only.size
          have hgx := M.blk.lt
          have cl := ML.blk.cell
          have MD := M.below ((Quiet.one wd).below _)
          have cm := MD.blk.cell
          have cb := MD.box.cell
          have cbl := ML.box.cell
          have hwl : w.heap.size < wd.heap.size := M.box.lt
          have hwP2 : IntKind.i64.wrap (P : Int) = (P : Int) := IntWalk.i64_in _ (by omega)
          go_wp2_with fail
          refine wp_region_held_drew (S := fun w' => w'.cell? ⟨w.heap.size, 0, none⟩ = some (.int .i64 m.width) ∧ w'.cell? ⟨w.heap.size, 1, none⟩ = some (.int .i64 m.height)) (by kernel_rfl) (by (try dsimp only); first | go_keep | exact ⟨x7 0, x7 1⟩ | exact ⟨M7.box.cell 0, M7.box.cell 1⟩ | exact ⟨M5.box.cell 0, M5.box.cell 1⟩) (fun hHeld => ?_)
          refine wpAnyH_take (i := 0) (v := ?_) rfl (by kernel_rfl) (by kernel_rfl) (by kernel_rfl) (fun _ _ _ h => h) (Or.inl ⟨by rfl, ?_⟩) (by assumption) ?_
          rotate_left 1
          · (intro w hSw; (try dsimp only at hSw); go_simp; try with_reducible rfl)
          simp only [Act.put, List.setIfInBounds_toArray, List.set_cons_zero, List.set_cons_succ, List.getElem_toArray, List.getElem_cons_zero]
          refine wpAnyH_take (i := 2) (v := ?_) rfl (by kernel_rfl) (by kernel_rfl) (by kernel_rfl) (fun _ _ _ h => h) (Or.inl ⟨by rfl, ?_⟩) (by assumption) ?_
          rotate_left 1
          · (intro w hSw; (try dsimp only at hSw); go_simp; try with_reducible rfl)
          simp only [Act.put, List.setIfInBounds_toArray, List.set_cons_zero, List.set_cons_succ, List.getElem_toArray, List.getElem_cons_zero, List.getElem_cons_succ]
          refine wpAnyH_take (i := 3) (v := ?_) rfl (by kernel_rfl) (by kernel_rfl) (by kernel_rfl) (fun _ _ _ h => h) (Or.inl ⟨by rfl, ?_⟩) (by assumption) ?_
          rotate_left 1
          · (intro w hSw; (try dsimp only at hSw); go_simp; try with_reducible rfl)
          simp only [Act.put, List.setIfInBounds_toArray, List.set_cons_zero, List.set_cons_succ, List.getElem_toArray, List.getElem_cons_zero, List.getElem_cons_succ]
          refine wpAnyH_take (i := 4) (v := ?_) rfl (by kernel_rfl) (by kernel_rfl) (by kernel_rfl) (fun _ _ _ h => h) (Or.inl ⟨by rfl, ?_⟩) (by assumption) ?_
          rotate_left 1
          · (intro w hSw; (try dsimp only at hSw); go_simp; try with_reducible rfl)
          simp only [Act.put, List.setIfInBounds_toArray, List.set_cons_zero, List.set_cons_succ, List.getElem_toArray, List.getElem_cons_zero, List.getElem_cons_succ]
          refine wpAnyH_take (i := 5) (v := ?_) rfl (by kernel_rfl) (by kernel_rfl) (by kernel_rfl) (fun _ _ _ h => h) (Or.inl ⟨by rfl, ?_⟩) (by assumption) ?_
          rotate_left 1
          · (intro w hSw; (try dsimp only at hSw); go_simp; try with_reducible rfl)
          simp only [Act.put, List.setIfInBounds_toArray, List.set_cons_zero, List.set_cons_succ, List.getElem_toArray, List.getElem_cons_zero, List.getElem_cons_succ]
          refine wpAnyH_take (i := 6) (v := ?_) rfl (by kernel_rfl) (by kernel_rfl) (by kernel_rfl) (fun _ _ _ h => h) (Or.inl ⟨by rfl, ?_⟩) (by assumption) ?_
          rotate_left 1
          · (intro w hSw; (try dsimp only at hSw); go_simp; try with_reducible rfl)
          simp only [Act.put, List.setIfInBounds_toArray, List.set_cons_zero, List.set_cons_succ, List.getElem_toArray, List.getElem_cons_zero, List.getElem_cons_succ]
          refine wpAnyH_take (i := 7) (v := ?_) rfl (by kernel_rfl) (by kernel_rfl) (by kernel_rfl) (fun _ _ _ h => h) (Or.inl ⟨by rfl, ?_⟩) (by assumption) ?_
          rotate_left 1
          · (intro w hSw; (try dsimp only at hSw); go_simp; try with_reducible rfl)
          simp only [Act.put, List.setIfInBounds_toArray, List.set_cons_zero, List.set_cons_succ, List.getElem_toArray, List.getElem_cons_zero, List.getElem_cons_succ]
          refine wpAnyH_ready (rs := [1, 8]) (by kernel_rfl) (by simp) ?_
          refine AllReadyH.cons rfl (fun K hK => ?_) ?_
          · go_simp
            refine hK.out _ _ (by (try dsimp only); first | go_keep | exact ⟨x7 0, x7 1⟩ | exact ⟨M7.box.cell 0, M7.box.cell 1⟩ | exact ⟨M5.box.cell 0, M5.box.cell 1⟩) (fun hHeld => ?_)
            clear hK K
            try simp only [Act.put, List.setIfInBounds_toArray, List.set_cons_zero, List.set_cons_succ, List.getElem_toArray, List.getElem_cons_zero, List.getElem_cons_succ]
            refine wpAnyH_ready (rs := [8]) (by kernel_rfl) (by simp) ?_
            refine AllReadyH.cons rfl (fun K hK => ?_) AllReadyH.nil
            go_simp
            refine hK.out _ _ (by (try dsimp only); first | go_keep | exact ⟨x7 0, x7 1⟩ | exact ⟨M7.box.cell 0, M7.box.cell 1⟩ | exact ⟨M5.box.cell 0, M5.box.cell 1⟩) (fun hHeld => ?_)
            clear hK K
            try simp only [Act.put, List.setIfInBounds_toArray, List.set_cons_zero, List.set_cons_succ, List.getElem_toArray, List.getElem_cons_zero, List.getElem_cons_succ]
            refine wpAnyH_ready (rs := [9]) (by kernel_rfl) (by simp) ?_
            refine AllReadyH.cons rfl (fun K hK => ?_) AllReadyH.nil
            go_simp
            refine (among_any g _ wd.heap.size 2 _ [0, (P : Int)] _ BL (by omega) ML.cur (by omega) rfl (by decide) (by decide)).mono ?_
            rintro e wy ⟨sv, rfl, -, kc, oc⟩
            have M5 := ML.drawn hg kc oc
            clear kc oc
            have c5 := M5.blk.cell
            have f5 := M5.blk.frozen
            have U5 : Below wy.heap.size wy (wy.alloc (.cells #[.int .i64 sv] 3)) := (Below.refl _ _).alloc (Nat.le_refl _) _
            have M6 := M5.below U5
            have BX : Blk (wy.alloc (.cells #[.int .i64 sv] 3)) wy.heap.size 3 [.int .i64 sv] := Blk.at_ rfl
            have c6' := M6.blk.cell
            have hz5 := M5.only.size
            go_wp2_with fail
            refine hK.out _ _ (by (try dsimp only); first | go_keep | exact ⟨x7 0, x7 1⟩ | exact ⟨M7.box.cell 0, M7.box.cell 1⟩ | exact ⟨M5.box.cell 0, M5.box.cell 1⟩) (fun hHeld => ?_)
            clear hK K
            refine wpAnyH_ready (rs := [10]) (by kernel_rfl) (by simp) ?_
            refine AllReadyH.cons rfl (fun K hK => ?_) AllReadyH.nil
            go_simp
            refine hK.out _ _ (by (try dsimp only); first | go_keep | exact ⟨x7 0, x7 1⟩ | exact ⟨M7.box.cell 0, M7.box.cell 1⟩ | exact ⟨M5.box.cell 0, M5.box.cell 1⟩) (fun hHeld => ?_)
            clear hK K
            try simp only [Act.put, List.setIfInBounds_toArray, List.set_cons_zero, List.set_cons_succ, List.getElem_toArray, List.getElem_cons_zero, List.getElem_cons_succ]
            refine wpAnyH_ready (rs := [11]) (by kernel_rfl) (by simp) ?_
            refine AllReadyH.cons rfl (fun K hK => ?_) AllReadyH.nil
            refine step_cat rfl _ _ _ (by rfl) Try.underlying22 info_int rfl (by decide) (by rfl) M6.own (by rfl) (m := 1) (BX.sees (s := 1) (Nat.zero_le _) rfl) (by simp [Value.oneCell']) (by omega) (by omega) (by decide) (by have := M6.blk.lt; have := M6.lo; omega) ?_
            intro A6 c6 w6 o6 h6 b6 q6
            obtain ⟨M7, B7⟩ := M6.push hg o6 h6 q6
            have c7 := B7.cell
            have f7 := B7.frozen
            have x7 := (M6.box.only h6 (fun hb => by have := (own_top M6.own hb).1; omega)).cell
            refine hK.out _ _ (by (try dsimp only); first | go_keep | exact ⟨x7 0, x7 1⟩ | exact ⟨M7.box.cell 0, M7.box.cell 1⟩ | exact ⟨M5.box.cell 0, M5.box.cell 1⟩) (fun hHeld => ?_)
            clear hK K
            try simp only [Act.put, List.setIfInBounds_toArray, List.set_cons_zero, List.set_cons_succ, List.getElem_toArray, List.getElem_cons_zero, List.getElem_cons_succ]
            refine wpAnyH_take (i := 12) (v := ?_) rfl (by kernel_rfl) (by kernel_rfl) (by kernel_rfl) (fun _ _ _ h => h) (Or.inl ⟨by rfl, ?_⟩) (by assumption) ?_
            rotate_left 1
            · (intro w hSw; (try dsimp only at hSw); go_simp; try with_reducible rfl)
            simp only [Act.put, List.setIfInBounds_toArray, List.set_cons_zero, List.set_cons_succ, List.getElem_toArray, List.getElem_cons_zero, List.getElem_cons_succ]
            refine wpAnyH_ready (rs := [13]) (by kernel_rfl) (by simp) ?_
            refine AllReadyH.cons rfl (fun K hK => ?_) AllReadyH.nil
            go_simp
            refine hK.out _ _ (by (try dsimp only); first | go_keep | exact ⟨x7 0, x7 1⟩ | exact ⟨M7.box.cell 0, M7.box.cell 1⟩ | exact ⟨M5.box.cell 0, M5.box.cell 1⟩) (fun hHeld => ?_)
            clear hK K
            try simp only [Act.put, List.setIfInBounds_toArray, List.set_cons_zero, List.set_cons_succ, List.getElem_toArray, List.getElem_cons_zero, List.getElem_cons_succ]
            refine wpAnyH_done (by kernel_rfl) ?_ _
            clear c7 f7 x7
            have M2 := M7
            have cr := M2.res.cell
            have fr := M2.res.frozen
            have cx := M2.blk.cell
            go_wp2_with fail
            refine bodyPost_ret (v := .agg #[.int .i64 (i0), .slice (A6) (k + 1) (c6), .int .i64 (x1), .int .i64 (tv)]) (by simp [results, Try.results97, go_sem, cr]) rfl ?_
            exact (M2.more (by omega)).done hg (by omega)
          refine AllReadyH.cons rfl (fun K hK => ?_) AllReadyH.nil
          · go_simp
            refine hK.out _ _ (by (try dsimp only); first | go_keep | exact ⟨x7 0, x7 1⟩ | exact ⟨M7.box.cell 0, M7.box.cell 1⟩ | exact ⟨M5.box.cell 0, M5.box.cell 1⟩) (fun hHeld => ?_)
            clear hK K
            try simp only [Act.put, List.setIfInBounds_toArray, List.set_cons_zero, List.set_cons_succ, List.getElem_toArray, List.getElem_cons_zero, List.getElem_cons_succ]
            refine wpAnyH_ready (rs := [1, 9]) (by kernel_rfl) (by simp) ?_
            refine AllReadyH.cons rfl (fun K hK => ?_) ?_
            · go_simp
              refine hK.out _ _ (by (try dsimp only); first | go_keep | exact ⟨x7 0, x7 1⟩ | exact ⟨M7.box.cell 0, M7.box.cell 1⟩ | exact ⟨M5.box.cell 0, M5.box.cell 1⟩) (fun hHeld => ?_)
              clear hK K
              try simp only [Act.put, List.setIfInBounds_toArray, List.set_cons_zero, List.set_cons_succ, List.getElem_toArray, List.getElem_cons_zero, List.getElem_cons_succ]
              refine wpAnyH_ready (rs := [9]) (by kernel_rfl) (by simp) ?_
              refine AllReadyH.cons rfl (fun K hK => ?_) AllReadyH.nil
              go_simp
              refine (among_any g _ wd.heap.size 2 _ [0, (P : Int)] _ BL (by omega) ML.cur (by omega) rfl (by decide) (by decide)).mono ?_
              rintro e wy ⟨sv, rfl, -, kc, oc⟩
              have M5 := ML.drawn hg kc oc
              clear kc oc
              have c5 := M5.blk.cell
              have f5 := M5.blk.frozen
              have U5 : Below wy.heap.size wy (wy.alloc (.cells #[.int .i64 sv] 3)) := (Below.refl _ _).alloc (Nat.le_refl _) _
              have M6 := M5.below U5
              have BX : Blk (wy.alloc (.cells #[.int .i64 sv] 3)) wy.heap.size 3 [.int .i64 sv] := Blk.at_ rfl
              have c6' := M6.blk.cell
              have hz5 := M5.only.size
              go_wp2_with fail
              refine hK.out _ _ (by (try dsimp only); first | go_keep | exact ⟨x7 0, x7 1⟩ | exact ⟨M7.box.cell 0, M7.box.cell 1⟩ | exact ⟨M5.box.cell 0, M5.box.cell 1⟩) (fun hHeld => ?_)
              clear hK K
              refine wpAnyH_ready (rs := [10]) (by kernel_rfl) (by simp) ?_
              refine AllReadyH.cons rfl (fun K hK => ?_) AllReadyH.nil
              go_simp
              refine hK.out _ _ (by (try dsimp only); first | go_keep | exact ⟨x7 0, x7 1⟩ | exact ⟨M7.box.cell 0, M7.box.cell 1⟩ | exact ⟨M5.box.cell 0, M5.box.cell 1⟩) (fun hHeld => ?_)
              clear hK K
              try simp only [Act.put, List.setIfInBounds_toArray, List.set_cons_zero, List.set_cons_succ, List.getElem_toArray, List.getElem_cons_zero, List.getElem_cons_succ]
              refine wpAnyH_ready (rs := [11]) (by kernel_rfl) (by simp) ?_
              refine AllReadyH.cons rfl (fun K hK => ?_) AllReadyH.nil
              refine step_cat rfl _ _ _ (by rfl) Try.underlying22 info_int rfl (by decide) (by rfl) M6.own (by rfl) (m := 1) (BX.sees (s := 1) (Nat.zero_le _) rfl) (by simp [Value.oneCell']) (by omega) (by omega) (by decide) (by have := M6.blk.lt; have := M6.lo; omega) ?_
              intro A6 c6 w6 o6 h6 b6 q6
              obtain ⟨M7, B7⟩ := M6.push hg o6 h6 q6
              have c7 := B7.cell
              have f7 := B7.frozen
              have x7 := (M6.box.only h6 (fun hb => by have := (own_top M6.own hb).1; omega)).cell
              refine hK.out _ _ (by (try dsimp only); first | go_keep | exact ⟨x7 0, x7 1⟩ | exact ⟨M7.box.cell 0, M7.box.cell 1⟩ | exact ⟨M5.box.cell 0, M5.box.cell 1⟩) (fun hHeld => ?_)
              clear hK K
              try simp only [Act.put, List.setIfInBounds_toArray, List.set_cons_zero, List.set_cons_succ, List.getElem_toArray, List.getElem_cons_zero, List.getElem_cons_succ]
              refine wpAnyH_take (i := 12) (v := ?_) rfl (by kernel_rfl) (by kernel_rfl) (by kernel_rfl) (fun _ _ _ h => h) (Or.inl ⟨by rfl, ?_⟩) (by assumption) ?_
              rotate_left 1
              · (intro w hSw; (try dsimp only at hSw); go_simp; try with_reducible rfl)
              simp only [Act.put, List.setIfInBounds_toArray, List.set_cons_zero, List.set_cons_succ, List.getElem_toArray, List.getElem_cons_zero, List.getElem_cons_succ]
              refine wpAnyH_ready (rs := [13]) (by kernel_rfl) (by simp) ?_
              refine AllReadyH.cons rfl (fun K hK => ?_) AllReadyH.nil
              go_simp
              refine hK.out _ _ (by (try dsimp only); first | go_keep | exact ⟨x7 0, x7 1⟩ | exact ⟨M7.box.cell 0, M7.box.cell 1⟩ | exact ⟨M5.box.cell 0, M5.box.cell 1⟩) (fun hHeld => ?_)
              clear hK K
              try simp only [Act.put, List.setIfInBounds_toArray, List.set_cons_zero, List.set_cons_succ, List.getElem_toArray, List.getElem_cons_zero, List.getElem_cons_succ]
              refine wpAnyH_done (by kernel_rfl) ?_ _
              clear c7 f7 x7
              have M2 := M7
              have cr := M2.res.cell
              have fr := M2.res.frozen
              have cx := M2.blk.cell
              go_wp2_with fail
              refine bodyPost_ret (v := .agg #[.int .i64 (i0), .slice (A6) (k + 1) (c6), .int .i64 (x1), .int .i64 (tv)]) (by simp [results, Try.results97, go_sem, cr]) rfl ?_
              exact (M2.more (by omega)).done hg (by omega)
            refine AllReadyH.cons rfl (fun K hK => ?_) AllReadyH.nil
            · go_simp
              refine (among_any g _ wd.heap.size 2 _ [0, (P : Int)] _ BL (by omega) ML.cur (by omega) rfl (by decide) (by decide)).mono ?_
              rintro e wy ⟨sv, rfl, -, kc, oc⟩
              have M5 := ML.drawn hg kc oc
              clear kc oc
              have c5 := M5.blk.cell
              have f5 := M5.blk.frozen
              have U5 : Below wy.heap.size wy (wy.alloc (.cells #[.int .i64 sv] 3)) := (Below.refl _ _).alloc (Nat.le_refl _) _
              have M6 := M5.below U5
              have BX : Blk (wy.alloc (.cells #[.int .i64 sv] 3)) wy.heap.size 3 [.int .i64 sv] := Blk.at_ rfl
              have c6' := M6.blk.cell
              have hz5 := M5.only.size
              go_wp2_with fail
              refine hK.out _ _ (by (try dsimp only); first | go_keep | exact ⟨x7 0, x7 1⟩ | exact ⟨M7.box.cell 0, M7.box.cell 1⟩ | exact ⟨M5.box.cell 0, M5.box.cell 1⟩) (fun hHeld => ?_)
              clear hK K
              refine wpAnyH_ready (rs := [1, 10]) (by kernel_rfl) (by simp) ?_
              refine AllReadyH.cons rfl (fun K hK => ?_) ?_
              · go_simp
                refine hK.out _ _ (by (try dsimp only); first | go_keep | exact ⟨x7 0, x7 1⟩ | exact ⟨M7.box.cell 0, M7.box.cell 1⟩ | exact ⟨M5.box.cell 0, M5.box.cell 1⟩) (fun hHeld => ?_)
                clear hK K
                try simp only [Act.put, List.setIfInBounds_toArray, List.set_cons_zero, List.set_cons_succ, List.getElem_toArray, List.getElem_cons_zero, List.getElem_cons_succ]
                refine wpAnyH_ready (rs := [10]) (by kernel_rfl) (by simp) ?_
                refine AllReadyH.cons rfl (fun K hK => ?_) AllReadyH.nil
                go_simp
                refine hK.out _ _ (by (try dsimp only); first | go_keep | exact ⟨x7 0, x7 1⟩ | exact ⟨M7.box.cell 0, M7.box.cell 1⟩ | exact ⟨M5.box.cell 0, M5.box.cell 1⟩) (fun hHeld => ?_)
                clear hK K
                try simp only [Act.put, List.setIfInBounds_toArray, List.set_cons_zero, List.set_cons_succ, List.getElem_toArray, List.getElem_cons_zero, List.getElem_cons_succ]
                refine wpAnyH_ready (rs := [11]) (by kernel_rfl) (by simp) ?_
                refine AllReadyH.cons rfl (fun K hK => ?_) AllReadyH.nil
                refine step_cat rfl _ _ _ (by rfl) Try.underlying22 info_int rfl (by decide) (by rfl) M6.own (by rfl) (m := 1) (BX.sees (s := 1) (Nat.zero_le _) rfl) (by simp [Value.oneCell']) (by omega) (by omega) (by decide) (by have := M6.blk.lt; have := M6.lo; omega) ?_
                intro A6 c6 w6 o6 h6 b6 q6
                obtain ⟨M7, B7⟩ := M6.push hg o6 h6 q6
                have c7 := B7.cell
                have f7 := B7.frozen
                have x7 := (M6.box.only h6 (fun hb => by have := (own_top M6.own hb).1; omega)).cell
                refine hK.out _ _ (by (try dsimp only); first | go_keep | exact ⟨x7 0, x7 1⟩ | exact ⟨M7.box.cell 0, M7.box.cell 1⟩ | exact ⟨M5.box.cell 0, M5.box.cell 1⟩) (fun hHeld => ?_)
                clear hK K
                try simp only [Act.put, List.setIfInBounds_toArray, List.set_cons_zero, List.set_cons_succ, List.getElem_toArray, List.getElem_cons_zero, List.getElem_cons_succ]
                refine wpAnyH_take (i := 12) (v := ?_) rfl (by kernel_rfl) (by kernel_rfl) (by kernel_rfl) (fun _ _ _ h => h) (Or.inl ⟨by rfl, ?_⟩) (by assumption) ?_
                rotate_left 1
                · (intro w hSw; (try dsimp only at hSw); go_simp; try with_reducible rfl)
                simp only [Act.put, List.setIfInBounds_toArray, List.set_cons_zero, List.set_cons_succ, List.getElem_toArray, List.getElem_cons_zero, List.getElem_cons_succ]
                refine wpAnyH_ready (rs := [13]) (by kernel_rfl) (by simp) ?_
                refine AllReadyH.cons rfl (fun K hK => ?_) AllReadyH.nil
                go_simp
                refine hK.out _ _ (by (try dsimp only); first | go_keep | exact ⟨x7 0, x7 1⟩ | exact ⟨M7.box.cell 0, M7.box.cell 1⟩ | exact ⟨M5.box.cell 0, M5.box.cell 1⟩) (fun hHeld => ?_)
                clear hK K
                try simp only [Act.put, List.setIfInBounds_toArray, List.set_cons_zero, List.set_cons_succ, List.getElem_toArray, List.getElem_cons_zero, List.getElem_cons_succ]
                refine wpAnyH_done (by kernel_rfl) ?_ _
                clear c7 f7 x7
                have M2 := M7
                have cr := M2.res.cell
                have fr := M2.res.frozen
                have cx := M2.blk.cell
                go_wp2_with fail
                refine bodyPost_ret (v := .agg #[.int .i64 (i0), .slice (A6) (k + 1) (c6), .int .i64 (x1), .int .i64 (tv)]) (by simp [results, Try.results97, go_sem, cr]) rfl ?_
                exact (M2.more (by omega)).done hg (by omega)
              refine AllReadyH.cons rfl (fun K hK => ?_) AllReadyH.nil
              · go_simp
                refine hK.out _ _ (by (try dsimp only); first | go_keep | exact ⟨x7 0, x7 1⟩ | exact ⟨M7.box.cell 0, M7.box.cell 1⟩ | exact ⟨M5.box.cell 0, M5.box.cell 1⟩) (fun hHeld => ?_)
                clear hK K
                try simp only [Act.put, List.setIfInBounds_toArray, List.set_cons_zero, List.set_cons_succ, List.getElem_toArray, List.getElem_cons_zero, List.getElem_cons_succ]
                refine wpAnyH_ready (rs := [1]) (by kernel_rfl) (by simp) ?_
                refine AllReadyH.cons rfl (fun K hK => ?_) AllReadyH.nil
                go_simp
                refine hK.out _ _ (by (try dsimp only); first | go_keep | exact ⟨x7 0, x7 1⟩ | exact ⟨M7.box.cell 0, M7.box.cell 1⟩ | exact ⟨M5.box.cell 0, M5.box.cell 1⟩) (fun hHeld => ?_)
                clear hK K
                try simp only [Act.put, List.setIfInBounds_toArray, List.set_cons_zero, List.set_cons_succ, List.getElem_toArray, List.getElem_cons_zero, List.getElem_cons_succ]
                refine wpAnyH_ready (rs := [11]) (by kernel_rfl) (by simp) ?_
                refine AllReadyH.cons rfl (fun K hK => ?_) AllReadyH.nil
                refine step_cat rfl _ _ _ (by rfl) Try.underlying22 info_int rfl (by decide) (by rfl) M6.own (by rfl) (m := 1) (BX.sees (s := 1) (Nat.zero_le _) rfl) (by simp [Value.oneCell']) (by omega) (by omega) (by decide) (by have := M6.blk.lt; have := M6.lo; omega) ?_
                intro A6 c6 w6 o6 h6 b6 q6
                obtain ⟨M7, B7⟩ := M6.push hg o6 h6 q6
                have c7 := B7.cell
                have f7 := B7.frozen
                have x7 := (M6.box.only h6 (fun hb => by have := (own_top M6.own hb).1; omega)).cell
                refine hK.out _ _ (by (try dsimp only); first | go_keep | exact ⟨x7 0, x7 1⟩ | exact ⟨M7.box.cell 0, M7.box.cell 1⟩ | exact ⟨M5.box.cell 0, M5.box.cell 1⟩) (fun hHeld => ?_)
                clear hK K
                try simp only [Act.put, List.setIfInBounds_toArray, List.set_cons_zero, List.set_cons_succ, List.getElem_toArray, List.getElem_cons_zero, List.getElem_cons_succ]
                refine wpAnyH_take (i := 12) (v := ?_) rfl (by kernel_rfl) (by kernel_rfl) (by kernel_rfl) (fun _ _ _ h => h) (Or.inl ⟨by rfl, ?_⟩) (by assumption) ?_
                rotate_left 1
                · (intro w hSw; (try dsimp only at hSw); go_simp; try with_reducible rfl)
                simp only [Act.put, List.setIfInBounds_toArray, List.set_cons_zero, List.set_cons_succ, List.getElem_toArray, List.getElem_cons_zero, List.getElem_cons_succ]
                refine wpAnyH_ready (rs := [13]) (by kernel_rfl) (by simp) ?_
                refine AllReadyH.cons rfl (fun K hK => ?_) AllReadyH.nil
                go_simp
                refine hK.out _ _ (by (try dsimp only); first | go_keep | exact ⟨x7 0, x7 1⟩ | exact ⟨M7.box.cell 0, M7.box.cell 1⟩ | exact ⟨M5.box.cell 0, M5.box.cell 1⟩) (fun hHeld => ?_)
                clear hK K
                try simp only [Act.put, List.setIfInBounds_toArray, List.set_cons_zero, List.set_cons_succ, List.getElem_toArray, List.getElem_cons_zero, List.getElem_cons_succ]
                refine wpAnyH_done (by kernel_rfl) ?_ _
                clear c7 f7 x7
                have M2 := M7
                have cr := M2.res.cell
                have fr := M2.res.frozen
                have cx := M2.blk.cell
                go_wp2_with fail
                refine bodyPost_ret (v := .agg #[.int .i64 (i0), .slice (A6) (k + 1) (c6), .int .i64 (x1), .int .i64 (tv)]) (by simp [results, Try.results97, go_sem, cr]) rfl ?_
                exact (M2.more (by omega)).done hg (by omega)
        · have zb1 : ((z : Int) == 1) = false := beq_eq_false_iff_ne.2 (by omega)
          by_cases h2 : z = 2
          · have zb2 : ((z : Int) == 2) = true := by rw [h2]; rfl
            clear h0 h1 h2
            have hw2 : IntKind.i64.wrap (tv + 1) = tv + 1 := IntWalk.i64_in _ (by omega)
            go_wp2_with fail
            refine (among_any g _ wd.heap.size 2 _ [-1, tv + 1] _ (Blk.at_ rfl : Blk (wd.alloc (.cells #[.int .i64 (-1), .int .i64 (tv + 1)] 3)) wd.heap.size 3 (ints [-1, tv + 1])) (by have := hg; have := M.only.size; omega) (M.cur.next ((Below.refl _ _).alloc (Nat.le_refl _) _)) (by omega) rfl (by decide) (by decide)).mono ?_
            rintro e wa ⟨wav, rfl, wam, wac, wao⟩
            replace M := M.step hg ((Below.refl _ _).alloc (Nat.le_refl _) _) wac wao
            clear wac wao wam cm fm hw2
            have cm := M.blk.cell
            have fm := M.blk.frozen
            have M2 := M.set2 hg wav
            have cr := M2.res.cell
            have fr := M2.res.frozen
            have cx := M2.blk.cell
            go_wp2_with fail
            refine bodyPost_ret (v := .agg #[.int .i64 (i0), .slice (A) (k) (c), .int .i64 (wav), .int .i64 (tv)]) (by simp [results, Try.results97, go_sem, cr]) rfl ?_
            exact (M2.more (by omega)).done hg (by omega)
          · have zb2 : ((z : Int) == 2) = false := beq_eq_false_iff_ne.2 (by omega)
            by_cases h3 : z = 3
            · have zb3 : ((z : Int) == 3) = true := by rw [h3]; rfl
              clear h0 h1 h2 h3
              have M2 := M.set3 hg 365
              have cr := M2.res.cell
              have fr := M2.res.frozen
              have cx := M2.blk.cell
              go_wp2_with fail
              refine bodyPost_ret (v := .agg #[.int .i64 (i0), .slice (A) (k) (c), .int .i64 (x1), .int .i64 (365)]) (by simp [results, Try.results97, go_sem, cr]) rfl ?_
              exact (M2.more (by omega)).done hg (by omega)
            · have zb3 : ((z : Int) == 3) = false := beq_eq_false_iff_ne.2 (by omega)
              clear h0 h1 h2 h3
              have M2 := M
              have cr := M2.res.cell
              have fr := M2.res.frozen
              have cx := M2.blk.cell
              go_wp2_with fail
              refine bodyPost_ret (v := .agg #[.int .i64 (i0), .slice (A) (k) (c), .int .i64 (x1), .int .i64 (tv)]) (by simp [results, Try.results97, go_sem, cr]) rfl ?_
              exact (M2.more (by omega)).done hg (by omega)

end Go.Proofs.Ytljiflbaknakaaa
