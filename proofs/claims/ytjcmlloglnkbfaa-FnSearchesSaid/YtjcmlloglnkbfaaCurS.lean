/- The draws of missing runners and of paces; what the laws of searches draw. -/
import Derived.Test.YtjcmlloglnkbfaaCurM
import Derived.Test.YtjcmlloglnkbfaaHelp2
namespace Go.Proofs.Ytjcmlloglnkbfaa
open Go.RowKit

/-- A missing runner that is being drawn: the map's box, the result's block, the runner's block gx. -/
structure MisSt (w wr : World) (g n gx : Nat) (bx : List Value) (a b c d : Int) : Prop where
  cur : Cur wr g n
  box : Blk wr w.heap.size 29 bx
  res : Blk wr (w.heap.size + 1) 31 [.int .i64 0, .int .i64 0, .int .i64 0, .int .i64 0]
  blk : Blk wr gx 31 [.int .i64 a, .int .i64 b, .int .i64 c, .int .i64 d]
  lo : w.heap.size + 1 < gx
  only : Only (fun b => b = g) w wr
section
variable {w wr wv w' : World} {g n n' gx : Nat} {bx : List Value} {a b c d : Int}
theorem MisSt.below (h : MisSt w wr g n gx bx a b c d) (hb : Below wr.heap.size wr wv) : MisSt w wv g n gx bx a b c d := ⟨h.cur.next hb, h.box.next hb, h.res.next hb, h.blk.next hb, h.lo, h.only.then_ hb⟩
theorem MisSt.drawn (h : MisSt w wr g n gx bx a b c d) (hg : g < w.heap.size) (hc : Cur wv g n') (ho : Only (fun b => b = g) wr wv) : MisSt w wv g n' gx bx a b c d :=
  ⟨hc, h.box.only ho (fun (e : _ = _) => by omega), h.res.only ho (fun (e : _ = _) => by omega), h.blk.only ho (fun (e : _ = _) => by have := h.lo; omega), h.lo, h.only.trans ho⟩
theorem MisSt.step (h : MisSt w wr g n gx bx a b c d) (hg : g < w.heap.size) (hb : Below wr.heap.size wr wv) (hc : Cur w' g n') (ho : Only (fun b => b = g) wv w') : MisSt w w' g n' gx bx a b c d := (h.below hb).drawn hg hc ho
theorem MisSt.more (h : MisSt w wr g n gx bx a b c d) (hn : n ≤ n') : MisSt w wr g n' gx bx a b c d := { h with cur := h.cur.more hn }
theorem MisSt.kept (h : MisSt w wr g n gx bx a b c d) (hg : g < w.heap.size) (i : Nat) (v : Int) : Cur (wr.setCell ⟨gx, i, none⟩ (.int .i64 v)) g n ∧ Blk (wr.setCell ⟨gx, i, none⟩ (.int .i64 v)) w.heap.size 29 bx ∧ Blk (wr.setCell ⟨gx, i, none⟩ (.int .i64 v)) (w.heap.size + 1) 31 [.int .i64 0, .int .i64 0, .int .i64 0, .int .i64 0] ∧ Only (fun b => b = g) w (wr.setCell ⟨gx, i, none⟩ (.int .i64 v)) := by
  have hS : Only (fun b => b = gx) wr (wr.setCell ⟨gx, i, none⟩ (.int .i64 v)) := only_set (Only.refl _ _) i _
  obtain ⟨Ac, mc, cc, p, s, k1, k2, k3, k4⟩ := h.cur.ex
  have hlo := h.lo
  exact ⟨⟨Ac, mc, cc, p, s, k1.only hS (fun (e : _ = _) => by omega), k2, k3, CodeAt.only k4 k1.lt hS (fun b (e : _ = _) => by omega)⟩, h.box.only hS (fun (e : _ = _) => by omega), h.res.only hS (fun (e : _ = _) => by omega), only_new h.only (by show w.heap.size ≤ gx; omega) _⟩
theorem MisSt.set0 (h : MisSt w wr g n gx bx a b c d) (hg : g < w.heap.size) (v : Int) : MisSt w (wr.setCell ⟨gx, 0, none⟩ (.int .i64 v)) g n gx bx v b c d := by obtain ⟨h1, h2, h3, h4⟩ := h.kept hg 0 v; exact ⟨h1, h2, h3, h.blk.set_ 0 _, h.lo, h4⟩
theorem MisSt.set1 (h : MisSt w wr g n gx bx a b c d) (hg : g < w.heap.size) (v : Int) : MisSt w (wr.setCell ⟨gx, 1, none⟩ (.int .i64 v)) g n gx bx a v c d := by obtain ⟨h1, h2, h3, h4⟩ := h.kept hg 1 v; exact ⟨h1, h2, h3, h.blk.set_ 1 _, h.lo, h4⟩
theorem MisSt.set2 (h : MisSt w wr g n gx bx a b c d) (hg : g < w.heap.size) (v : Int) : MisSt w (wr.setCell ⟨gx, 2, none⟩ (.int .i64 v)) g n gx bx a b v d := by obtain ⟨h1, h2, h3, h4⟩ := h.kept hg 2 v; exact ⟨h1, h2, h3, h.blk.set_ 2 _, h.lo, h4⟩
theorem MisSt.set3 (h : MisSt w wr g n gx bx a b c d) (hg : g < w.heap.size) (v : Int) : MisSt w (wr.setCell ⟨gx, 3, none⟩ (.int .i64 v)) g n gx bx a b c v := by obtain ⟨h1, h2, h3, h4⟩ := h.kept hg 3 v; exact ⟨h1, h2, h3, h.blk.set_ 3 _, h.lo, h4⟩
end
/-- A missing runner, drawn. -/
def DrawnX (w : World) (g n : Nat) (e : Ending) (w' : World) : Prop := ∃ x : Missing, e = .returned (.agg #[.int .i64 x.runner, .int .i64 x.start, .int .i64 x.seen, .int .i64 x.place]) ∧ (-10 ≤ x.seen ∧ x.seen ≤ 100000) ∧ Cur w' g n ∧ Only (fun b => b = g) w w'
theorem MisSt.done {w wr : World} {g n gx : Nat} {bx : List Value} {a b c d : Int} (h : MisSt w wr g n gx bx a b c d) (hg : g < w.heap.size) (hc : -10 ≤ c ∧ c ≤ 100000) : DrawnX w g n (.returned (.agg #[.int .i64 a, .int .i64 b, .int .i64 c, .int .i64 d])) (setManyW wr (w.heap.size + 1) 0 [.int .i64 a, .int .i64 b, .int .i64 c, .int .i64 d]) := by
  have ho : Only (fun b => b = w.heap.size + 1) wr (setManyW wr (w.heap.size + 1) 0 [.int .i64 a, .int .i64 b, .int .i64 c, .int .i64 d]) := Only.many (S := fun b => b = w.heap.size + 1) rfl _ (Only.refl _ _) 0
  obtain ⟨Ac, mc, cc, p, s, k1, k2, k3, k4⟩ := h.cur.ex
  have h1 := h.only
  exact ⟨⟨a, b, c, d⟩, rfl, hc, ⟨Ac, mc, cc, p, s, k1.only ho (fun (e : _ = _) => by omega), k2, k3, CodeAt.only k4 k1.lt ho (fun b (e : _ = _) => by omega)⟩, ⟨ho.os.trans h1.os, ho.tape.trans h1.tape, ho.output.trans h1.output, Nat.le_trans h1.size ho.size, fun k hk hS => (ho.block k (Nat.lt_of_lt_of_le hk h1.size) (fun e => by omega)).trans (h1.block k hk hS)⟩⟩
theorem pace_any (g n : Nat) (w : World) (h : Cur w g n) (hn : n ≤ 900000) : Calls Try.prog 96 #[.pointer (some ⟨g, 0, none⟩)] w (DrawnI w g (n + 4) (fun _ => True)) := by
  have hg := h.lt
  have U : Below w.heap.size w (w.alloc (.cells #[.int .i64 60, .int .i64 100, .int .i64 600, .int .i64 300, .int .i64 59, .int .i64 601] 3)) := (Below.refl _ _).alloc (Nat.le_refl _) _
  have BP : Blk (w.alloc (.cells #[.int .i64 60, .int .i64 100, .int .i64 600, .int .i64 300, .int .i64 59, .int .i64 601] 3)) w.heap.size 3 (ints [60, 100, 600, 300, 59, 601]) := Blk.at_ rfl
  go_enter Try.func96, Try.ntmps96
  go_wp2_with fail
  refine (pick_any 24 g n _ (h.next U) (by omega) (by decide) (by decide)).mono ?_
  rintro e w1 ⟨r, rfl, hr, k1, o1⟩
  have hr23 : r ≤ 23 := hr
  have B1 := BP.only o1 (fun (e : _ = _) => by omega)
  have O1 := (Only.of_below (S := fun b => b = g) U).trans o1
  obtain ⟨m, hm, hm6⟩ : ∃ m : Nat, (4 + (r : Int) / 11) = (m : Int) ∧ 4 ≤ m ∧ m ≤ 6 := ⟨4 + r / 11, by omega, by omega, by omega⟩
  have hm4 := hm6.1
  have hm5 := hm6.2
  clear hr U BP o1 hm6
  go_wp2_with fail
  refine (among_cut g _ w.heap.size m 6 _ [60, 100, 600, 300, 59, 601] _ B1 (by omega) k1 (by omega) (by simpa using hm5) (by omega) (by omega)).mono ?_
  rintro e w2 ⟨v, rfl, _, k2, o2⟩
  go_wp2_with fail
  go_ret
  exact ⟨v, rfl, trivial, k2, O1.trans o2⟩

set_option maxRecDepth 100000 in
set_option maxHeartbeats 8000000 in
theorem missing_any (g n : Nat) (m : MapV) (A1 A2 : Option Addr) (n1 n2 c1 c2 : Nat) (w : World) (h : Cur w g n) (hn : n ≤ 900000) (hs : (0 ≤ m.width ∧ m.width ≤ 10) ∧ (0 ≤ m.height ∧ m.height ≤ 10)) :
    Calls Try.prog 95 #[.pointer (some ⟨g, 0, none⟩), .agg #[.int .i64 m.width, .int .i64 m.height, .slice A1 n1 c1, .slice A2 n2 c2]] w (DrawnX w g (n + 20)) := by
  have hg := h.lt
  obtain ⟨P, hP⟩ : ∃ P : Nat, m.width * m.height = (P : Int) := ⟨(m.width * m.height).toNat, by have := Int.mul_nonneg hs.1.1 hs.2.1; omega⟩
  have hP100 : (P : Int) ≤ 100 := by rw [← hP]; exact Int.le_trans (Int.mul_le_mul hs.1.2 hs.2.2 hs.2.1 (by decide)) (by decide)
  have U1 : Below w.heap.size w ((w.alloc (.cells #[.int .i64 m.width, .int .i64 m.height, .slice A1 n1 c1, .slice A2 n2 c2] 29)).alloc (.cells #[.int .i64 0, .int .i64 0, .int .i64 0, .int .i64 0] 31)) := ((Below.refl _ _).alloc (Nat.le_refl _) _).alloc (by simp) _
  have M0 : Blk ((w.alloc (.cells #[.int .i64 m.width, .int .i64 m.height, .slice A1 n1 c1, .slice A2 n2 c2] 29)).alloc (.cells #[.int .i64 0, .int .i64 0, .int .i64 0, .int .i64 0] 31)) w.heap.size 29 [.int .i64 m.width, .int .i64 m.height, .slice A1 n1 c1, .slice A2 n2 c2] := (Blk.at_ rfl).alloc _
  have R0 : Blk ((w.alloc (.cells #[.int .i64 m.width, .int .i64 m.height, .slice A1 n1 c1, .slice A2 n2 c2] 29)).alloc (.cells #[.int .i64 0, .int .i64 0, .int .i64 0, .int .i64 0] 31)) (w.heap.size + 1) 31 [.int .i64 0, .int .i64 0, .int .i64 0, .int .i64 0] := Blk.at_ (by simp)
  have hU : ((w.alloc (.cells #[.int .i64 m.width, .int .i64 m.height, .slice A1 n1 c1, .slice A2 n2 c2] 29)).alloc (.cells #[.int .i64 0, .int .i64 0, .int .i64 0, .int .i64 0] 31)).heap.size = w.heap.size + 1 + 1 := by simp
  have L1 : Below w.heap.size w (((w.alloc (.cells #[.int .i64 m.width, .int .i64 m.height, .slice A1 n1 c1, .slice A2 n2 c2] 29)).alloc (.cells #[.int .i64 0, .int .i64 0, .int .i64 0, .int .i64 0] 31)).alloc (.cells #[.int .i64 1, .int .i64 7, .int .i64 999] 3)) := U1.alloc (by simp; omega) _
  have B1 : Blk (((w.alloc (.cells #[.int .i64 m.width, .int .i64 m.height, .slice A1 n1 c1, .slice A2 n2 c2] 29)).alloc (.cells #[.int .i64 0, .int .i64 0, .int .i64 0, .int .i64 0] 31)).alloc (.cells #[.int .i64 1, .int .i64 7, .int .i64 999] 3)) (w.heap.size + 1 + 1) 3 (ints [1, 7, 999]) := Blk.at_ (by simp)
  have M1 := M0.alloc (.cells #[.int .i64 1, .int .i64 7, .int .i64 999] 3)
  have R1 := R0.alloc (.cells #[.int .i64 1, .int .i64 7, .int .i64 999] 3)
  clear U1 M0 R0 hU
  obtain ⟨hs1, hs2⟩ := hs
  go_enter Try.func95, Try.ntmps95
  go_wp2_with fail
  refine (among_any g n (w.heap.size + 1 + 1) 3 _ [1, 7, 999] _ B1 (by omega) (h.next L1) (by omega) rfl (by decide) (by decide)).mono ?_
  rintro e w1 ⟨a, rfl, _, k1, o1⟩
  have O1 := (Only.of_below (S := fun b => b = g) L1).trans o1
  replace M1 := M1.only o1 (fun (e : _ = _) => by omega)
  replace R1 := R1.only o1 (fun (e : _ = _) => by omega)
  have hr1 := R1.lt
  clear L1 B1 o1
  have L2 : Below w1.heap.size w1 (w1.alloc (.cells #[.int .i64 0, .int .i64 100, .int .i64 3000] 3)) := (Below.refl _ _).alloc (Nat.le_refl _) _
  go_wp2_with fail
  refine (among_any g _ w1.heap.size 3 _ [0, 100, 3000] _ (Blk.at_ rfl : Blk (w1.alloc (.cells #[.int .i64 0, .int .i64 100, .int .i64 3000] 3)) w1.heap.size 3 (ints [0, 100, 3000])) (by omega) (k1.next L2) (by omega) rfl (by decide) (by decide)).mono ?_
  rintro e w2 ⟨b, rfl, bm, k2, o2⟩
  have hb : 0 ≤ b ∧ b ≤ 3000 := by simp at bm; omega
  have O2 := (O1.then_ L2).trans o2
  have M2 := (M1.next L2).only o2 (fun (e : _ = _) => by omega)
  have R2 := (R1.next L2).only o2 (fun (e : _ = _) => by omega)
  have hr2 := R2.lt
  clear L2 M1 R1 o2 k1 O1 bm hr1
  have V2 : Below w2.heap.size w2 (w2.alloc (.cells #[.int .i64 a, .int .i64 b, .int .i64 0, .int .i64 0] 31)) := (Below.refl _ _).alloc (Nat.le_refl _) _
  have M : MisSt w (w2.alloc (.cells #[.int .i64 a, .int .i64 b, .int .i64 0, .int .i64 0] 31)) g (n + 2 + 2) w2.heap.size [.int .i64 m.width, .int .i64 m.height, .slice A1 n1 c1, .slice A2 n2 c2] a b 0 0 := ⟨k2.next V2, M2.next V2, R2.next V2, Blk.at_ rfl, hr2, O2.then_ V2⟩
  clear V2 M2 R2 O2 k2
  go_wp2_with fail
  generalize (w2.alloc (.cells #[.int .i64 a, .int .i64 b, .int .i64 0, .int .i64 0] 31)) = wx at *
  generalize w2.heap.size = gx at *
  have WB : Below wx.heap.size wx ((wx.alloc (.cells #[.int .i64 0, .int .i64 60, .int .i64 600, .int .i64 5000] 3))).drew := bel_quiet ((Below.refl _ _).alloc (Nat.le_refl _) _) (Quiet.one _)
  have ML := M.below WB
  have BL : Blk ((wx.alloc (.cells #[.int .i64 0, .int .i64 60, .int .i64 600, .int .i64 5000] 3))).drew wx.heap.size 3 (ints [0, 60, 600, 5000]) := (Blk.at_ rfl).quiet (Quiet.one _)
  have hsz := M.only.size
  have hgx := M.blk.lt
  have cl := ML.blk.cell
  have cm := (M.below ((Quiet.one wx).below _)).blk.cell
  refine wp_region_held_drew (S := fun w' => w'.cell? ⟨gx, 1, none⟩ = some (.int .i64 b)) (by kernel_rfl) (by (try dsimp only); first | go_keep | exact (M5.blk.set_ 2 (.int .i64 (b + sv))).cell 1) (fun hHeld => ?_)
  refine wpAnyH_take (i := 0) (v := ?_) rfl (by kernel_rfl) (by kernel_rfl) (by kernel_rfl) (fun _ _ _ h => h) (Or.inl ⟨by rfl, ?_⟩) (by assumption) ?_
  rotate_left 1
  · (intro w hSw; (try dsimp only at hSw); go_simp; try with_reducible rfl)
  simp only [Act.put, List.setIfInBounds_toArray, List.set_cons_zero, List.set_cons_succ, List.getElem_toArray, List.getElem_cons_zero]
  refine wpAnyH_take (i := 1) (v := ?_) rfl (by kernel_rfl) (by kernel_rfl) (by kernel_rfl) (fun _ _ _ h => h) (Or.inl ⟨by rfl, ?_⟩) (by assumption) ?_
  rotate_left 1
  · (intro w hSw; (try dsimp only at hSw); go_simp; try with_reducible rfl)
  simp only [Act.put, List.setIfInBounds_toArray, List.set_cons_zero, List.set_cons_succ, List.getElem_toArray, List.getElem_cons_zero, List.getElem_cons_succ]
  refine wpAnyH_take (i := 2) (v := ?_) rfl (by kernel_rfl) (by kernel_rfl) (by kernel_rfl) (fun _ _ _ h => h) (Or.inl ⟨by rfl, ?_⟩) (by assumption) ?_
  rotate_left 1
  · (intro w hSw; (try dsimp only at hSw); go_simp; try with_reducible rfl)
  simp only [Act.put, List.setIfInBounds_toArray, List.set_cons_zero, List.set_cons_succ, List.getElem_toArray, List.getElem_cons_zero, List.getElem_cons_succ]
  refine wpAnyH_ready (rs := [3]) (by kernel_rfl) (by simp) ?_
  refine AllReadyH.cons rfl (fun K hK => ?_) AllReadyH.nil
  go_simp
  refine hK.out _ _ (by (try dsimp only); first | go_keep | exact (M5.blk.set_ 2 (.int .i64 (b + sv))).cell 1) (fun hHeld => ?_)
  clear hK K
  try simp only [Act.put, List.setIfInBounds_toArray, List.set_cons_zero, List.set_cons_succ, List.getElem_toArray, List.getElem_cons_zero, List.getElem_cons_succ]
  refine wpAnyH_ready (rs := [4]) (by kernel_rfl) (by simp) ?_
  refine AllReadyH.cons rfl (fun K hK => ?_) AllReadyH.nil
  go_simp
  refine (among_any g _ wx.heap.size 4 _ [0, 60, 600, 5000] _ BL (by omega) ML.cur (by omega) rfl (by decide) (by decide)).mono ?_
  rintro e wy ⟨sv, rfl, sm, kc, oc⟩
  have hsv : 0 ≤ sv ∧ sv ≤ 5000 := by simp at sm; omega
  have M5 := ML.drawn hg kc oc
  clear kc oc sm cm cl
  have cm := M5.blk.cell
  have fm := M5.blk.frozen
  have hws : IntKind.i64.wrap (b + sv) = b + sv := IntWalk.i64_in _ (by omega)
  go_wp2_with fail
  refine hK.out _ _ (by (try dsimp only); first | go_keep | exact (M5.blk.set_ 2 (.int .i64 (b + sv))).cell 1) (fun hHeld => ?_)
  clear hK K
  refine wpAnyH_take (i := 5) (v := ?_) rfl (by kernel_rfl) (by kernel_rfl) (by kernel_rfl) (fun _ _ _ h => h) (Or.inl ⟨by rfl, ?_⟩) (by assumption) ?_
  rotate_left 1
  · (intro w hSw; (try dsimp only at hSw); go_simp; try with_reducible rfl)
  simp only [Act.put, List.setIfInBounds_toArray, List.set_cons_zero, List.set_cons_succ, List.getElem_toArray, List.getElem_cons_zero, List.getElem_cons_succ]
  refine wpAnyH_take (i := 6) (v := ?_) rfl (by kernel_rfl) (by kernel_rfl) (by kernel_rfl) (fun _ _ _ h => h) (Or.inl ⟨by rfl, ?_⟩) (by assumption) ?_
  rotate_left 1
  · (intro w hSw; (try dsimp only at hSw); go_simp; try with_reducible rfl)
  simp only [Act.put, List.setIfInBounds_toArray, List.set_cons_zero, List.set_cons_succ, List.getElem_toArray, List.getElem_cons_zero, List.getElem_cons_succ]
  refine wpAnyH_ready (rs := [7]) (by kernel_rfl) (by simp) ?_
  refine AllReadyH.cons rfl (fun K hK => ?_) AllReadyH.nil
  go_simp
  refine hK.out _ _ (by (try dsimp only); first | go_keep | exact (M5.blk.set_ 2 (.int .i64 (b + sv))).cell 1) (fun hHeld => ?_)
  clear hK K
  try simp only [Act.put, List.setIfInBounds_toArray, List.set_cons_zero, List.set_cons_succ, List.getElem_toArray, List.getElem_cons_zero, List.getElem_cons_succ]
  refine wpAnyH_done (by kernel_rfl) ?_ _
  have M6 := M5.set2 hg (b + sv)
  clear ML BL WB M hsz
  obtain ⟨c, hc⟩ : ∃ c, b + sv = c := ⟨_, rfl⟩
  rw [hc] at M6
  have hcb : -10 ≤ c ∧ c ≤ 100000 := by omega
  rw [hc]
  clear hc hws cm fm
  have cb := M6.box.cell
  go_wp2_with fail
  generalize wy.setCell ⟨gx, 2, none⟩ (.int .i64 c) = wz at *
  refine (pick_any ((P : Int) + 1) g _ wz M6.cur (by omega) (by omega) (by omega)).mono ?_
  rintro e w3 ⟨at_, rfl, _, kp, op⟩
  have M7 := M6.drawn hg kp op
  clear kp op cb M6
  have cm := M7.blk.cell
  have fm := M7.blk.frozen
  have M8 := M7.set3 hg (at_ : Int)
  go_wp2_with fail
  generalize w3.setCell ⟨gx, 3, none⟩ (.int .i64 (at_ : Int)) = wq at *
  obtain ⟨d, hd⟩ : ∃ d : Int, (at_ : Int) = d := ⟨_, rfl⟩
  rw [hd] at M8
  clear hd cm fm M7
  refine (pick_any 50 g _ wq M8.cur (by omega) (by decide) (by decide)).mono ?_
  rintro e w3 ⟨z, rfl, _, kz, oz⟩
  have M := M8.drawn hg kz oz
  clear kz oz M8
  have cm := M.blk.cell
  have fm := M.blk.frozen
  by_cases h0 : z = 0
  · have zb0 : ((z : Int) == 0) = true := by rw [h0]; rfl
    clear h0
    go_wp2_with fail
    refine (among_any g _ w3.heap.size 2 _ [0, 1000] _ (Blk.at_ rfl : Blk (w3.alloc (.cells #[.int .i64 0, .int .i64 1000] 3)) w3.heap.size 3 (ints [0, 1000])) (by have := hg; have := M.only.size; omega) (M.cur.next ((Below.refl _ _).alloc (Nat.le_refl _) _)) (by omega) rfl (by decide) (by decide)).mono ?_
    rintro e wa ⟨wav, rfl, wam, wac, wao⟩
    replace M := M.step hg ((Below.refl _ _).alloc (Nat.le_refl _) _) wac wao
    clear wac wao
    clear wam
    clear cm fm
    have cm := M.blk.cell
    have fm := M.blk.frozen
    have M2 := M.set0 hg wav
    have cr := M2.res.cell
    have fr := M2.res.frozen
    have cx := M2.blk.cell
    go_wp2_with fail
    refine bodyPost_ret (v := .agg #[.int .i64 wav, .int .i64 b, .int .i64 c, .int .i64 d]) (by simp [results, Try.results95, go_sem, cr]) rfl ?_
    exact (M2.more (by omega)).done hg (by omega)
  have zb0 : ((z : Int) == 0) = false := beq_eq_false_iff_ne.2 (by omega)
  by_cases h1 : z = 1
  · have zb1 : ((z : Int) == 1) = true := by rw [h1]; rfl
    clear h0 h1
    go_wp2_with fail
    refine (among_any g _ w3.heap.size 3 _ [-1, c + 1, 36001] _ (Blk.at_ rfl : Blk (w3.alloc (.cells #[.int .i64 (-1), .int .i64 (c + 1), .int .i64 36001] 3)) w3.heap.size 3 (ints [-1, c + 1, 36001])) (by have := hg; have := M.only.size; omega) (M.cur.next ((Below.refl _ _).alloc (Nat.le_refl _) _)) (by omega) rfl (by decide) (by decide)).mono ?_
    rintro e wa ⟨wav, rfl, wam, wac, wao⟩
    replace M := M.step hg ((Below.refl _ _).alloc (Nat.le_refl _) _) wac wao
    clear wac wao
    clear wam
    clear cm fm
    have cm := M.blk.cell
    have fm := M.blk.frozen
    have M2 := M.set1 hg wav
    have cr := M2.res.cell
    have fr := M2.res.frozen
    have cx := M2.blk.cell
    go_wp2_with fail
    refine bodyPost_ret (v := .agg #[.int .i64 a, .int .i64 wav, .int .i64 c, .int .i64 d]) (by simp [results, Try.results95, go_sem, cr]) rfl ?_
    exact (M2.more (by omega)).done hg (by omega)
  have zb1 : ((z : Int) == 1) = false := beq_eq_false_iff_ne.2 (by omega)
  by_cases h2 : z = 2
  · have zb2 : ((z : Int) == 2) = true := by rw [h2]; rfl
    clear h0 h1 h2
    go_wp2_with fail
    refine (among_any g _ w3.heap.size 2 _ [-1, 36001] _ (Blk.at_ rfl : Blk (w3.alloc (.cells #[.int .i64 (-1), .int .i64 36001] 3)) w3.heap.size 3 (ints [-1, 36001])) (by have := hg; have := M.only.size; omega) (M.cur.next ((Below.refl _ _).alloc (Nat.le_refl _) _)) (by omega) rfl (by decide) (by decide)).mono ?_
    rintro e wa ⟨wav, rfl, wam, wac, wao⟩
    replace M := M.step hg ((Below.refl _ _).alloc (Nat.le_refl _) _) wac wao
    clear wac wao
    have hwv : -10 ≤ wav ∧ wav ≤ 100000 := by simp at wam; omega
    clear wam
    clear cm fm
    have cm := M.blk.cell
    have fm := M.blk.frozen
    have M2 := M.set2 hg wav
    have cr := M2.res.cell
    have fr := M2.res.frozen
    have cx := M2.blk.cell
    go_wp2_with fail
    refine bodyPost_ret (v := .agg #[.int .i64 a, .int .i64 b, .int .i64 wav, .int .i64 d]) (by simp [results, Try.results95, go_sem, cr]) rfl ?_
    exact (M2.more (by omega)).done hg (by omega)
  have zb2 : ((z : Int) == 2) = false := beq_eq_false_iff_ne.2 (by omega)
  by_cases h3 : z = 3
  · have zb3 : ((z : Int) == 3) = true := by rw [h3]; rfl
    clear h0 h1 h2 h3
    go_wp2_with fail
    refine (among_any g _ w3.heap.size 2 _ [-1, 36] _ (Blk.at_ rfl : Blk (w3.alloc (.cells #[.int .i64 (-1), .int .i64 36] 3)) w3.heap.size 3 (ints [-1, 36])) (by have := hg; have := M.only.size; omega) (M.cur.next ((Below.refl _ _).alloc (Nat.le_refl _) _)) (by omega) rfl (by decide) (by decide)).mono ?_
    rintro e wa ⟨wav, rfl, wam, wac, wao⟩
    replace M := M.step hg ((Below.refl _ _).alloc (Nat.le_refl _) _) wac wao
    clear wac wao
    clear wam
    clear cm fm
    have cm := M.blk.cell
    have fm := M.blk.frozen
    have M2 := M.set3 hg wav
    have cr := M2.res.cell
    have fr := M2.res.frozen
    have cx := M2.blk.cell
    go_wp2_with fail
    refine bodyPost_ret (v := .agg #[.int .i64 a, .int .i64 b, .int .i64 c, .int .i64 wav]) (by simp [results, Try.results95, go_sem, cr]) rfl ?_
    exact (M2.more (by omega)).done hg (by omega)
  have zb3 : ((z : Int) == 3) = false := beq_eq_false_iff_ne.2 (by omega)
  clear h0 h1 h2 h3
  have cr := M.res.cell
  have fr := M.res.frozen
  have cx := M.blk.cell
  go_wp2_with fail
  refine bodyPost_ret (v := .agg #[.int .i64 a, .int .i64 b, .int .i64 c, .int .i64 d]) (by simp [results, Try.results95, go_sem, cr]) rfl ?_
  exact (M.more (by omega)).done hg (by omega)

end Go.Proofs.Ytjcmlloglnkbfaa
