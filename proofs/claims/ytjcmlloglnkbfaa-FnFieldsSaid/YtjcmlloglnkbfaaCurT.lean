/- What the laws of searches draw: maps, missing runners, paces, numbers. -/
import Derived.Test.YtjcmlloglnkbfaaCurS
namespace Go.Proofs.Ytjcmlloglnkbfaa
open Go.RowKit

/-- Within a drawing, the cursor g aside: the results' blocks, the map's gm, the runner's gx. -/
structure DrEnd (w wr : World) (g gm gx : Nat) (m : MapV) (A1 : Option Addr) (n1 c1 : Nat) (A2 : Option Addr) (n2 c2 : Nat) (xv rmv rxv : List Value) : Prop where
  rm : Blk wr w.heap.size 29 rmv
  rx : Blk wr (w.heap.size + 1) 31 rxv
  bm : Blk wr gm 29 [.int .i64 m.width, .int .i64 m.height, .slice A1 n1 c1, .slice A2 n2 c2]
  bx : Blk wr gx 31 xv
  sees : SeesMap wr A1 n1 A2 n2 m
  far : ∀ b, OwnB A1 b ∨ OwnB A2 b → g < b
  lo : w.heap.size + 1 < g ∧ g < gm ∧ g < gx
  kept : Below w.heap.size w wr
section
variable {w wr wv : World} {g n n' gm gx : Nat} {m : MapV} {A1 A2 : Option Addr} {n1 c1 n2 c2 : Nat} {xv rmv rxv : List Value}
theorem DrEnd.below (h : DrEnd w wr g gm gx m A1 n1 c1 A2 n2 c2 xv rmv rxv) (hb : Below wr.heap.size wr wv) : DrEnd w wv g gm gx m A1 n1 c1 A2 n2 c2 xv rmv rxv :=
  ⟨h.rm.next hb, h.rx.next hb, h.bm.next hb, h.bx.next hb, h.sees.next hb, h.far, h.lo, bel_then h.kept hb⟩
theorem DrEnd.only (h : DrEnd w wr g gm gx m A1 n1 c1 A2 n2 c2 xv rmv rxv) {S : Nat → Prop} (hS : ∀ b, S b → b = g ∨ b = w.heap.size ∨ b = w.heap.size + 1) (ho : Only S wr wv) : SeesMap wv A1 n1 A2 n2 m ∧ Below w.heap.size w wv ∧ Blk wv gm 29 [.int .i64 m.width, .int .i64 m.height, .slice A1 n1 c1, .slice A2 n2 c2] ∧ Blk wv gx 31 xv := by
  have hlo := h.lo
  have hsz := h.kept.size
  refine ⟨⟨h.sees.f1.only ho (fun b off e _ hb => ?_), h.sees.f2.only ho (fun b off e _ hb => ?_)⟩, h.kept.trans (ho.below (fun b hb => by rcases hS b hb with h1 | h1 | h1 <;> omega) hsz), h.bm.only ho (fun hb => by rcases hS gm hb with h1 | h1 | h1 <;> omega), h.bx.only ho (fun hb => by rcases hS gx hb with h1 | h1 | h1 <;> omega)⟩
  · have := h.far b (.inl (by rw [e]; rfl))
    rcases hS b hb with h1 | h1 | h1 <;> omega
  · have := h.far b (.inr (by rw [e]; rfl))
    rcases hS b hb with h1 | h1 | h1 <;> omega
theorem DrEnd.drawn (h : DrEnd w wr g gm gx m A1 n1 c1 A2 n2 c2 xv rmv rxv) (ho : Only (fun b => b = g) wr wv) : DrEnd w wv g gm gx m A1 n1 c1 A2 n2 c2 xv rmv rxv := by
  obtain ⟨h1, h2, h3, h4⟩ := h.only (fun b hb => .inl hb) ho
  have hlo := h.lo
  exact ⟨h.rm.only ho (fun (e : _ = _) => by omega), h.rx.only ho (fun (e : _ = _) => by omega), h3, h4, h1, h.far, hlo, h2⟩
theorem DrEnd.st1 (h : DrEnd w wr g gm gx m A1 n1 c1 A2 n2 c2 xv [.int .i64 0, .int .i64 0, .slice none 0 0, .slice none 0 0] rxv) : DrEnd w (setManyW wr w.heap.size 0 [.int .i64 m.width, .int .i64 m.height, .slice A1 n1 c1, .slice A2 n2 c2]) g gm gx m A1 n1 c1 A2 n2 c2 xv [.int .i64 m.width, .int .i64 m.height, .slice A1 n1 c1, .slice A2 n2 c2] rxv := by
  have ho : Only (fun b => b = w.heap.size) wr (setManyW wr w.heap.size 0 [.int .i64 m.width, .int .i64 m.height, .slice A1 n1 c1, .slice A2 n2 c2]) := Only.many (S := fun b => b = w.heap.size) rfl _ (Only.refl _ _) 0
  obtain ⟨h1, h2, h3, h4⟩ := h.only (fun b hb => .inr (.inl hb)) ho
  exact ⟨h.rm.many [.int .i64 m.width, .int .i64 m.height, .slice A1 n1 c1, .slice A2 n2 c2] 0, h.rx.only ho (fun (e : _ = _) => by omega), h3, h4, h1, h.far, h.lo, h2⟩
theorem DrEnd.st2 {x : Missing} (h : DrEnd w wr g gm gx m A1 n1 c1 A2 n2 c2 xv rmv [.int .i64 0, .int .i64 0, .int .i64 0, .int .i64 0]) : DrEnd w (setManyW wr (w.heap.size + 1) 0 [.int .i64 x.runner, .int .i64 x.start, .int .i64 x.seen, .int .i64 x.place]) g gm gx m A1 n1 c1 A2 n2 c2 xv rmv [.int .i64 x.runner, .int .i64 x.start, .int .i64 x.seen, .int .i64 x.place] := by
  have ho : Only (fun b => b = w.heap.size + 1) wr (setManyW wr (w.heap.size + 1) 0 [.int .i64 x.runner, .int .i64 x.start, .int .i64 x.seen, .int .i64 x.place]) := Only.many (S := fun b => b = w.heap.size + 1) rfl _ (Only.refl _ _) 0
  obtain ⟨h1, h2, h3, h4⟩ := h.only (fun b hb => .inr (.inr hb)) ho
  exact ⟨h.rm.only ho (fun (e : _ = _) => by omega), h.rx.many [.int .i64 x.runner, .int .i64 x.start, .int .i64 x.seen, .int .i64 x.place] 0, h3, h4, h1, h.far, h.lo, h2⟩
end
/-- What is drawn: a map, a missing runner, two numbers. -/
def DrawnF (w : World) (e : Ending) (w' : World) : Prop := ∃ (m : MapV) (A1 : Option Addr) (n1 c1 : Nat) (A2 : Option Addr) (n2 c2 : Nat) (x : Missing) (p t : Int), e = .returned (.tuple #[.agg #[.int .i64 m.width, .int .i64 m.height, .slice A1 n1 c1, .slice A2 n2 c2], .agg #[.int .i64 x.runner, .int .i64 x.start, .int .i64 x.seen, .int .i64 x.place], .int .i64 p, .int .i64 t]) ∧ SeesMap w' A1 n1 A2 n2 m ∧ (n1 ≤ 40 ∧ n2 ≤ 40) ∧ Below w.heap.size w w' ∧ (∀ b, OwnB A1 b ∨ OwnB A2 b → w.heap.size < b) ∧ w.heap.size < w'.heap.size
def DrawnG (w : World) (e : Ending) (w' : World) : Prop := ∃ (m : MapV) (A1 : Option Addr) (n1 c1 : Nat) (A2 : Option Addr) (n2 c2 : Nat) (x : Missing), e = .returned (.tuple #[.agg #[.int .i64 m.width, .int .i64 m.height, .slice A1 n1 c1, .slice A2 n2 c2], .agg #[.int .i64 x.runner, .int .i64 x.start, .int .i64 x.seen, .int .i64 x.place]]) ∧ SeesMap w' A1 n1 A2 n2 m ∧ (n1 ≤ 40 ∧ n2 ≤ 40) ∧ Below w.heap.size w w'

theorem three (w : World) (a b c : Obj) : Below w.heap.size w (((w.alloc a).alloc b).alloc c) := (((Below.refl w.heap.size w).alloc (Nat.le_refl _) a).alloc (by simp) b).alloc (by simp; omega) c

set_option maxHeartbeats 8000000 in
theorem drawFieldOf_any (w : World) (A : Option Addr) (m0 c0 : Nat) (h : CodeIn w A m0) (hm0 : m0 ≤ 1000000) : Calls Try.prog 48 #[.slice A m0 c0] w (DrawnF w) := by
  have U0 : Below w.heap.size w (((w.alloc (.cells #[.int .i64 0, .int .i64 0, .slice none 0 0, .slice none 0 0] 29)).alloc (.cells #[.int .i64 0, .int .i64 0, .int .i64 0, .int .i64 0] 31)).alloc (.cells #[.slice A m0 c0, .int .i64 0, .int .u64 0] 110)) := three _ _ _ _
  have z0 : (((w.alloc (.cells #[.int .i64 0, .int .i64 0, .slice none 0 0, .slice none 0 0] 29)).alloc (.cells #[.int .i64 0, .int .i64 0, .int .i64 0, .int .i64 0] 31)).alloc (.cells #[.slice A m0 c0, .int .i64 0, .int .u64 0] 110)).heap.size = w.heap.size + 3 := by simp
  have rm : Blk (((w.alloc (.cells #[.int .i64 0, .int .i64 0, .slice none 0 0, .slice none 0 0] 29)).alloc (.cells #[.int .i64 0, .int .i64 0, .int .i64 0, .int .i64 0] 31)).alloc (.cells #[.slice A m0 c0, .int .i64 0, .int .u64 0] 110)) w.heap.size 29 [.int .i64 0, .int .i64 0, .slice none 0 0, .slice none 0 0] := ((Blk.at_ rfl : Blk (w.alloc _) w.heap.size 29 [.int .i64 0, .int .i64 0, .slice none 0 0, .slice none 0 0]).next ((Below.refl _ _).alloc (Nat.le_refl _) _)).next ((Below.refl _ _).alloc (Nat.le_refl _) _)
  have rx : Blk (((w.alloc (.cells #[.int .i64 0, .int .i64 0, .slice none 0 0, .slice none 0 0] 29)).alloc (.cells #[.int .i64 0, .int .i64 0, .int .i64 0, .int .i64 0] 31)).alloc (.cells #[.slice A m0 c0, .int .i64 0, .int .u64 0] 110)) (w.heap.size + 1) 31 [.int .i64 0, .int .i64 0, .int .i64 0, .int .i64 0] := by
    have := (Blk.at_ rfl : Blk ((w.alloc (.cells #[.int .i64 0, .int .i64 0, .slice none 0 0, .slice none 0 0] 29)).alloc (.cells #[.int .i64 0, .int .i64 0, .int .i64 0, .int .i64 0] 31)) (w.alloc (.cells #[.int .i64 0, .int .i64 0, .slice none 0 0, .slice none 0 0] 29)).heap.size 31 [.int .i64 0, .int .i64 0, .int .i64 0, .int .i64 0]).next ((Below.refl _ _).alloc (Nat.le_refl _) (.cells #[.slice A m0 c0, .int .i64 0, .int .u64 0] 110))
    simpa using this
  have bc : Blk (((w.alloc (.cells #[.int .i64 0, .int .i64 0, .slice none 0 0, .slice none 0 0] 29)).alloc (.cells #[.int .i64 0, .int .i64 0, .int .i64 0, .int .i64 0] 31)).alloc (.cells #[.slice A m0 c0, .int .i64 0, .int .u64 0] 110)) (w.heap.size + 1 + 1) 110 [.slice A m0 c0, .int .i64 0, .int .u64 0] := by
    have := (Blk.at_ rfl : Blk (((w.alloc (.cells #[.int .i64 0, .int .i64 0, .slice none 0 0, .slice none 0 0] 29)).alloc (.cells #[.int .i64 0, .int .i64 0, .int .i64 0, .int .i64 0] 31)).alloc (.cells #[.slice A m0 c0, .int .i64 0, .int .u64 0] 110)) ((w.alloc (.cells #[.int .i64 0, .int .i64 0, .slice none 0 0, .slice none 0 0] 29)).alloc (.cells #[.int .i64 0, .int .i64 0, .int .i64 0, .int .i64 0] 31)).heap.size 110 [.slice A m0 c0, .int .i64 0, .int .u64 0])
    simpa using this
  have hc0 := cur_new h hm0 U0 (Nat.le_add_right _ (1 + 1)) bc
  clear bc h
  go_enter Try.func48, Try.ntmps48
  go_wp2_with fail
  generalize (((w.alloc (.cells #[.int .i64 0, .int .i64 0, .slice none 0 0, .slice none 0 0] 29)).alloc (.cells #[.int .i64 0, .int .i64 0, .int .i64 0, .int .i64 0] 31)).alloc (.cells #[.slice A m0 c0, .int .i64 0, .int .u64 0] 110)) = w0 at *
  refine (mapOf_any (w.heap.size + 1 + 1) 0 w0 hc0 (by decide)).mono ?_
  rintro e w1 ⟨m, A1, n1, c1, A2, n2, c2, rfl, s1, hn, hs, far1, hc1, o1⟩
  have K1 : Below w.heap.size w w1 := U0.trans (o1.below (fun b (hb : b = _) => by omega) (by omega))
  replace rm := rm.only o1 (fun (e : _ = _) => by omega)
  replace rx := rx.only o1 (fun (e : _ = _) => by omega)
  have hz := o1.size
  have far : ∀ b, OwnB A1 b ∨ OwnB A2 b → w.heap.size + 1 + 1 < b := fun b hb => by have := far1 b hb; omega
  clear far1 o1 hc0 U0
  go_wp2_with fail
  generalize hg : w.heap.size + 1 + 1 = g at *
  have hsz := K1.size
  have U1 : Below w1.heap.size w1 (w1.alloc (.cells #[.int .i64 m.width, .int .i64 m.height, .slice A1 n1 c1, .slice A2 n2 c2] 29)) := (Below.refl _ _).alloc (Nat.le_refl _) _
  have gm0 : Blk (w1.alloc (.cells #[.int .i64 m.width, .int .i64 m.height, .slice A1 n1 c1, .slice A2 n2 c2] 29)) w1.heap.size 29 [.int .i64 m.width, .int .i64 m.height, .slice A1 n1 c1, .slice A2 n2 c2] := Blk.at_ rfl
  have hcA := hc1.next U1
  refine (missing_any g _ m A1 A2 n1 n2 c1 c2 _ hcA (by omega) hs).mono ?_
  rintro e w2 ⟨x, rfl, hsn, hc2, o2⟩
  have K2 : Below w.heap.size w w2 := (K1.trans (U1.mono (by omega))).trans (o2.below (fun b (hb : b = _) => by omega) (by have := U1.size; omega))
  replace s1 : SeesMap w2 A1 n1 A2 n2 m := ⟨(s1.next U1).f1.only o2 (fun b off e _ (hb : b = _) => by have := far b (.inl (by rw [e]; rfl)); omega), (s1.next U1).f2.only o2 (fun b off e _ (hb : b = _) => by have := far b (.inr (by rw [e]; rfl)); omega)⟩
  have hgc := hc1.lt
  replace gm0 := gm0.only o2 (fun (e : _ = _) => by omega)
  replace rm := (rm.next U1).only o2 (fun (e : _ = _) => by omega)
  replace rx := (rx.next U1).only o2 (fun (e : _ = _) => by omega)
  have hz2 : w1.heap.size < w2.heap.size := gm0.lt
  clear U1 K1 hc1 hcA o2
  have c0_ := gm0.cell
  have f0_ := gm0.frozen
  generalize w1.heap.size = gm at *
  go_wp2_with fail
  have U2 : Below w2.heap.size w2 (w2.alloc (.cells #[.int .i64 x.runner, .int .i64 x.start, .int .i64 x.seen, .int .i64 x.place] 31)) := (Below.refl _ _).alloc (Nat.le_refl _) _
  have D0 : DrEnd w (w2.alloc (.cells #[.int .i64 x.runner, .int .i64 x.start, .int .i64 x.seen, .int .i64 x.place] 31)) g gm w2.heap.size m A1 n1 c1 A2 n2 c2 [.int .i64 x.runner, .int .i64 x.start, .int .i64 x.seen, .int .i64 x.place] [.int .i64 0, .int .i64 0, .slice none 0 0, .slice none 0 0] [.int .i64 0, .int .i64 0, .int .i64 0, .int .i64 0] := ⟨rm.next U2, rx.next U2, gm0.next U2, Blk.at_ rfl, s1.next U2, fun b hb => by have := far b hb; omega, by omega, K2.trans (U2.mono (by omega))⟩
  have hc := hc2.next U2
  clear rm rx gm0 s1 far K2 hc2 U2 c0_ f0_
  generalize w2.alloc (.cells #[.int .i64 x.runner, .int .i64 x.start, .int .i64 x.seen, .int .i64 x.place] 31) = wi0 at *
  generalize w2.heap.size = gx at *
  have D := D0.below ((Quiet.one wi0).below _)
  refine wp_region_held_drew (S := fun w' => w'.cell? ⟨gm, 0, none⟩ = some (.int .i64 m.width) ∧ w'.cell? ⟨gm, 1, none⟩ = some (.int .i64 m.height) ∧ w'.cell? ⟨gm, 2, none⟩ = some (.slice A1 n1 c1) ∧ w'.cell? ⟨gm, 3, none⟩ = some (.slice A2 n2 c2) ∧ w'.cell? ⟨gx, 0, none⟩ = some (.int .i64 x.runner) ∧ w'.cell? ⟨gx, 1, none⟩ = some (.int .i64 x.start) ∧ w'.cell? ⟨gx, 2, none⟩ = some (.int .i64 x.seen) ∧ w'.cell? ⟨gx, 3, none⟩ = some (.int .i64 x.place)) (by kernel_rfl) (⟨D.bm.cell 0, D.bm.cell 1, D.bm.cell 2, D.bm.cell 3, D.bx.cell 0, D.bx.cell 1, D.bx.cell 2, D.bx.cell 3⟩) (fun hHeld => ?_)
  replace hc := hc.next ((Quiet.one wi0).below _)
  generalize wi0.drew = wi1 at *
  refine wpAnyH_take (i := 0) (v := ?_) rfl (by kernel_rfl) (by kernel_rfl) (by kernel_rfl) (fun _ _ _ h => h) (Or.inl ⟨by rfl, ?_⟩) (by assumption) ?_
  rotate_left 1
  · (intro w hSw; (try dsimp only at hSw); go_simp; try with_reducible rfl)
  (try simp only [Act.put, List.setIfInBounds_toArray, List.set_cons_zero, List.set_cons_succ, List.getElem_toArray, List.getElem_cons_zero])
  refine wpAnyH_take (i := 1) (v := ?_) rfl (by kernel_rfl) (by kernel_rfl) (by kernel_rfl) (fun _ _ _ h => h) (Or.inl ⟨by rfl, ?_⟩) (by assumption) ?_
  rotate_left 1
  · (intro w hSw; (try dsimp only at hSw); go_simp; try with_reducible rfl)
  (try simp only [Act.put, List.setIfInBounds_toArray, List.set_cons_zero, List.set_cons_succ, List.getElem_toArray, List.getElem_cons_zero, List.getElem_cons_succ])
  refine wpAnyH_take (i := 2) (v := ?_) rfl (by kernel_rfl) (by kernel_rfl) (by kernel_rfl) (fun _ _ _ h => h) (Or.inl ⟨by rfl, ?_⟩) (by assumption) ?_
  rotate_left 1
  · (intro w hSw; (try dsimp only at hSw); go_simp; try with_reducible rfl)
  (try simp only [Act.put, List.setIfInBounds_toArray, List.set_cons_zero, List.set_cons_succ, List.getElem_toArray, List.getElem_cons_zero, List.getElem_cons_succ])
  refine wpAnyH_take (i := 4) (v := ?_) rfl (by kernel_rfl) (by kernel_rfl) (by kernel_rfl) (fun _ _ _ h => h) (Or.inl ⟨by rfl, ?_⟩) (by assumption) ?_
  rotate_left 1
  · (intro w hSw; (try dsimp only at hSw); go_simp; try with_reducible rfl)
  (try simp only [Act.put, List.setIfInBounds_toArray, List.set_cons_zero, List.set_cons_succ, List.getElem_toArray, List.getElem_cons_zero, List.getElem_cons_succ])
  refine wpAnyH_take (i := 5) (v := ?_) rfl (by kernel_rfl) (by kernel_rfl) (by kernel_rfl) (fun _ _ _ h => h) (Or.inl ⟨by rfl, ?_⟩) (by assumption) ?_
  rotate_left 1
  · (intro w hSw; (try dsimp only at hSw); go_simp; try with_reducible rfl)
  (try simp only [Act.put, List.setIfInBounds_toArray, List.set_cons_zero, List.set_cons_succ, List.getElem_toArray, List.getElem_cons_zero, List.getElem_cons_succ])
  refine wpAnyH_take (i := 6) (v := ?_) rfl (by kernel_rfl) (by kernel_rfl) (by kernel_rfl) (fun _ _ _ h => h) (Or.inl ⟨by rfl, ?_⟩) (by assumption) ?_
  rotate_left 1
  · (intro w hSw; (try dsimp only at hSw); go_simp; try with_reducible rfl)
  (try simp only [Act.put, List.setIfInBounds_toArray, List.set_cons_zero, List.set_cons_succ, List.getElem_toArray, List.getElem_cons_zero, List.getElem_cons_succ])
  refine wpAnyH_take (i := 8) (v := ?_) rfl (by kernel_rfl) (by kernel_rfl) (by kernel_rfl) (fun _ _ _ h => h) (Or.inl ⟨by rfl, ?_⟩) (by assumption) ?_
  rotate_left 1
  · (intro w hSw; (try dsimp only at hSw); go_simp; try with_reducible rfl)
  (try simp only [Act.put, List.setIfInBounds_toArray, List.set_cons_zero, List.set_cons_succ, List.getElem_toArray, List.getElem_cons_zero, List.getElem_cons_succ])
  refine wpAnyH_ready (rs := [3, 7]) (by kernel_rfl) (by simp) ?_
  refine AllReadyH.cons rfl (fun K hK => ?_) ?_
  · go_simp
    refine (pace_any g _ wi1 hc (by omega)).mono ?_
    rintro e wi2 ⟨pv, rfl, _, kc, oc⟩
    replace D := D.drawn oc
    replace hc := kc
    try replace BL := BL.only oc (fun (e : _ = _) => hgl e)
    clear kc oc
    go_wp2_with fail
    refine hK.out _ _ (⟨D.bm.cell 0, D.bm.cell 1, D.bm.cell 2, D.bm.cell 3, D.bx.cell 0, D.bx.cell 1, D.bx.cell 2, D.bx.cell 3⟩) (fun hHeld => ?_)
    clear hK K
    (try simp only [Act.put, List.setIfInBounds_toArray, List.set_cons_zero, List.set_cons_succ, List.getElem_toArray, List.getElem_cons_zero, List.getElem_cons_succ])
    refine wpAnyH_ready (rs := [7, 9]) (by kernel_rfl) (by simp) ?_
    refine AllReadyH.cons rfl (fun K hK => ?_) ?_
    · go_simp
      have hgl : wi2.heap.size ≠ g := Nat.ne_of_gt hc.lt
      have U := (Below.refl wi2.heap.size wi2).alloc (Nat.le_refl _) (.cells #[.int .i64 0, .int .i64 59, .int .i64 60, .int .i64 200, .int .i64 600, .int .i64 3000, .int .i64 (-1), .int .i64 36001] 3)
      replace D := D.below U
      replace hc := hc.next U
      have BL : Blk (wi2.alloc (.cells #[.int .i64 0, .int .i64 59, .int .i64 60, .int .i64 200, .int .i64 600, .int .i64 3000, .int .i64 (-1), .int .i64 36001] 3)) wi2.heap.size 3 (ints [0, 59, 60, 200, 600, 3000, -1, 36001]) := Blk.at_ rfl
      clear U
      refine hK.out _ _ (⟨D.bm.cell 0, D.bm.cell 1, D.bm.cell 2, D.bm.cell 3, D.bx.cell 0, D.bx.cell 1, D.bx.cell 2, D.bx.cell 3⟩) (fun hHeld => ?_)
      clear hK K
      (try simp only [Act.put, List.setIfInBounds_toArray, List.set_cons_zero, List.set_cons_succ, List.getElem_toArray, List.getElem_cons_zero, List.getElem_cons_succ])
      generalize wi2.alloc (.cells #[.int .i64 0, .int .i64 59, .int .i64 60, .int .i64 200, .int .i64 600, .int .i64 3000, .int .i64 (-1), .int .i64 36001] 3) = wi3 at *
      generalize wi2.heap.size = gl at *
      refine wpAnyH_ready (rs := [9]) (by kernel_rfl) (by simp) ?_
      refine AllReadyH.cons rfl (fun K hK => ?_) AllReadyH.nil
      go_simp
      refine (pick_any 24 g _ wi3 hc (by omega) (by decide) (by decide)).mono ?_
      rintro e wi4 ⟨r, rfl, hr, kc, oc⟩
      replace D := D.drawn oc
      replace hc := kc
      try replace BL := BL.only oc (fun (e : _ = _) => hgl e)
      clear kc oc
      have hr23 : r ≤ 23 := hr
      have hq1 : IntKind.i64.wrap ((r : Int) / 11) = ((r / 11 : Nat) : Int) := by rw [IntWalk.i64_in _ (by omega)]; omega
      have hq2 : IntKind.i64.wrap (6 + ((r / 11 : Nat) : Int)) = ((6 + r / 11 : Nat) : Int) := by rw [IntWalk.i64_in _ (by omega)]; omega
      have hm8 : 6 + r / 11 ≤ 8 := by omega
      have hm1 : 1 ≤ 6 + r / 11 := by omega
      obtain ⟨dq, hdq⟩ : ∃ dq : Nat, r / 11 = dq := ⟨_, rfl⟩
      rw [hdq] at hq1 hq2 hm8 hm1
      obtain ⟨lm, hlm⟩ : ∃ lm : Nat, 6 + dq = lm := ⟨_, rfl⟩
      rw [hlm] at hq2 hm8 hm1
      clear hdq hlm hr
      have hm9 : (0 : Int) ≤ (lm : Int) := by omega
      have hm10 : (lm : Int) ≤ (8 : Int) := by omega
      go_wp2_with fail
      refine hK.out _ _ (⟨D.bm.cell 0, D.bm.cell 1, D.bm.cell 2, D.bm.cell 3, D.bx.cell 0, D.bx.cell 1, D.bx.cell 2, D.bx.cell 3⟩) (fun hHeld => ?_)
      clear hK K
      (try simp only [Act.put, List.setIfInBounds_toArray, List.set_cons_zero, List.set_cons_succ, List.getElem_toArray, List.getElem_cons_zero, List.getElem_cons_succ])
      refine wpAnyH_take (i := 10) (v := ?_) rfl (by kernel_rfl) (by kernel_rfl) (by kernel_rfl) (fun _ _ _ h => h) (Or.inl ⟨by rfl, ?_⟩) (by assumption) ?_
      rotate_left 1
      · (intro w hSw; (try dsimp only at hSw); go_simp; try with_reducible rfl)
      (try simp only [Act.put, List.setIfInBounds_toArray, List.set_cons_zero, List.set_cons_succ, List.getElem_toArray, List.getElem_cons_zero, List.getElem_cons_succ])
      refine wpAnyH_take (i := 11) (v := ?_) rfl (by kernel_rfl) (by kernel_rfl) (by kernel_rfl) (fun _ _ _ h => h) (Or.inl ⟨by rfl, ?_⟩) (by assumption) ?_
      rotate_left 1
      · (intro w hSw; (try dsimp only at hSw); go_simp; try with_reducible rfl)
      (try simp only [Act.put, List.setIfInBounds_toArray, List.set_cons_zero, List.set_cons_succ, List.getElem_toArray, List.getElem_cons_zero, List.getElem_cons_succ])
      refine wpAnyH_take (i := 12) (v := ?_) rfl (by kernel_rfl) (by kernel_rfl) (by kernel_rfl) (fun _ _ _ h => h) (Or.inl ⟨by rfl, ?_⟩) (by assumption) ?_
      rotate_left 1
      · (intro w hSw; (try dsimp only at hSw); go_simp; try with_reducible rfl)
      (try simp only [Act.put, List.setIfInBounds_toArray, List.set_cons_zero, List.set_cons_succ, List.getElem_toArray, List.getElem_cons_zero, List.getElem_cons_succ])
      refine wpAnyH_ready (rs := [13]) (by kernel_rfl) (by simp) ?_
      refine AllReadyH.cons rfl (fun K hK => ?_) AllReadyH.nil
      go_simp
      refine (among_cut g _ gl lm 8 _ [0, 59, 60, 200, 600, 3000, -1, 36001] _ BL hgl hc (by omega) (by simpa using hm8) (by omega) (by omega)).mono ?_
      rintro e wi5 ⟨tv, rfl, _, kc, oc⟩
      replace D := D.drawn oc
      replace hc := kc
      try replace BL := BL.only oc (fun (e : _ = _) => hgl e)
      clear kc oc
      go_wp2_with fail
      refine hK.out _ _ (⟨D.bm.cell 0, D.bm.cell 1, D.bm.cell 2, D.bm.cell 3, D.bx.cell 0, D.bx.cell 1, D.bx.cell 2, D.bx.cell 3⟩) (fun hHeld => ?_)
      clear hK K
      (try simp only [Act.put, List.setIfInBounds_toArray, List.set_cons_zero, List.set_cons_succ, List.getElem_toArray, List.getElem_cons_zero, List.getElem_cons_succ])
      refine wpAnyH_take (i := 14) (v := ?_) rfl (by kernel_rfl) (by kernel_rfl) (by kernel_rfl) (fun _ _ _ h => h) (Or.inl ⟨by rfl, ?_⟩) (by assumption) ?_
      rotate_left 1
      · (intro w hSw; (try dsimp only at hSw); go_simp; try with_reducible rfl)
      (try simp only [Act.put, List.setIfInBounds_toArray, List.set_cons_zero, List.set_cons_succ, List.getElem_toArray, List.getElem_cons_zero, List.getElem_cons_succ])
      refine wpAnyH_ready (rs := [15]) (by kernel_rfl) (by simp) ?_
      refine AllReadyH.cons rfl (fun K hK => ?_) AllReadyH.nil
      go_simp
      have cr := D.rm.cell
      have fr := D.rm.frozen
      go_simp
      replace D := D.st1
      clear cr fr
      refine hK.out _ (setManyW wi5 w.heap.size 0 [.int .i64 m.width, .int .i64 m.height, .slice A1 n1 c1, .slice A2 n2 c2]) (⟨D.bm.cell 0, D.bm.cell 1, D.bm.cell 2, D.bm.cell 3, D.bx.cell 0, D.bx.cell 1, D.bx.cell 2, D.bx.cell 3⟩) (fun hHeld => ?_)
      clear hK K
      (try simp only [Act.put, List.setIfInBounds_toArray, List.set_cons_zero, List.set_cons_succ, List.getElem_toArray, List.getElem_cons_zero, List.getElem_cons_succ])
      generalize setManyW wi5 w.heap.size 0 [.int .i64 m.width, .int .i64 m.height, .slice A1 n1 c1, .slice A2 n2 c2] = wi6 at *
      refine wpAnyH_ready (rs := [16]) (by kernel_rfl) (by simp) ?_
      refine AllReadyH.cons rfl (fun K hK => ?_) AllReadyH.nil
      go_simp
      have cr := D.rx.cell
      have fr := D.rx.frozen
      go_simp
      replace D := D.st2 (x := x)
      clear cr fr
      refine hK.out _ (setManyW wi6 (w.heap.size + 1) 0 [.int .i64 x.runner, .int .i64 x.start, .int .i64 x.seen, .int .i64 x.place]) (⟨D.bm.cell 0, D.bm.cell 1, D.bm.cell 2, D.bm.cell 3, D.bx.cell 0, D.bx.cell 1, D.bx.cell 2, D.bx.cell 3⟩) (fun hHeld => ?_)
      clear hK K
      (try simp only [Act.put, List.setIfInBounds_toArray, List.set_cons_zero, List.set_cons_succ, List.getElem_toArray, List.getElem_cons_zero, List.getElem_cons_succ])
      generalize setManyW wi6 (w.heap.size + 1) 0 [.int .i64 x.runner, .int .i64 x.start, .int .i64 x.seen, .int .i64 x.place] = wi7 at *
      refine wpAnyH_take (i := 17) (v := ?_) rfl (by kernel_rfl) (by kernel_rfl) (by kernel_rfl) (fun _ _ _ h => h) (Or.inl ⟨by rfl, ?_⟩) (by assumption) ?_
      rotate_left 1
      · (intro w hSw; (try dsimp only at hSw); go_simp; try with_reducible rfl)
      (try simp only [Act.put, List.setIfInBounds_toArray, List.set_cons_zero, List.set_cons_succ, List.getElem_toArray, List.getElem_cons_zero, List.getElem_cons_succ])
      refine wpAnyH_take (i := 18) (v := ?_) rfl (by kernel_rfl) (by kernel_rfl) (by kernel_rfl) (fun _ _ _ h => h) (Or.inl ⟨by rfl, ?_⟩) (by assumption) ?_
      rotate_left 1
      · (intro w hSw; (try dsimp only at hSw); go_simp; try with_reducible rfl)
      (try simp only [Act.put, List.setIfInBounds_toArray, List.set_cons_zero, List.set_cons_succ, List.getElem_toArray, List.getElem_cons_zero, List.getElem_cons_succ])
      refine wpAnyH_done (by kernel_rfl) ?_ _
      clear hHeld
      clear D0
      have cm := D.rm.cell
      have cx := D.rx.cell
      have fm := D.rm.frozen
      have fx := D.rx.frozen
      go_wp2_with fail
      refine bodyPost_ret (v := .tuple #[.agg #[.int .i64 m.width, .int .i64 m.height, .slice A1 n1 c1, .slice A2 n2 c2], .agg #[.int .i64 x.runner, .int .i64 x.start, .int .i64 x.seen, .int .i64 x.place], .int .i64 pv, .int .i64 (IntKind.i64.wrap (x.seen + tv))]) (by simp [results, Try.results48, go_sem, cm, cx]) rfl ?_
      exact ⟨m, A1, n1, c1, A2, n2, c2, x, pv, _, rfl, D.sees, hn, D.kept, fun b hb => by have := D.far b hb; have := D.lo; omega, D.rm.lt⟩
    refine AllReadyH.cons rfl (fun K hK => ?_) AllReadyH.nil
    · go_simp
      refine (pick_any 24 g _ wi2 hc (by omega) (by decide) (by decide)).mono ?_
      rintro e wi3 ⟨r, rfl, hr, kc, oc⟩
      replace D := D.drawn oc
      replace hc := kc
      try replace BL := BL.only oc (fun (e : _ = _) => hgl e)
      clear kc oc
      have hr23 : r ≤ 23 := hr
      have hq1 : IntKind.i64.wrap ((r : Int) / 11) = ((r / 11 : Nat) : Int) := by rw [IntWalk.i64_in _ (by omega)]; omega
      have hq2 : IntKind.i64.wrap (6 + ((r / 11 : Nat) : Int)) = ((6 + r / 11 : Nat) : Int) := by rw [IntWalk.i64_in _ (by omega)]; omega
      have hm8 : 6 + r / 11 ≤ 8 := by omega
      have hm1 : 1 ≤ 6 + r / 11 := by omega
      obtain ⟨dq, hdq⟩ : ∃ dq : Nat, r / 11 = dq := ⟨_, rfl⟩
      rw [hdq] at hq1 hq2 hm8 hm1
      obtain ⟨lm, hlm⟩ : ∃ lm : Nat, 6 + dq = lm := ⟨_, rfl⟩
      rw [hlm] at hq2 hm8 hm1
      clear hdq hlm hr
      have hm9 : (0 : Int) ≤ (lm : Int) := by omega
      have hm10 : (lm : Int) ≤ (8 : Int) := by omega
      go_wp2_with fail
      refine hK.out _ _ (⟨D.bm.cell 0, D.bm.cell 1, D.bm.cell 2, D.bm.cell 3, D.bx.cell 0, D.bx.cell 1, D.bx.cell 2, D.bx.cell 3⟩) (fun hHeld => ?_)
      clear hK K
      (try simp only [Act.put, List.setIfInBounds_toArray, List.set_cons_zero, List.set_cons_succ, List.getElem_toArray, List.getElem_cons_zero, List.getElem_cons_succ])
      refine wpAnyH_take (i := 10) (v := ?_) rfl (by kernel_rfl) (by kernel_rfl) (by kernel_rfl) (fun _ _ _ h => h) (Or.inl ⟨by rfl, ?_⟩) (by assumption) ?_
      rotate_left 1
      · (intro w hSw; (try dsimp only at hSw); go_simp; try with_reducible rfl)
      (try simp only [Act.put, List.setIfInBounds_toArray, List.set_cons_zero, List.set_cons_succ, List.getElem_toArray, List.getElem_cons_zero, List.getElem_cons_succ])
      refine wpAnyH_take (i := 11) (v := ?_) rfl (by kernel_rfl) (by kernel_rfl) (by kernel_rfl) (fun _ _ _ h => h) (Or.inl ⟨by rfl, ?_⟩) (by assumption) ?_
      rotate_left 1
      · (intro w hSw; (try dsimp only at hSw); go_simp; try with_reducible rfl)
      (try simp only [Act.put, List.setIfInBounds_toArray, List.set_cons_zero, List.set_cons_succ, List.getElem_toArray, List.getElem_cons_zero, List.getElem_cons_succ])
      refine wpAnyH_ready (rs := [7]) (by kernel_rfl) (by simp) ?_
      refine AllReadyH.cons rfl (fun K hK => ?_) AllReadyH.nil
      go_simp
      have hgl : wi3.heap.size ≠ g := Nat.ne_of_gt hc.lt
      have U := (Below.refl wi3.heap.size wi3).alloc (Nat.le_refl _) (.cells #[.int .i64 0, .int .i64 59, .int .i64 60, .int .i64 200, .int .i64 600, .int .i64 3000, .int .i64 (-1), .int .i64 36001] 3)
      replace D := D.below U
      replace hc := hc.next U
      have BL : Blk (wi3.alloc (.cells #[.int .i64 0, .int .i64 59, .int .i64 60, .int .i64 200, .int .i64 600, .int .i64 3000, .int .i64 (-1), .int .i64 36001] 3)) wi3.heap.size 3 (ints [0, 59, 60, 200, 600, 3000, -1, 36001]) := Blk.at_ rfl
      clear U
      refine hK.out _ _ (⟨D.bm.cell 0, D.bm.cell 1, D.bm.cell 2, D.bm.cell 3, D.bx.cell 0, D.bx.cell 1, D.bx.cell 2, D.bx.cell 3⟩) (fun hHeld => ?_)
      clear hK K
      (try simp only [Act.put, List.setIfInBounds_toArray, List.set_cons_zero, List.set_cons_succ, List.getElem_toArray, List.getElem_cons_zero, List.getElem_cons_succ])
      generalize wi3.alloc (.cells #[.int .i64 0, .int .i64 59, .int .i64 60, .int .i64 200, .int .i64 600, .int .i64 3000, .int .i64 (-1), .int .i64 36001] 3) = wi4 at *
      generalize wi3.heap.size = gl at *
      refine wpAnyH_take (i := 12) (v := ?_) rfl (by kernel_rfl) (by kernel_rfl) (by kernel_rfl) (fun _ _ _ h => h) (Or.inl ⟨by rfl, ?_⟩) (by assumption) ?_
      rotate_left 1
      · (intro w hSw; (try dsimp only at hSw); go_simp; try with_reducible rfl)
      (try simp only [Act.put, List.setIfInBounds_toArray, List.set_cons_zero, List.set_cons_succ, List.getElem_toArray, List.getElem_cons_zero, List.getElem_cons_succ])
      refine wpAnyH_ready (rs := [13]) (by kernel_rfl) (by simp) ?_
      refine AllReadyH.cons rfl (fun K hK => ?_) AllReadyH.nil
      go_simp
      refine (among_cut g _ gl lm 8 _ [0, 59, 60, 200, 600, 3000, -1, 36001] _ BL hgl hc (by omega) (by simpa using hm8) (by omega) (by omega)).mono ?_
      rintro e wi5 ⟨tv, rfl, _, kc, oc⟩
      replace D := D.drawn oc
      replace hc := kc
      try replace BL := BL.only oc (fun (e : _ = _) => hgl e)
      clear kc oc
      go_wp2_with fail
      refine hK.out _ _ (⟨D.bm.cell 0, D.bm.cell 1, D.bm.cell 2, D.bm.cell 3, D.bx.cell 0, D.bx.cell 1, D.bx.cell 2, D.bx.cell 3⟩) (fun hHeld => ?_)
      clear hK K
      (try simp only [Act.put, List.setIfInBounds_toArray, List.set_cons_zero, List.set_cons_succ, List.getElem_toArray, List.getElem_cons_zero, List.getElem_cons_succ])
      refine wpAnyH_take (i := 14) (v := ?_) rfl (by kernel_rfl) (by kernel_rfl) (by kernel_rfl) (fun _ _ _ h => h) (Or.inl ⟨by rfl, ?_⟩) (by assumption) ?_
      rotate_left 1
      · (intro w hSw; (try dsimp only at hSw); go_simp; try with_reducible rfl)
      (try simp only [Act.put, List.setIfInBounds_toArray, List.set_cons_zero, List.set_cons_succ, List.getElem_toArray, List.getElem_cons_zero, List.getElem_cons_succ])
      refine wpAnyH_ready (rs := [15]) (by kernel_rfl) (by simp) ?_
      refine AllReadyH.cons rfl (fun K hK => ?_) AllReadyH.nil
      go_simp
      have cr := D.rm.cell
      have fr := D.rm.frozen
      go_simp
      replace D := D.st1
      clear cr fr
      refine hK.out _ (setManyW wi5 w.heap.size 0 [.int .i64 m.width, .int .i64 m.height, .slice A1 n1 c1, .slice A2 n2 c2]) (⟨D.bm.cell 0, D.bm.cell 1, D.bm.cell 2, D.bm.cell 3, D.bx.cell 0, D.bx.cell 1, D.bx.cell 2, D.bx.cell 3⟩) (fun hHeld => ?_)
      clear hK K
      (try simp only [Act.put, List.setIfInBounds_toArray, List.set_cons_zero, List.set_cons_succ, List.getElem_toArray, List.getElem_cons_zero, List.getElem_cons_succ])
      generalize setManyW wi5 w.heap.size 0 [.int .i64 m.width, .int .i64 m.height, .slice A1 n1 c1, .slice A2 n2 c2] = wi6 at *
      refine wpAnyH_ready (rs := [16]) (by kernel_rfl) (by simp) ?_
      refine AllReadyH.cons rfl (fun K hK => ?_) AllReadyH.nil
      go_simp
      have cr := D.rx.cell
      have fr := D.rx.frozen
      go_simp
      replace D := D.st2 (x := x)
      clear cr fr
      refine hK.out _ (setManyW wi6 (w.heap.size + 1) 0 [.int .i64 x.runner, .int .i64 x.start, .int .i64 x.seen, .int .i64 x.place]) (⟨D.bm.cell 0, D.bm.cell 1, D.bm.cell 2, D.bm.cell 3, D.bx.cell 0, D.bx.cell 1, D.bx.cell 2, D.bx.cell 3⟩) (fun hHeld => ?_)
      clear hK K
      (try simp only [Act.put, List.setIfInBounds_toArray, List.set_cons_zero, List.set_cons_succ, List.getElem_toArray, List.getElem_cons_zero, List.getElem_cons_succ])
      generalize setManyW wi6 (w.heap.size + 1) 0 [.int .i64 x.runner, .int .i64 x.start, .int .i64 x.seen, .int .i64 x.place] = wi7 at *
      refine wpAnyH_take (i := 17) (v := ?_) rfl (by kernel_rfl) (by kernel_rfl) (by kernel_rfl) (fun _ _ _ h => h) (Or.inl ⟨by rfl, ?_⟩) (by assumption) ?_
      rotate_left 1
      · (intro w hSw; (try dsimp only at hSw); go_simp; try with_reducible rfl)
      (try simp only [Act.put, List.setIfInBounds_toArray, List.set_cons_zero, List.set_cons_succ, List.getElem_toArray, List.getElem_cons_zero, List.getElem_cons_succ])
      refine wpAnyH_take (i := 18) (v := ?_) rfl (by kernel_rfl) (by kernel_rfl) (by kernel_rfl) (fun _ _ _ h => h) (Or.inl ⟨by rfl, ?_⟩) (by assumption) ?_
      rotate_left 1
      · (intro w hSw; (try dsimp only at hSw); go_simp; try with_reducible rfl)
      (try simp only [Act.put, List.setIfInBounds_toArray, List.set_cons_zero, List.set_cons_succ, List.getElem_toArray, List.getElem_cons_zero, List.getElem_cons_succ])
      refine wpAnyH_done (by kernel_rfl) ?_ _
      clear hHeld
      clear D0
      have cm := D.rm.cell
      have cx := D.rx.cell
      have fm := D.rm.frozen
      have fx := D.rx.frozen
      go_wp2_with fail
      refine bodyPost_ret (v := .tuple #[.agg #[.int .i64 m.width, .int .i64 m.height, .slice A1 n1 c1, .slice A2 n2 c2], .agg #[.int .i64 x.runner, .int .i64 x.start, .int .i64 x.seen, .int .i64 x.place], .int .i64 pv, .int .i64 (IntKind.i64.wrap (x.seen + tv))]) (by simp [results, Try.results48, go_sem, cm, cx]) rfl ?_
      exact ⟨m, A1, n1, c1, A2, n2, c2, x, pv, _, rfl, D.sees, hn, D.kept, fun b hb => by have := D.far b hb; have := D.lo; omega, D.rm.lt⟩
  refine AllReadyH.cons rfl (fun K hK => ?_) AllReadyH.nil
  · go_simp
    have hgl : wi1.heap.size ≠ g := Nat.ne_of_gt hc.lt
    have U := (Below.refl wi1.heap.size wi1).alloc (Nat.le_refl _) (.cells #[.int .i64 0, .int .i64 59, .int .i64 60, .int .i64 200, .int .i64 600, .int .i64 3000, .int .i64 (-1), .int .i64 36001] 3)
    replace D := D.below U
    replace hc := hc.next U
    have BL : Blk (wi1.alloc (.cells #[.int .i64 0, .int .i64 59, .int .i64 60, .int .i64 200, .int .i64 600, .int .i64 3000, .int .i64 (-1), .int .i64 36001] 3)) wi1.heap.size 3 (ints [0, 59, 60, 200, 600, 3000, -1, 36001]) := Blk.at_ rfl
    clear U
    refine hK.out _ _ (⟨D.bm.cell 0, D.bm.cell 1, D.bm.cell 2, D.bm.cell 3, D.bx.cell 0, D.bx.cell 1, D.bx.cell 2, D.bx.cell 3⟩) (fun hHeld => ?_)
    clear hK K
    (try simp only [Act.put, List.setIfInBounds_toArray, List.set_cons_zero, List.set_cons_succ, List.getElem_toArray, List.getElem_cons_zero, List.getElem_cons_succ])
    generalize wi1.alloc (.cells #[.int .i64 0, .int .i64 59, .int .i64 60, .int .i64 200, .int .i64 600, .int .i64 3000, .int .i64 (-1), .int .i64 36001] 3) = wi2 at *
    generalize wi1.heap.size = gl at *
    refine wpAnyH_ready (rs := [3]) (by kernel_rfl) (by simp) ?_
    refine AllReadyH.cons rfl (fun K hK => ?_) AllReadyH.nil
    go_simp
    refine (pace_any g _ wi2 hc (by omega)).mono ?_
    rintro e wi3 ⟨pv, rfl, _, kc, oc⟩
    replace D := D.drawn oc
    replace hc := kc
    try replace BL := BL.only oc (fun (e : _ = _) => hgl e)
    clear kc oc
    go_wp2_with fail
    refine hK.out _ _ (⟨D.bm.cell 0, D.bm.cell 1, D.bm.cell 2, D.bm.cell 3, D.bx.cell 0, D.bx.cell 1, D.bx.cell 2, D.bx.cell 3⟩) (fun hHeld => ?_)
    clear hK K
    (try simp only [Act.put, List.setIfInBounds_toArray, List.set_cons_zero, List.set_cons_succ, List.getElem_toArray, List.getElem_cons_zero, List.getElem_cons_succ])
    refine wpAnyH_ready (rs := [9]) (by kernel_rfl) (by simp) ?_
    refine AllReadyH.cons rfl (fun K hK => ?_) AllReadyH.nil
    go_simp
    refine (pick_any 24 g _ wi3 hc (by omega) (by decide) (by decide)).mono ?_
    rintro e wi4 ⟨r, rfl, hr, kc, oc⟩
    replace D := D.drawn oc
    replace hc := kc
    try replace BL := BL.only oc (fun (e : _ = _) => hgl e)
    clear kc oc
    have hr23 : r ≤ 23 := hr
    have hq1 : IntKind.i64.wrap ((r : Int) / 11) = ((r / 11 : Nat) : Int) := by rw [IntWalk.i64_in _ (by omega)]; omega
    have hq2 : IntKind.i64.wrap (6 + ((r / 11 : Nat) : Int)) = ((6 + r / 11 : Nat) : Int) := by rw [IntWalk.i64_in _ (by omega)]; omega
    have hm8 : 6 + r / 11 ≤ 8 := by omega
    have hm1 : 1 ≤ 6 + r / 11 := by omega
    obtain ⟨dq, hdq⟩ : ∃ dq : Nat, r / 11 = dq := ⟨_, rfl⟩
    rw [hdq] at hq1 hq2 hm8 hm1
    obtain ⟨lm, hlm⟩ : ∃ lm : Nat, 6 + dq = lm := ⟨_, rfl⟩
    rw [hlm] at hq2 hm8 hm1
    clear hdq hlm hr
    have hm9 : (0 : Int) ≤ (lm : Int) := by omega
    have hm10 : (lm : Int) ≤ (8 : Int) := by omega
    go_wp2_with fail
    refine hK.out _ _ (⟨D.bm.cell 0, D.bm.cell 1, D.bm.cell 2, D.bm.cell 3, D.bx.cell 0, D.bx.cell 1, D.bx.cell 2, D.bx.cell 3⟩) (fun hHeld => ?_)
    clear hK K
    (try simp only [Act.put, List.setIfInBounds_toArray, List.set_cons_zero, List.set_cons_succ, List.getElem_toArray, List.getElem_cons_zero, List.getElem_cons_succ])
    refine wpAnyH_take (i := 10) (v := ?_) rfl (by kernel_rfl) (by kernel_rfl) (by kernel_rfl) (fun _ _ _ h => h) (Or.inl ⟨by rfl, ?_⟩) (by assumption) ?_
    rotate_left 1
    · (intro w hSw; (try dsimp only at hSw); go_simp; try with_reducible rfl)
    (try simp only [Act.put, List.setIfInBounds_toArray, List.set_cons_zero, List.set_cons_succ, List.getElem_toArray, List.getElem_cons_zero, List.getElem_cons_succ])
    refine wpAnyH_take (i := 11) (v := ?_) rfl (by kernel_rfl) (by kernel_rfl) (by kernel_rfl) (fun _ _ _ h => h) (Or.inl ⟨by rfl, ?_⟩) (by assumption) ?_
    rotate_left 1
    · (intro w hSw; (try dsimp only at hSw); go_simp; try with_reducible rfl)
    (try simp only [Act.put, List.setIfInBounds_toArray, List.set_cons_zero, List.set_cons_succ, List.getElem_toArray, List.getElem_cons_zero, List.getElem_cons_succ])
    refine wpAnyH_take (i := 12) (v := ?_) rfl (by kernel_rfl) (by kernel_rfl) (by kernel_rfl) (fun _ _ _ h => h) (Or.inl ⟨by rfl, ?_⟩) (by assumption) ?_
    rotate_left 1
    · (intro w hSw; (try dsimp only at hSw); go_simp; try with_reducible rfl)
    (try simp only [Act.put, List.setIfInBounds_toArray, List.set_cons_zero, List.set_cons_succ, List.getElem_toArray, List.getElem_cons_zero, List.getElem_cons_succ])
    refine wpAnyH_ready (rs := [13]) (by kernel_rfl) (by simp) ?_
    refine AllReadyH.cons rfl (fun K hK => ?_) AllReadyH.nil
    go_simp
    refine (among_cut g _ gl lm 8 _ [0, 59, 60, 200, 600, 3000, -1, 36001] _ BL hgl hc (by omega) (by simpa using hm8) (by omega) (by omega)).mono ?_
    rintro e wi5 ⟨tv, rfl, _, kc, oc⟩
    replace D := D.drawn oc
    replace hc := kc
    try replace BL := BL.only oc (fun (e : _ = _) => hgl e)
    clear kc oc
    go_wp2_with fail
    refine hK.out _ _ (⟨D.bm.cell 0, D.bm.cell 1, D.bm.cell 2, D.bm.cell 3, D.bx.cell 0, D.bx.cell 1, D.bx.cell 2, D.bx.cell 3⟩) (fun hHeld => ?_)
    clear hK K
    (try simp only [Act.put, List.setIfInBounds_toArray, List.set_cons_zero, List.set_cons_succ, List.getElem_toArray, List.getElem_cons_zero, List.getElem_cons_succ])
    refine wpAnyH_take (i := 14) (v := ?_) rfl (by kernel_rfl) (by kernel_rfl) (by kernel_rfl) (fun _ _ _ h => h) (Or.inl ⟨by rfl, ?_⟩) (by assumption) ?_
    rotate_left 1
    · (intro w hSw; (try dsimp only at hSw); go_simp; try with_reducible rfl)
    (try simp only [Act.put, List.setIfInBounds_toArray, List.set_cons_zero, List.set_cons_succ, List.getElem_toArray, List.getElem_cons_zero, List.getElem_cons_succ])
    refine wpAnyH_ready (rs := [15]) (by kernel_rfl) (by simp) ?_
    refine AllReadyH.cons rfl (fun K hK => ?_) AllReadyH.nil
    go_simp
    have cr := D.rm.cell
    have fr := D.rm.frozen
    go_simp
    replace D := D.st1
    clear cr fr
    refine hK.out _ (setManyW wi5 w.heap.size 0 [.int .i64 m.width, .int .i64 m.height, .slice A1 n1 c1, .slice A2 n2 c2]) (⟨D.bm.cell 0, D.bm.cell 1, D.bm.cell 2, D.bm.cell 3, D.bx.cell 0, D.bx.cell 1, D.bx.cell 2, D.bx.cell 3⟩) (fun hHeld => ?_)
    clear hK K
    (try simp only [Act.put, List.setIfInBounds_toArray, List.set_cons_zero, List.set_cons_succ, List.getElem_toArray, List.getElem_cons_zero, List.getElem_cons_succ])
    generalize setManyW wi5 w.heap.size 0 [.int .i64 m.width, .int .i64 m.height, .slice A1 n1 c1, .slice A2 n2 c2] = wi6 at *
    refine wpAnyH_ready (rs := [16]) (by kernel_rfl) (by simp) ?_
    refine AllReadyH.cons rfl (fun K hK => ?_) AllReadyH.nil
    go_simp
    have cr := D.rx.cell
    have fr := D.rx.frozen
    go_simp
    replace D := D.st2 (x := x)
    clear cr fr
    refine hK.out _ (setManyW wi6 (w.heap.size + 1) 0 [.int .i64 x.runner, .int .i64 x.start, .int .i64 x.seen, .int .i64 x.place]) (⟨D.bm.cell 0, D.bm.cell 1, D.bm.cell 2, D.bm.cell 3, D.bx.cell 0, D.bx.cell 1, D.bx.cell 2, D.bx.cell 3⟩) (fun hHeld => ?_)
    clear hK K
    (try simp only [Act.put, List.setIfInBounds_toArray, List.set_cons_zero, List.set_cons_succ, List.getElem_toArray, List.getElem_cons_zero, List.getElem_cons_succ])
    generalize setManyW wi6 (w.heap.size + 1) 0 [.int .i64 x.runner, .int .i64 x.start, .int .i64 x.seen, .int .i64 x.place] = wi7 at *
    refine wpAnyH_take (i := 17) (v := ?_) rfl (by kernel_rfl) (by kernel_rfl) (by kernel_rfl) (fun _ _ _ h => h) (Or.inl ⟨by rfl, ?_⟩) (by assumption) ?_
    rotate_left 1
    · (intro w hSw; (try dsimp only at hSw); go_simp; try with_reducible rfl)
    (try simp only [Act.put, List.setIfInBounds_toArray, List.set_cons_zero, List.set_cons_succ, List.getElem_toArray, List.getElem_cons_zero, List.getElem_cons_succ])
    refine wpAnyH_take (i := 18) (v := ?_) rfl (by kernel_rfl) (by kernel_rfl) (by kernel_rfl) (fun _ _ _ h => h) (Or.inl ⟨by rfl, ?_⟩) (by assumption) ?_
    rotate_left 1
    · (intro w hSw; (try dsimp only at hSw); go_simp; try with_reducible rfl)
    (try simp only [Act.put, List.setIfInBounds_toArray, List.set_cons_zero, List.set_cons_succ, List.getElem_toArray, List.getElem_cons_zero, List.getElem_cons_succ])
    refine wpAnyH_done (by kernel_rfl) ?_ _
    clear hHeld
    clear D0
    have cm := D.rm.cell
    have cx := D.rx.cell
    have fm := D.rm.frozen
    have fx := D.rx.frozen
    go_wp2_with fail
    refine bodyPost_ret (v := .tuple #[.agg #[.int .i64 m.width, .int .i64 m.height, .slice A1 n1 c1, .slice A2 n2 c2], .agg #[.int .i64 x.runner, .int .i64 x.start, .int .i64 x.seen, .int .i64 x.place], .int .i64 pv, .int .i64 (IntKind.i64.wrap (x.seen + tv))]) (by simp [results, Try.results48, go_sem, cm, cx]) rfl ?_
    exact ⟨m, A1, n1, c1, A2, n2, c2, x, pv, _, rfl, D.sees, hn, D.kept, fun b hb => by have := D.far b hb; have := D.lo; omega, D.rm.lt⟩

end Go.Proofs.Ytjcmlloglnkbfaa
