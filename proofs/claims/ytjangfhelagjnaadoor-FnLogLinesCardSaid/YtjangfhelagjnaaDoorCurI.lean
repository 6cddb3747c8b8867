/- What a law of crashes draws. -/
import Derived.Test.YtjangfhelagjnaaDoorCurH
namespace Go.Proofs.YtjangfhelagjnaaDoor
open Go.RowKit

/-- A code: bytes that are seen. -/
def CodeIn (w : World) (A : Option Addr) (m : Nat) : Prop :=
  0 < m → ∃ b off, A = some ⟨b, off, none⟩ ∧ b < w.heap.size ∧ ∀ j, j < m → ∃ u : Int, w.cell? ⟨b, off + j, none⟩ = some (.int .u8 u) ∧ 0 ≤ u ∧ u ≤ 255
/-- A new cursor, some blocks behind the code. -/
theorem cur_new {w w' : World} {A : Option Addr} {m c g : Nat} (h : CodeIn w A m) (hm : m ≤ 1000000) (hb : Below w.heap.size w w') (hg : w.heap.size ≤ g) (hB : Blk w' g 74 [.slice A m c, .int .i64 0, .int .u64 0]) : Cur w' g 0 :=
  ⟨⟨A, m, c, 0, 0, hB, Nat.le_refl _, hm, fun h0 => by
    obtain ⟨b, off, h1, h2, h3⟩ := h h0
    refine ⟨b, off, h1, by omega, fun j hj => ?_⟩
    obtain ⟨u, h4, h5⟩ := h3 j hj
    exact ⟨u, (hb.cell (p := ⟨b, off + j, none⟩) h2).trans h4, h5⟩⟩⟩
theorem CodeIn.next {w w' : World} {A : Option Addr} {m : Nat} (h : CodeIn w A m) (hb : Below w.heap.size w w') : CodeIn w' A m := fun h0 => by
  obtain ⟨b, off, h1, h2, h3⟩ := h h0
  refine ⟨b, off, h1, Nat.lt_of_lt_of_le h2 hb.size, fun j hj => ?_⟩
  obtain ⟨u, h4, h5⟩ := h3 j hj
  exact ⟨u, (hb.cell (p := ⟨b, off + j, none⟩) h2).trans h4, h5⟩
def DrawnC (w : World) (e : Ending) (w' : World) : Prop := ∃ (x : Log) (k : Int) (b : Bool), e = .returned (.tuple #[.agg #[.string x.durable, .string x.pending, .int .i64 x.count], .int .i64 k, .bool b]) ∧ totL 64000 x ∧ Below w.heap.size w w'

set_option maxRecDepth 100000 in
set_option maxHeartbeats 4000000 in
theorem DrawCrashLog_any (A : Option Addr) (m c : Nat) (w : World) (hA : CodeIn w A m) (hm : m ≤ 1000000) :
    Calls Tryd.prog 41 #[.slice A m c] w (DrawnC w) := by
  have UD : Below w.heap.size w ((w.alloc (.cells #[.string ⟨#[]⟩, .string ⟨#[]⟩, .int .i64 0] 31)).alloc (.cells #[.slice A m c, .int .i64 0, .int .u64 0] 74)) := ((Below.refl _ _).alloc (Nat.le_refl _) _).alloc (by simp) _
  have zD : ((w.alloc (.cells #[.string ⟨#[]⟩, .string ⟨#[]⟩, .int .i64 0] 31)).alloc (.cells #[.slice A m c, .int .i64 0, .int .u64 0] 74)).heap.size = w.heap.size + 2 := by simp
  have R0 : Blk ((w.alloc (.cells #[.string ⟨#[]⟩, .string ⟨#[]⟩, .int .i64 0] 31)).alloc (.cells #[.slice A m c, .int .i64 0, .int .u64 0] 74)) w.heap.size 31 [.string ⟨#[]⟩, .string ⟨#[]⟩, .int .i64 0] := (Blk.at_ rfl).alloc _
  have CC : Cur ((w.alloc (.cells #[.string ⟨#[]⟩, .string ⟨#[]⟩, .int .i64 0] 31)).alloc (.cells #[.slice A m c, .int .i64 0, .int .u64 0] 74)) (w.heap.size + 1) 0 := cur_new hA hm UD (Nat.le_succ _) (Blk.at_ (by simp))
  go_enter Tryd.func41, Tryd.ntmps41
  go_wp2_with fail
  generalize ((w.alloc (.cells #[.string ⟨#[]⟩, .string ⟨#[]⟩, .int .i64 0] 31)).alloc (.cells #[.slice A m c, .int .i64 0, .int .u64 0] 74)) = wd at *
  have ZD := Lib.hid zD
  have zd1 : w.heap.size + 2 ≤ wd.heap.size := by omega
  clear zD
  refine (anyLog_any (w.heap.size + 1) 0 wd CC (by decide)).mono ?_
  rintro e w1 ⟨x, rfl, hx, C1, o1⟩
  have R1 := R0.only o1 (fun (h : _ = _) => by omega)
  have z1 := o1.size
  have U1 : Below w1.heap.size w1 (w1.alloc (.cells #[.string x.durable, .string x.pending, .int .i64 x.count] 31)) := (Below.refl _ _).alloc (Nat.le_refl _) _
  have L1 : Blk (w1.alloc (.cells #[.string x.durable, .string x.pending, .int .i64 x.count] 31)) w1.heap.size 31 [.string x.durable, .string x.pending, .int .i64 x.count] := Blk.at_ rfl
  have hx' : x.durable.size + x.pending.size ≤ 64000 := hx
  have O1 := o1.then_ U1
  have C2 := C1.next U1
  have R2 := R1.next U1
  have lw : w.heap.size < w1.heap.size := by omega
  clear C1 R1 U1 o1 R0 CC
  go_wp2_with fail
  generalize (w1.alloc (.cells #[.string x.durable, .string x.pending, .int .i64 x.count] 31)) = w2 at *
  have l2 := L1.cell
  go_wp2_with fail
  refine (pick_any ((x.pending.size : Int) + 3) (w.heap.size + 1) _ w2 C2 (by omega) (by omega) (by omega)).mono ?_
  rintro e w3 ⟨r, rfl, hr, C3, o3⟩
  have hr' : r ≤ 64002 := by omega
  clear hr l2
  have R3 := (R2.only o3 (fun (h : _ = _) => by omega)).quiet (Quiet.one w3)
  have L3 := (L1.only o3 (fun (h : _ = _) => by omega)).quiet (Quiet.one w3)
  have O3 := (O1.trans o3).quiet (Quiet.one w3)
  replace C3 := C3.next ((Quiet.one w3).below _)
  clear R2 L1 O1 o3 C2
  go_wp2_with fail
  have l3 := L3.cell
  refine wp_region_held_drew (S := fun w' => True) (by kernel_rfl) (by trivial) (fun hHeld => ?_)
  refine wpAnyH_take (i := 1) (v := ?_) rfl (by kernel_rfl) (by kernel_rfl) (by kernel_rfl) (fun _ _ _ h => h) (Or.inl ⟨by rfl, ?_⟩) (by assumption) ?_
  rotate_left 1
  · (intro w hSw; (try dsimp only at hSw); go_simp; try with_reducible rfl)
  simp only [Act.put, List.setIfInBounds_toArray, List.set_cons_zero, List.set_cons_succ, List.getElem_toArray, List.getElem_cons_zero, List.getElem_cons_succ]
  refine wpAnyH_take (i := 2) (v := ?_) rfl (by kernel_rfl) (by kernel_rfl) (by kernel_rfl) (fun _ _ _ h => h) (Or.inl ⟨by rfl, ?_⟩) (by assumption) ?_
  rotate_left 1
  · (intro w hSw; (try dsimp only at hSw); go_simp; try with_reducible rfl)
  simp only [Act.put, List.setIfInBounds_toArray, List.set_cons_zero, List.set_cons_succ, List.getElem_toArray, List.getElem_cons_zero, List.getElem_cons_succ]
  refine wpAnyH_ready (rs := [0, 3]) (by kernel_rfl) (by simp) ?_
  refine AllReadyH.cons rfl (fun K hK => ?_) ?_
  · go_simp
    refine hK.out _ _ (by trivial) (fun hHeld => ?_)
    clear hK K
    try simp only [Act.put, List.setIfInBounds_toArray, List.set_cons_zero, List.set_cons_succ, List.getElem_toArray, List.getElem_cons_zero]
    refine wpAnyH_ready (rs := [3]) (by kernel_rfl) (by simp) ?_
    refine AllReadyH.cons rfl (fun K hK => ?_) AllReadyH.nil
    go_simp
    refine (one_any 2 (w.heap.size + 1) _ _ C3 (by omega) (by decide) (by decide)).mono ?_
    rintro e w4 ⟨bb, rfl, C4, o4⟩
    have R4 := R3.only o4 (fun (h : _ = _) => by omega)
    have L4 := L3.only o4 (fun (h : _ = _) => by omega)
    have O4 := O3.trans o4
    have l4 := L4.cell
    have r4 := R4.cell
    have r4f := R4.frozen
  
    go_wp2_with fail
    refine hK.out _ _ (by trivial) (fun hHeld => ?_)
    clear hK K
    refine wpAnyH_ready (rs := [4]) (by kernel_rfl) (by simp) ?_
    refine AllReadyH.cons rfl (fun K hK => ?_) AllReadyH.nil
    go_simp
    refine hK.out _ _ (by trivial) (fun hHeld => ?_)
    clear hK K
    try simp only [Act.put, List.setIfInBounds_toArray, List.set_cons_zero, List.set_cons_succ, List.getElem_toArray, List.getElem_cons_zero, List.getElem_cons_succ]
    refine wpAnyH_take (i := 5) (v := ?_) rfl (by kernel_rfl) (by kernel_rfl) (by kernel_rfl) (fun _ _ _ h => h) (Or.inl ⟨by rfl, ?_⟩) (by assumption) ?_
    rotate_left 1
    · (intro w hSw; (try dsimp only at hSw); go_simp; try with_reducible rfl)
    simp only [Act.put, List.setIfInBounds_toArray, List.set_cons_zero, List.set_cons_succ, List.getElem_toArray, List.getElem_cons_zero, List.getElem_cons_succ]
    refine wpAnyH_take (i := 6) (v := ?_) rfl (by kernel_rfl) (by kernel_rfl) (by kernel_rfl) (fun _ _ _ h => h) (Or.inl ⟨by rfl, ?_⟩) (by assumption) ?_
    rotate_left 1
    · (intro w hSw; (try dsimp only at hSw); go_simp; try with_reducible rfl)
    simp only [Act.put, List.setIfInBounds_toArray, List.set_cons_zero, List.set_cons_succ, List.getElem_toArray, List.getElem_cons_zero, List.getElem_cons_succ]
    refine wpAnyH_done (by kernel_rfl) ?_ _
    go_wp2_with fail
    refine bodyPost_ret (v := .tuple #[.agg #[.string x.durable, .string x.pending, .int .i64 x.count], .int .i64 ((r : Int) - 1), .bool bb]) (by simp [results, Tryd.results41, go_sem, r4]) rfl ⟨x, _, _, rfl, hx, ?_⟩
    exact bel_set3 (Below.trans UD (O4.below (fun _ hk => by rw [hk]; omega) (by omega))) (Nat.le_refl _) _ _ _
  refine AllReadyH.cons rfl (fun K hK => ?_) AllReadyH.nil
  · go_simp
    refine (one_any 2 (w.heap.size + 1) _ _ C3 (by omega) (by decide) (by decide)).mono ?_
    rintro e w4 ⟨bb, rfl, C4, o4⟩
    have R4 := R3.only o4 (fun (h : _ = _) => by omega)
    have L4 := L3.only o4 (fun (h : _ = _) => by omega)
    have O4 := O3.trans o4
    have l4 := L4.cell
    have r4 := R4.cell
    have r4f := R4.frozen
  
    go_wp2_with fail
    refine hK.out _ _ (by trivial) (fun hHeld => ?_)
    clear hK K
    refine wpAnyH_ready (rs := [0]) (by kernel_rfl) (by simp) ?_
    refine AllReadyH.cons rfl (fun K hK => ?_) AllReadyH.nil
    go_simp
    refine hK.out _ _ (by trivial) (fun hHeld => ?_)
    clear hK K
    try simp only [Act.put, List.setIfInBounds_toArray, List.set_cons_zero, List.set_cons_succ, List.getElem_toArray, List.getElem_cons_zero]
    refine wpAnyH_ready (rs := [4]) (by kernel_rfl) (by simp) ?_
    refine AllReadyH.cons rfl (fun K hK => ?_) AllReadyH.nil
    go_simp
    refine hK.out _ _ (by trivial) (fun hHeld => ?_)
    clear hK K
    try simp only [Act.put, List.setIfInBounds_toArray, List.set_cons_zero, List.set_cons_succ, List.getElem_toArray, List.getElem_cons_zero, List.getElem_cons_succ]
    refine wpAnyH_take (i := 5) (v := ?_) rfl (by kernel_rfl) (by kernel_rfl) (by kernel_rfl) (fun _ _ _ h => h) (Or.inl ⟨by rfl, ?_⟩) (by assumption) ?_
    rotate_left 1
    · (intro w hSw; (try dsimp only at hSw); go_simp; try with_reducible rfl)
    simp only [Act.put, List.setIfInBounds_toArray, List.set_cons_zero, List.set_cons_succ, List.getElem_toArray, List.getElem_cons_zero, List.getElem_cons_succ]
    refine wpAnyH_take (i := 6) (v := ?_) rfl (by kernel_rfl) (by kernel_rfl) (by kernel_rfl) (fun _ _ _ h => h) (Or.inl ⟨by rfl, ?_⟩) (by assumption) ?_
    rotate_left 1
    · (intro w hSw; (try dsimp only at hSw); go_simp; try with_reducible rfl)
    simp only [Act.put, List.setIfInBounds_toArray, List.set_cons_zero, List.set_cons_succ, List.getElem_toArray, List.getElem_cons_zero, List.getElem_cons_succ]
    refine wpAnyH_done (by kernel_rfl) ?_ _
    go_wp2_with fail
    refine bodyPost_ret (v := .tuple #[.agg #[.string x.durable, .string x.pending, .int .i64 x.count], .int .i64 ((r : Int) - 1), .bool bb]) (by simp [results, Tryd.results41, go_sem, r4]) rfl ⟨x, _, _, rfl, hx, ?_⟩
    exact bel_set3 (Below.trans UD (O4.below (fun _ hk => by rw [hk]; omega) (by omega))) (Nat.le_refl _) _ _ _


end Go.Proofs.YtjangfhelagjnaaDoor
