/- What the law of appended records draws. -/
import Derived.Test.YtjangfhelagjnaaDoorCurI
namespace Go.Proofs.YtjangfhelagjnaaDoor
open Go.RowKit

def DrawnA (w : World) (e : Ending) (w' : World) : Prop := ∃ (x : Log) (r : LogRecord), e = .returned (.tuple #[.agg #[.string x.durable, .string x.pending, .int .i64 x.count], .agg #[.string r.command, .string r.reply]]) ∧ totL 64000 x ∧ r.upto 20 ∧ Below w.heap.size w w'
/-- The loop's state: the log's box, the two results, the cursor. -/
def LoopA (W w : World) (gl : Nat) (y : Log) (wr : World) : Prop := totL 31000 y ∧ Cur wr (w.heap.size + 2) 80 ∧ Only (fun b => b = w.heap.size + 2) W wr ∧ Blk wr gl 31 [.string y.durable, .string y.pending, .int .i64 y.count] ∧ Blk wr w.heap.size 31 [.string ⟨#[]⟩, .string ⟨#[]⟩, .int .i64 0] ∧ Blk wr (w.heap.size + 1) 27 [.string ⟨#[]⟩, .string ⟨#[]⟩]
theorem LoopA.put {W w w1 : World} {gl : Nat} {cs : List Value} {y : Log} (hc : Cur w1 (w.heap.size + 2) 80) (ho : Only (fun b => b = w.heap.size + 2) W w1) (hl : Blk w1 gl 31 cs) (hr : Blk w1 w.heap.size 31 [.string ⟨#[]⟩, .string ⟨#[]⟩, .int .i64 0]) (he : Blk w1 (w.heap.size + 1) 27 [.string ⟨#[]⟩, .string ⟨#[]⟩])
    (h3 : ∃ a b c, cs = [a, b, c]) (hy : totL 31000 y) (h1 : w.heap.size + 2 < gl) (h2 : W.heap.size ≤ gl) :
    LoopA W w gl y (((w1.setCell ⟨gl, 0, none⟩ (.string y.durable)).setCell ⟨gl, 1, none⟩ (.string y.pending)).setCell ⟨gl, 2, none⟩ (.int .i64 y.count)) := by
  obtain ⟨a, b, c, rfl⟩ := h3
  have o := only_set (only_set (only_set (Only.refl (fun b => b = gl) w1) 0 (.string y.durable)) 1 (.string y.pending)) 2 (.int .i64 y.count)
  exact ⟨hy, hc.keep o (by omega) (fun b hb => by omega), only_new (only_new (only_new ho (p := ⟨gl, 0, none⟩) h2 _) (p := ⟨gl, 1, none⟩) h2 _) (p := ⟨gl, 2, none⟩) h2 _,
    ((hl.set_ 0 (.string y.durable)).set_ 1 (.string y.pending)).set_ 2 (.int .i64 y.count), hr.only o (by omega), he.only o (by omega)⟩

set_option maxRecDepth 100000 in
set_option maxHeartbeats 4000000 in
theorem DrawAppendRecord_any (A : Option Addr) (m c : Nat) (w : World) (hA : CodeIn w A m) (hm : m ≤ 1000000) :
    Calls Tryd.prog 36 #[.slice A m c] w (DrawnA w) := by
  have UD : Below w.heap.size w (((w.alloc (.cells #[.string ⟨#[]⟩, .string ⟨#[]⟩, .int .i64 0] 31)).alloc (.cells #[.string ⟨#[]⟩, .string ⟨#[]⟩] 27)).alloc (.cells #[.slice A m c, .int .i64 0, .int .u64 0] 74)) := (((Below.refl _ _).alloc (Nat.le_refl _) _).alloc (by simp) _).alloc (by simp; omega) _
  have zD : (((w.alloc (.cells #[.string ⟨#[]⟩, .string ⟨#[]⟩, .int .i64 0] 31)).alloc (.cells #[.string ⟨#[]⟩, .string ⟨#[]⟩] 27)).alloc (.cells #[.slice A m c, .int .i64 0, .int .u64 0] 74)).heap.size = w.heap.size + 3 := by simp
  have R0 : Blk (((w.alloc (.cells #[.string ⟨#[]⟩, .string ⟨#[]⟩, .int .i64 0] 31)).alloc (.cells #[.string ⟨#[]⟩, .string ⟨#[]⟩] 27)).alloc (.cells #[.slice A m c, .int .i64 0, .int .u64 0] 74)) w.heap.size 31 [.string ⟨#[]⟩, .string ⟨#[]⟩, .int .i64 0] := ((Blk.at_ rfl).alloc _).alloc _
  have E0 : Blk (((w.alloc (.cells #[.string ⟨#[]⟩, .string ⟨#[]⟩, .int .i64 0] 31)).alloc (.cells #[.string ⟨#[]⟩, .string ⟨#[]⟩] 27)).alloc (.cells #[.slice A m c, .int .i64 0, .int .u64 0] 74)) (w.heap.size + 1) 27 [.string ⟨#[]⟩, .string ⟨#[]⟩] := (Blk.at_ (by simp)).alloc _
  have CC : Cur (((w.alloc (.cells #[.string ⟨#[]⟩, .string ⟨#[]⟩, .int .i64 0] 31)).alloc (.cells #[.string ⟨#[]⟩, .string ⟨#[]⟩] 27)).alloc (.cells #[.slice A m c, .int .i64 0, .int .u64 0] 74)) (w.heap.size + 2) 0 := cur_new hA hm UD (by omega) (Blk.at_ (by simp))
  go_enter Tryd.func36, Tryd.ntmps36
  go_wp2_with fail
  generalize (((w.alloc (.cells #[.string ⟨#[]⟩, .string ⟨#[]⟩, .int .i64 0] 31)).alloc (.cells #[.string ⟨#[]⟩, .string ⟨#[]⟩] 27)).alloc (.cells #[.slice A m c, .int .i64 0, .int .u64 0] 74)) = wd at *
  have zd1 : w.heap.size + 3 ≤ wd.heap.size := by omega
  clear zD
  refine (anyLog_any (w.heap.size + 2) 0 wd CC (by decide)).mono ?_
  rintro e w1 ⟨x, rfl, hx, C1, o1⟩
  have R1 := R0.only o1 (fun (h : _ = _) => by omega)
  have E1 := E0.only o1 (fun (h : _ = _) => by omega)
  have z1 := o1.size
  have U1 : Below w1.heap.size w1 (w1.alloc (.cells #[.string x.durable, .string x.pending, .int .i64 x.count] 31)) := (Below.refl _ _).alloc (Nat.le_refl _) _
  have L1 : Blk (w1.alloc (.cells #[.string x.durable, .string x.pending, .int .i64 x.count] 31)) w1.heap.size 31 [.string x.durable, .string x.pending, .int .i64 x.count] := Blk.at_ rfl
  have O1 := o1.then_ U1
  have C2 := C1.next U1
  have R2 := R1.next U1
  have E2 := E1.next U1
  clear C1 R1 E1 U1 o1 R0 E0 CC
  go_wp2_with fail
  generalize (w1.alloc (.cells #[.string x.durable, .string x.pending, .int .i64 x.count] 31)) = w2 at *
  refine (one_any 40 (w.heap.size + 2) _ w2 C2 (by omega) (by decide) (by decide)).mono ?_
  rintro e w3 ⟨bb, rfl, C3, o3⟩
  have R3 := R2.only o3 (fun (h : _ = _) => by omega)
  have E3 := E2.only o3 (fun (h : _ = _) => by omega)
  have L3 := L1.only o3 (fun (h : _ = _) => by omega)
  have O3 := O1.trans o3
  clear C2 R2 E2 L1 O1 o3
  cases bb
  · obtain ⟨y, hy, w7, C7, R7, E7, L7, O7, rfl⟩ : ∃ y, totL 64000 y ∧ ∃ w7, Cur w7 (w.heap.size + 2) 80 ∧ Blk w7 w.heap.size 31 [.string ⟨#[]⟩, .string ⟨#[]⟩, .int .i64 0] ∧ Blk w7 (w.heap.size + 1) 27 [.string ⟨#[]⟩, .string ⟨#[]⟩] ∧ Blk w7 w1.heap.size 31 [.string y.durable, .string y.pending, .int .i64 y.count] ∧ Only (fun b => b = w.heap.size + 2) wd w7 ∧ w7 = w3 := ⟨x, hx, w3, C3.more (by decide), R3, E3, L3, O3, rfl⟩
    clear C3 R3 E3 L3 O3
    go_wp2_with fail
    replace C7 := C7.next ((Quiet.one w7).below _)
    replace O7 := O7.quiet (Quiet.one w7)
    replace R7 := R7.quiet (Quiet.one w7)
    replace E7 := E7.quiet (Quiet.one w7)
    replace L7 := L7.quiet (Quiet.one w7)
    have l7 := L7.cell
    refine wp_region_held_drew (S := fun w' => True) (by kernel_rfl) (by trivial) (fun hHeld => ?_)
    refine wpAnyH_take (i := 1) (v := ?_) rfl (by kernel_rfl) (by kernel_rfl) (by kernel_rfl) (fun _ _ _ h => h) (Or.inl ⟨by rfl, ?_⟩) (by assumption) ?_
    rotate_left 1
    · (intro w hSw; (try dsimp only at hSw); go_simp; try with_reducible rfl)
    simp only [Act.put, List.setIfInBounds_toArray, List.set_cons_zero, List.set_cons_succ, List.getElem_toArray, List.getElem_cons_zero, List.getElem_cons_succ]
    refine wpAnyH_ready (rs := [0, 2]) (by kernel_rfl) (by simp) ?_
    refine AllReadyH.cons rfl (fun K hK => ?_) ?_
    · go_simp
      refine hK.out _ _ (by trivial) (fun hHeld => ?_)
      clear hK K
      try simp only [Act.put, List.setIfInBounds_toArray, List.set_cons_zero, List.set_cons_succ, List.getElem_toArray, List.getElem_cons_zero]
      refine wpAnyH_ready (rs := [2]) (by kernel_rfl) (by simp) ?_
      refine AllReadyH.cons rfl (fun K hK => ?_) AllReadyH.nil
      go_simp
      refine (logRecord_any (w.heap.size + 2) _ _ C7 (by omega)).mono ?_
      rintro e w8 ⟨rec, rfl, hrec, C8, o8⟩
      have R8 := R7.only o8 (fun (h : _ = _) => by omega)
      have E8 := E7.only o8 (fun (h : _ = _) => by omega)
      have L8 := L7.only o8 (fun (h : _ = _) => by omega)
      have O8 := O7.trans o8
      have l8 := L8.cell
      have r8 := R8.cell
      have r8f := R8.frozen
      have e8 := E8.cell
      have e8f := E8.frozen
  
      go_wp2_with fail
      refine hK.out _ _ (by trivial) (fun hHeld => ?_)
      clear hK K
      refine wpAnyH_ready (rs := [3]) (by kernel_rfl) (by simp) ?_
      refine AllReadyH.cons rfl (fun K hK => ?_) AllReadyH.nil
      go_simp
      refine hK.out _ _ (by trivial) (fun hHeld => ?_)
      clear hK K
      try simp only [Act.put, List.setIfInBounds_toArray, List.set_cons_zero, List.set_cons_succ, List.getElem_toArray, List.getElem_cons_zero, List.getElem_cons_succ]
      refine wpAnyH_ready (rs := [4]) (by kernel_rfl) (by simp) ?_
      refine AllReadyH.cons rfl (fun K hK => ?_) AllReadyH.nil
      go_simp
      refine hK.out _ _ (by trivial) (fun hHeld => ?_)
      clear hK K
      try simp only [Act.put, List.setIfInBounds_toArray, List.set_cons_zero, List.set_cons_succ, List.getElem_toArray, List.getElem_cons_zero, List.getElem_cons_succ]
      refine wpAnyH_done (by kernel_rfl) ?_ _
      go_wp2_with fail
      have HB := Below.trans UD (O8.below (fun _ hk => by rw [hk]; omega) (by omega))
      refine bodyPost_ret (v := .tuple #[.agg #[.string y.durable, .string y.pending, .int .i64 y.count], .agg #[.string rec.command, .string rec.reply]]) (by simp [results, Tryd.results36, go_sem, r8, e8]) rfl ⟨y, rec, rfl, hy, hrec, ?_⟩
      exact ((bel_set3 HB (Nat.le_refl _) _ _ _).setCell (p := ⟨w.heap.size + 1, 0, none⟩) (Nat.le_succ _) _).setCell (p := ⟨w.heap.size + 1, 1, none⟩) (Nat.le_succ _) _
    refine AllReadyH.cons rfl (fun K hK => ?_) AllReadyH.nil
    · go_simp
      refine (logRecord_any (w.heap.size + 2) _ _ C7 (by omega)).mono ?_
      rintro e w8 ⟨rec, rfl, hrec, C8, o8⟩
      have R8 := R7.only o8 (fun (h : _ = _) => by omega)
      have E8 := E7.only o8 (fun (h : _ = _) => by omega)
      have L8 := L7.only o8 (fun (h : _ = _) => by omega)
      have O8 := O7.trans o8
      have l8 := L8.cell
      have r8 := R8.cell
      have r8f := R8.frozen
      have e8 := E8.cell
      have e8f := E8.frozen
  
      go_wp2_with fail
      refine hK.out _ _ (by trivial) (fun hHeld => ?_)
      clear hK K
      refine wpAnyH_ready (rs := [0]) (by kernel_rfl) (by simp) ?_
      refine AllReadyH.cons rfl (fun K hK => ?_) AllReadyH.nil
      go_simp
      refine hK.out _ _ (by trivial) (fun hHeld => ?_)
      clear hK K
      try simp only [Act.put, List.setIfInBounds_toArray, List.set_cons_zero, List.set_cons_succ, List.getElem_toArray, List.getElem_cons_zero]
      refine wpAnyH_ready (rs := [3]) (by kernel_rfl) (by simp) ?_
      refine AllReadyH.cons rfl (fun K hK => ?_) AllReadyH.nil
      go_simp
      refine hK.out _ _ (by trivial) (fun hHeld => ?_)
      clear hK K
      try simp only [Act.put, List.setIfInBounds_toArray, List.set_cons_zero, List.set_cons_succ, List.getElem_toArray, List.getElem_cons_zero, List.getElem_cons_succ]
      refine wpAnyH_ready (rs := [4]) (by kernel_rfl) (by simp) ?_
      refine AllReadyH.cons rfl (fun K hK => ?_) AllReadyH.nil
      go_simp
      refine hK.out _ _ (by trivial) (fun hHeld => ?_)
      clear hK K
      try simp only [Act.put, List.setIfInBounds_toArray, List.set_cons_zero, List.set_cons_succ, List.getElem_toArray, List.getElem_cons_zero, List.getElem_cons_succ]
      refine wpAnyH_done (by kernel_rfl) ?_ _
      go_wp2_with fail
      have HB := Below.trans UD (O8.below (fun _ hk => by rw [hk]; omega) (by omega))
      refine bodyPost_ret (v := .tuple #[.agg #[.string y.durable, .string y.pending, .int .i64 y.count], .agg #[.string rec.command, .string rec.reply]]) (by simp [results, Tryd.results36, go_sem, r8, e8]) rfl ⟨y, rec, rfl, hy, hrec, ?_⟩
      exact ((bel_set3 HB (Nat.le_refl _) _ _ _).setCell (p := ⟨w.heap.size + 1, 0, none⟩) (Nat.le_succ _) _).setCell (p := ⟨w.heap.size + 1, 1, none⟩) (Nat.le_succ _) _

  · have HA : LoopA wd w w1.heap.size ⟨⟨#[]⟩, ⟨#[]⟩, 0⟩ (((w3.setCell ⟨w1.heap.size, 0, none⟩ (.string ⟨#[]⟩)).setCell ⟨w1.heap.size, 1, none⟩ (.string ⟨#[]⟩)).setCell ⟨w1.heap.size, 2, none⟩ (.int .i64 0)) := LoopA.put (y := ⟨⟨#[]⟩, ⟨#[]⟩, 0⟩) (C3.more (by decide)) O3 L3 R3 E3 ⟨_, _, _, rfl⟩ (Nat.zero_le _) (by omega) (by omega)
    have C4 := C3.keep (only_set (only_set (only_set (Only.refl (fun b => b = w1.heap.size) w3) 0 (.string ⟨#[]⟩)) 1 (.string ⟨#[]⟩)) 2 (.int .i64 0)) (by omega) (fun b hb => by omega)
    have HA := Lib.hid HA
    have l3 := L3.cell
    have l3f := L3.frozen
    go_wp2_with fail
    clear l3 l3f L3 C3 R3 E3 O3
    generalize (((w3.setCell ⟨w1.heap.size, 0, none⟩ (.string ⟨#[]⟩)).setCell ⟨w1.heap.size, 1, none⟩ (.string ⟨#[]⟩)).setCell ⟨w1.heap.size, 2, none⟩ (.int .i64 0)) = w4 at *
    refine (pick_any 2 (w.heap.size + 2) _ w4 C4 (by omega) (by decide) (by decide)).mono ?_
    rintro e w5 ⟨r, rfl, hr, C5, o5⟩
    have hr1 : r ≤ 1 := by simp at hr; omega
    clear hr
    have HA5 : LoopA wd w w1.heap.size ⟨⟨#[]⟩, ⟨#[]⟩, 0⟩ w5 := by
      obtain ⟨_, _, O4, L4, R4, E4⟩ := HA.out
      exact ⟨Nat.zero_le _, C5.more (by decide), O4.trans o5, L4.only o5 (by omega), R4.only o5 (by omega), E4.only o5 (by omega)⟩
    clear HA C4 C5 o5
    go_wp2_with fail
    go_loopw [6] (fun v wr => ∃ (k : Nat) (y : Log), k ≤ 60 ∧ v = .int .i64 (k : Int) ∧ LoopA wd w w1.heap.size y wr) (fun v _ => (intOf v).toNat)
    case atStart => exact ⟨59 + r, ⟨⟨#[]⟩, ⟨#[]⟩, 0⟩, by omega, by go_num, HA5⟩
    case round =>
      obtain ⟨k, y, hk, rfl, hy1, C7, O7, L7, R7, E7⟩ := hrel
      have hy : totL 64000 y := Nat.le_trans hy1 (by decide)
      clear HA5
      by_cases hk0 : 0 < k
      · obtain ⟨k, rfl⟩ : ∃ j, k = j + 1 := ⟨k - 1, by omega⟩
        have l7 := L7.cell
        go_wp2_with fail
        refine (specAppendRecord_any y ⟨⟨#[120]⟩, ⟨#[]⟩⟩ _ (totL_upto hy1 (by decide)) (by unfold LogRecord.upto; decide)).mono ?_
        obtain ⟨z, hz⟩ : ∃ z, appL y ⟨⟨#[120]⟩, ⟨#[]⟩⟩ = z := ⟨_, rfl⟩
        have tz := totL_app (e := ⟨⟨#[120]⟩, ⟨#[]⟩⟩) hy1
        rw [hz] at tz ⊢
        clear hz
        rintro e w8 ⟨rfl, b8⟩
        have L8 := L7.next b8
        have l8 := L8.cell
        have l8f := L8.frozen
        have HA := Lib.hid (LoopA.put (C7.next b8) (O7.then_ b8) L8 (R7.next b8) (E7.next b8) ⟨_, _, _, rfl⟩ tz (by omega) (by omega))
        clear l7
        go_wp2_with fail
        go_roundw
        case rel => exact ⟨k, z.1, by omega, by go_num, HA.out⟩
        case measure => simp [intOf]
      · have hk1 : ¬ (0 : Int) < (k : Int) := by omega
        go_wp2_with fail
        replace C7 := C7.next ((Quiet.one wr).below _)
        replace O7 := O7.quiet (Quiet.one wr)
        replace R7 := R7.quiet (Quiet.one wr)
        replace E7 := E7.quiet (Quiet.one wr)
        replace L7 := L7.quiet (Quiet.one wr)
        have l7 := L7.cell
        refine wp_region_held_drew (S := fun w' => True) (by kernel_rfl) (by trivial) (fun hHeld => ?_)
        refine wpAnyH_take (i := 1) (v := ?_) rfl (by kernel_rfl) (by kernel_rfl) (by kernel_rfl) (fun _ _ _ h => h) (Or.inl ⟨by rfl, ?_⟩) (by assumption) ?_
        rotate_left 1
        · (intro w hSw; (try dsimp only at hSw); go_simp; try with_reducible rfl)
        simp only [Act.put, List.setIfInBounds_toArray, List.set_cons_zero, List.set_cons_succ, List.getElem_toArray, List.getElem_cons_zero, List.getElem_cons_succ]
        refine wpAnyH_ready (rs := [0, 2]) (by kernel_rfl) (by simp) ?_
        refine AllReadyH.cons rfl (fun K hK => ?_) ?_
        · go_simp
          refine hK.out _ _ (by trivial) (fun hHeld => ?_)
          clear hK K
          try simp only [Act.put, List.setIfInBounds_toArray, List.set_cons_zero, List.set_cons_succ, List.getElem_toArray, List.getElem_cons_zero]
          refine wpAnyH_ready (rs := [2]) (by kernel_rfl) (by simp) ?_
          refine AllReadyH.cons rfl (fun K hK => ?_) AllReadyH.nil
          go_simp
          refine (logRecord_any (w.heap.size + 2) _ _ C7 (by omega)).mono ?_
          rintro e w8 ⟨rec, rfl, hrec, C8, o8⟩
          have R8 := R7.only o8 (fun (h : _ = _) => by omega)
          have E8 := E7.only o8 (fun (h : _ = _) => by omega)
          have L8 := L7.only o8 (fun (h : _ = _) => by omega)
          have O8 := O7.trans o8
          have l8 := L8.cell
          have r8 := R8.cell
          have r8f := R8.frozen
          have e8 := E8.cell
          have e8f := E8.frozen
  
          go_wp2_with fail
          refine hK.out _ _ (by trivial) (fun hHeld => ?_)
          clear hK K
          refine wpAnyH_ready (rs := [3]) (by kernel_rfl) (by simp) ?_
          refine AllReadyH.cons rfl (fun K hK => ?_) AllReadyH.nil
          go_simp
          refine hK.out _ _ (by trivial) (fun hHeld => ?_)
          clear hK K
          try simp only [Act.put, List.setIfInBounds_toArray, List.set_cons_zero, List.set_cons_succ, List.getElem_toArray, List.getElem_cons_zero, List.getElem_cons_succ]
          refine wpAnyH_ready (rs := [4]) (by kernel_rfl) (by simp) ?_
          refine AllReadyH.cons rfl (fun K hK => ?_) AllReadyH.nil
          go_simp
          refine hK.out _ _ (by trivial) (fun hHeld => ?_)
          clear hK K
          try simp only [Act.put, List.setIfInBounds_toArray, List.set_cons_zero, List.set_cons_succ, List.getElem_toArray, List.getElem_cons_zero, List.getElem_cons_succ]
          refine wpAnyH_done (by kernel_rfl) ?_ _
          go_wp2_with fail
          have HB := Below.trans UD (O8.below (fun _ hk => by rw [hk]; omega) (by omega))
          refine bodyPost_ret (v := .tuple #[.agg #[.string y.durable, .string y.pending, .int .i64 y.count], .agg #[.string rec.command, .string rec.reply]]) (by simp [results, Tryd.results36, go_sem, r8, e8]) rfl ⟨y, rec, rfl, hy, hrec, ?_⟩
          exact ((bel_set3 HB (Nat.le_refl _) _ _ _).setCell (p := ⟨w.heap.size + 1, 0, none⟩) (Nat.le_succ _) _).setCell (p := ⟨w.heap.size + 1, 1, none⟩) (Nat.le_succ _) _
        refine AllReadyH.cons rfl (fun K hK => ?_) AllReadyH.nil
        · go_simp
          refine (logRecord_any (w.heap.size + 2) _ _ C7 (by omega)).mono ?_
          rintro e w8 ⟨rec, rfl, hrec, C8, o8⟩
          have R8 := R7.only o8 (fun (h : _ = _) => by omega)
          have E8 := E7.only o8 (fun (h : _ = _) => by omega)
          have L8 := L7.only o8 (fun (h : _ = _) => by omega)
          have O8 := O7.trans o8
          have l8 := L8.cell
          have r8 := R8.cell
          have r8f := R8.frozen
          have e8 := E8.cell
          have e8f := E8.frozen
  
          go_wp2_with fail
          refine hK.out _ _ (by trivial) (fun hHeld => ?_)
          clear hK K
          refine wpAnyH_ready (rs := [0]) (by kernel_rfl) (by simp) ?_
          refine AllReadyH.cons rfl (fun K hK => ?_) AllReadyH.nil
          go_simp
          refine hK.out _ _ (by trivial) (fun hHeld => ?_)
          clear hK K
          try simp only [Act.put, List.setIfInBounds_toArray, List.set_cons_zero, List.set_cons_succ, List.getElem_toArray, List.getElem_cons_zero]
          refine wpAnyH_ready (rs := [3]) (by kernel_rfl) (by simp) ?_
          refine AllReadyH.cons rfl (fun K hK => ?_) AllReadyH.nil
          go_simp
          refine hK.out _ _ (by trivial) (fun hHeld => ?_)
          clear hK K
          try simp only [Act.put, List.setIfInBounds_toArray, List.set_cons_zero, List.set_cons_succ, List.getElem_toArray, List.getElem_cons_zero, List.getElem_cons_succ]
          refine wpAnyH_ready (rs := [4]) (by kernel_rfl) (by simp) ?_
          refine AllReadyH.cons rfl (fun K hK => ?_) AllReadyH.nil
          go_simp
          refine hK.out _ _ (by trivial) (fun hHeld => ?_)
          clear hK K
          try simp only [Act.put, List.setIfInBounds_toArray, List.set_cons_zero, List.set_cons_succ, List.getElem_toArray, List.getElem_cons_zero, List.getElem_cons_succ]
          refine wpAnyH_done (by kernel_rfl) ?_ _
          go_wp2_with fail
          have HB := Below.trans UD (O8.below (fun _ hk => by rw [hk]; omega) (by omega))
          refine bodyPost_ret (v := .tuple #[.agg #[.string y.durable, .string y.pending, .int .i64 y.count], .agg #[.string rec.command, .string rec.reply]]) (by simp [results, Tryd.results36, go_sem, r8, e8]) rfl ⟨y, rec, rfl, hy, hrec, ?_⟩
          exact ((bel_set3 HB (Nat.le_refl _) _ _ _).setCell (p := ⟨w.heap.size + 1, 0, none⟩) (Nat.le_succ _) _).setCell (p := ⟨w.heap.size + 1, 1, none⟩) (Nat.le_succ _) _


end Go.Proofs.YtjangfhelagjnaaDoor
