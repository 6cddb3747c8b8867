/- The draws of whole logs. -/
import Derived.Test.YtjangfhelagjnaaDoorCurL
namespace Go.Proofs.YtjangfhelagjnaaDoor
open Go.RowKit

def totL (m : Nat) (x : Log) : Prop := x.durable.size + x.pending.size ≤ m
theorem totL_upto {m : Nat} {x : Log} (h : totL m x) (hm : m ≤ 1048576) : x.upto 1048576 := by unfold totL at h; unfold Log.upto; omega
theorem totL_app {x : Log} {e : LogRecord} (h : totL 31000 x) : totL 31000 (appL x e).1 := by
  unfold appL
  split
  · rename_i hv
    simp only [Bool.and_eq_true] at hv
    obtain ⟨h1, h2, h3⟩ := validL_facts hv.1
    split
    · exact h
    · rename_i hc
      have h4 := line_size (k := x.count.toNat) hv.2 (by omega)
      show x.durable.size + (x.pending ++ lineT x.count.toNat e).size ≤ 31000
      rw [ByteArray.size_append]
      omega
  · exact h
theorem totL_sync {x : Log} (h : totL 31000 x) : totL 31000 (syncL x).1 := by
  unfold syncL
  split
  · show (x.durable ++ x.pending).size + 0 ≤ 31000
    rw [ByteArray.size_append]
    exact h
  · exact Nat.zero_le _
def DrawnL (w : World) (g n m : Nat) (e : Ending) (w' : World) : Prop := ∃ x : Log, e = .returned (.agg #[.string x.durable, .string x.pending, .int .i64 x.count]) ∧ totL m x ∧ Cur w' g n ∧ Only (fun b => b = g) w w'
def LoopL (w : World) (g n gl gr : Nat) (zl : List Value) (x : Log) (wr : World) : Prop := totL 31000 x ∧ Cur wr g n ∧ Only (fun b => b = g) w wr ∧ Blk wr gl 31 [.string x.durable, .string x.pending, .int .i64 x.count] ∧ Blk wr gr 31 zl
/-- A log put into its box. -/
theorem LoopL.put {w w1 : World} {g n gl gr : Nat} {zl : List Value} {x y : Log} (hc : Cur w1 g n) (ho : Only (fun b => b = g) w w1) (hl : Blk w1 gl 31 [.string x.durable, .string x.pending, .int .i64 x.count]) (hr : Blk w1 gr 31 zl) (hy : totL 31000 y) (h1 : g < gl) (h2 : w.heap.size ≤ gl) (h3 : gr ≠ gl) :
    LoopL w g n gl gr zl y (((w1.setCell ⟨gl, 0, none⟩ (.string y.durable)).setCell ⟨gl, 1, none⟩ (.string y.pending)).setCell ⟨gl, 2, none⟩ (.int .i64 y.count)) := by
  have o := only_set (only_set (only_set (Only.refl (fun b => b = gl) w1) 0 (.string y.durable)) 1 (.string y.pending)) 2 (.int .i64 y.count)
  exact ⟨hy, hc.keep o (by omega) (fun b hb => by omega), only_new (only_new (only_new ho (p := ⟨gl, 0, none⟩) h2 _) (p := ⟨gl, 1, none⟩) h2 _) (p := ⟨gl, 2, none⟩) h2 _,
    ((hl.set_ 0 (.string y.durable)).set_ 1 (.string y.pending)).set_ 2 (.int .i64 y.count), hr.only o h3⟩

set_option maxRecDepth 100000 in
set_option maxHeartbeats 4000000 in
theorem log_any (g n : Nat) (w : World) (h : Cur w g n) (hn : n ≤ 800000) :
    Calls Tryd.prog 59 #[.pointer (some ⟨g, 0, none⟩)] w (DrawnL w g (n + 62) 31000) := by
  have hg := h.lt
  have U0 : Below w.heap.size w ((w.alloc (.cells #[.string ⟨#[]⟩, .string ⟨#[]⟩, .int .i64 0] 31)).alloc (.cells #[.string ⟨#[]⟩, .string ⟨#[]⟩, .int .i64 0] 31)) := ((Below.refl _ _).alloc (Nat.le_refl _) _).alloc (by simp) _
  have R0 : Blk ((w.alloc (.cells #[.string ⟨#[]⟩, .string ⟨#[]⟩, .int .i64 0] 31)).alloc (.cells #[.string ⟨#[]⟩, .string ⟨#[]⟩, .int .i64 0] 31)) w.heap.size 31 [.string ⟨#[]⟩, .string ⟨#[]⟩, .int .i64 0] := (Blk.at_ rfl).alloc _
  have L0 : Blk ((w.alloc (.cells #[.string ⟨#[]⟩, .string ⟨#[]⟩, .int .i64 0] 31)).alloc (.cells #[.string ⟨#[]⟩, .string ⟨#[]⟩, .int .i64 0] 31)) (w.heap.size + 1) 31 [.string ⟨#[]⟩, .string ⟨#[]⟩, .int .i64 0] := Blk.at_ (by simp)
  go_enter Tryd.func59, Tryd.ntmps59
  go_wp2_with fail
  refine (pick_any 7 g n _ (h.next U0) (by omega) (by decide) (by decide)).mono ?_
  rintro e w0 ⟨r, rfl, hr, C0, o0⟩
  have hr6 : r ≤ 6 := by simp at hr; omega
  clear hr
  have HL0 : LoopL w g (n + 2) (w.heap.size + 1) w.heap.size [.string ⟨#[]⟩, .string ⟨#[]⟩, .int .i64 0] ⟨⟨#[]⟩, ⟨#[]⟩, 0⟩ w0 := ⟨Nat.zero_le _, C0, (Only.of_below U0).trans o0, L0.only o0 (fun (h : _ = _) => by omega), R0.only o0 (fun (h : _ = _) => by omega)⟩
  clear U0 R0 L0 C0 o0
  go_wp2_with fail
  go_loopw [4] (fun v wr => ∃ (k : Nat) (x : Log), k ≤ 6 ∧ v = .int .i64 (k : Int) ∧ LoopL w g (n + 2 + (6 - k) * 10) (w.heap.size + 1) w.heap.size [.string ⟨#[]⟩, .string ⟨#[]⟩, .int .i64 0] x wr) (fun v _ => (intOf v).toNat)
  case atStart => exact ⟨r, ⟨⟨#[]⟩, ⟨#[]⟩, 0⟩, hr6, rfl, HL0.1, HL0.2.1.more (by omega), HL0.2.2⟩
  case round =>
    obtain ⟨k, x, hk, rfl, hx, C1, O1, L1, R1⟩ := hrel
    have lt1 := L1.lt
    by_cases hk0 : 0 < k
    · obtain ⟨k, rfl⟩ : ∃ j, k = j + 1 := ⟨k - 1, by omega⟩
      go_wp2_with fail
      replace C1 := C1.next ((Quiet.one wr).below _)
      replace O1 := O1.quiet (Quiet.one wr)
      replace L1 := L1.quiet (Quiet.one wr)
      replace R1 := R1.quiet (Quiet.one wr)
      have l1 := L1.cell
      refine wp_region_held_drew (S := fun w' => True) (by kernel_rfl) (by trivial) (fun hHeld => ?_)
      refine wpAnyH_take (i := 1) (v := ?_) rfl (by kernel_rfl) (by kernel_rfl) (by kernel_rfl) (fun _ _ _ h => h) (Or.inl ⟨by rfl, ?_⟩) (by assumption) ?_
      rotate_left 1
      · (intro w hSw; (try dsimp only at hSw); go_simp; try with_reducible rfl)
      simp only [Act.put, List.setIfInBounds_toArray, List.set_cons_zero, List.set_cons_succ, List.getElem_toArray, List.getElem_cons_zero, List.getElem_cons_succ]
      refine wpAnyH_ready (rs := [0, 2]) (by kernel_rfl) (by simp) ?_
      refine AllReadyH.cons rfl (fun K hK => ?_) ?_
      · go_simp
        refine hK.out _ _ (by trivial) (fun hHeld => ?_)
        clear hK K
        try simp only [Act.put, List.setIfInBounds_toArray, List.set_cons_zero, List.set_cons_succ, List.getElem_toArray, List.getElem_cons_zero]
        refine wpAnyH_ready (rs := [2]) (by kernel_rfl) (by simp) ?_
        refine AllReadyH.cons rfl (fun K hK => ?_) AllReadyH.nil
        go_simp
        refine (logRecord_any g _ _ C1 (by omega)).mono ?_
        rintro e w2 ⟨rec, rfl, hrec, c2, o2⟩
        have L2 := L1.only o2 (fun (h : _ = _) => by omega)
        have R2 := R1.only o2 (fun (h : _ = _) => by omega)
        have O2 := O1.trans o2
        have l2 := L2.cell
  
        go_wp2_with fail
        refine hK.out _ _ (by trivial) (fun hHeld => ?_)
        clear hK K
        refine wpAnyH_ready (rs := [3]) (by kernel_rfl) (by simp) ?_
        refine AllReadyH.cons rfl (fun K hK => ?_) AllReadyH.nil
        go_simp
        refine (specAppendRecord_any x rec _ (totL_upto hx (by decide)) (LogRecord.upto_mono hrec (by decide))).mono ?_
        obtain ⟨y, hy⟩ : ∃ y, appL x rec = y := ⟨_, rfl⟩
        have ty := totL_app (e := rec) hx
        rw [hy] at ty ⊢
        clear hy
        rintro e w3 ⟨rfl, b3⟩
        have L3 := L2.next b3
        have l3 := L3.cell
        have l3f := L3.frozen
        have HL := Lib.hid (LoopL.put (zl := [.string ⟨#[]⟩, .string ⟨#[]⟩, .int .i64 0]) (c2.next b3) (O2.then_ b3) L3 (R2.next b3) ty (by omega) (by omega) (by omega))
        clear l1 l2
  
        go_wp2_with fail
        refine hK.out _ _ (by trivial) (fun hHeld => ?_)
        clear hK K
        refine wpAnyH_take (i := 4) (v := ?_) rfl (by kernel_rfl) (by kernel_rfl) (by kernel_rfl) (fun _ _ _ h => h) (Or.inl ⟨by rfl, ?_⟩) (by assumption) ?_
        rotate_left 1
        · (intro w hSw; (try dsimp only at hSw); go_simp; try with_reducible rfl)
        simp only [Act.put, List.setIfInBounds_toArray, List.set_cons_zero, List.set_cons_succ, List.getElem_toArray, List.getElem_cons_zero, List.getElem_cons_succ]
        refine wpAnyH_take (i := 5) (v := ?_) rfl (by kernel_rfl) (by kernel_rfl) (by kernel_rfl) (fun _ _ _ h => h) (Or.inl ⟨by rfl, ?_⟩) (by assumption) ?_
        rotate_left 1
        · (intro w hSw; (try dsimp only at hSw); go_simp; try with_reducible rfl)
        simp only [Act.put, List.setIfInBounds_toArray, List.set_cons_zero, List.set_cons_succ, List.getElem_toArray, List.getElem_cons_zero, List.getElem_cons_succ]
        refine wpAnyH_take (i := 6) (v := ?_) rfl (by kernel_rfl) (by kernel_rfl) (by kernel_rfl) (fun _ _ _ h => h) (Or.inl ⟨by rfl, ?_⟩) (by assumption) ?_
        rotate_left 1
        · (intro w hSw; (try dsimp only at hSw); go_simp; try with_reducible rfl)
        simp only [Act.put, List.setIfInBounds_toArray, List.set_cons_zero, List.set_cons_succ, List.getElem_toArray, List.getElem_cons_zero, List.getElem_cons_succ]
        refine wpAnyH_ready (rs := [7]) (by kernel_rfl) (by simp) ?_
        refine AllReadyH.cons rfl (fun K hK => ?_) AllReadyH.nil
        go_simp
        refine hK.out _ _ (by trivial) (fun hHeld => ?_)
        clear hK K
        try simp only [Act.put, List.setIfInBounds_toArray, List.set_cons_zero, List.set_cons_succ, List.getElem_toArray, List.getElem_cons_zero, List.getElem_cons_succ]
        refine wpAnyH_done (by kernel_rfl) ?_ _
        go_wp2_with fail
        obtain ⟨hx4, C4, O4, L4, R4⟩ := HL.out
        clear HL l3 l3f L3
        generalize ((w3.setCell ⟨w.heap.size + 1, 0, none⟩ (.string y.1.durable)).setCell ⟨w.heap.size + 1, 1, none⟩ (.string y.1.pending)).setCell ⟨w.heap.size + 1, 2, none⟩ (.int .i64 y.1.count) = w4 at *
        refine (one_any 4 g _ w4 C4 (by omega) (by decide) (by decide)).mono ?_
        rintro e w5 ⟨bb, rfl, C5, o5⟩
        have O5 := O4.trans o5
        have L5 := L4.only o5 (fun (h : _ = _) => by omega)
        have R5 := R4.only o5 (fun (h : _ = _) => by omega)
        have l5 := L5.cell
        have l5f := L5.frozen
        cases bb
        · go_wp2_with fail
          go_roundw
          case rel => exact ⟨k, y.1, by omega, by go_num, hx4, C5.more (by omega), O5, L5, R5⟩
          case measure => simp [intOf]
        · go_wp2_with fail
          refine (specSyncLog_any y.1 _ (totL_upto hx4 (by decide))).mono ?_
          obtain ⟨z, hz⟩ : ∃ z, syncL y.1 = z := ⟨_, rfl⟩
          have tz := totL_sync hx4
          rw [hz] at tz ⊢
          clear hz
          rintro e w6 ⟨rfl, b6⟩
          have L6 := L5.next b6
          have l6 := L6.cell
          have l6f := L6.frozen
          have HL := Lib.hid (LoopL.put (zl := [.string ⟨#[]⟩, .string ⟨#[]⟩, .int .i64 0]) (C5.next b6) (O5.then_ b6) L6 (R5.next b6) tz (by omega) (by omega) (by omega))
          clear l5 l5f
          go_wp2_with fail
          go_roundw
          case rel => exact ⟨k, z.1, by omega, by go_num, HL.out.1, HL.out.2.1.more (by omega), HL.out.2.2⟩
          case measure => simp [intOf]
      refine AllReadyH.cons rfl (fun K hK => ?_) AllReadyH.nil
      · go_simp
        refine (logRecord_any g _ _ C1 (by omega)).mono ?_
        rintro e w2 ⟨rec, rfl, hrec, c2, o2⟩
        have L2 := L1.only o2 (fun (h : _ = _) => by omega)
        have R2 := R1.only o2 (fun (h : _ = _) => by omega)
        have O2 := O1.trans o2
        have l2 := L2.cell
  
        go_wp2_with fail
        refine hK.out _ _ (by trivial) (fun hHeld => ?_)
        clear hK K
        refine wpAnyH_ready (rs := [0]) (by kernel_rfl) (by simp) ?_
        refine AllReadyH.cons rfl (fun K hK => ?_) AllReadyH.nil
        go_simp
        refine hK.out _ _ (by trivial) (fun hHeld => ?_)
        clear hK K
        try simp only [Act.put, List.setIfInBounds_toArray, List.set_cons_zero, List.set_cons_succ, List.getElem_toArray, List.getElem_cons_zero]
        refine wpAnyH_ready (rs := [3]) (by kernel_rfl) (by simp) ?_
        refine AllReadyH.cons rfl (fun K hK => ?_) AllReadyH.nil
        go_simp
        refine (specAppendRecord_any x rec _ (totL_upto hx (by decide)) (LogRecord.upto_mono hrec (by decide))).mono ?_
        obtain ⟨y, hy⟩ : ∃ y, appL x rec = y := ⟨_, rfl⟩
        have ty := totL_app (e := rec) hx
        rw [hy] at ty ⊢
        clear hy
        rintro e w3 ⟨rfl, b3⟩
        have L3 := L2.next b3
        have l3 := L3.cell
        have l3f := L3.frozen
        have HL := Lib.hid (LoopL.put (zl := [.string ⟨#[]⟩, .string ⟨#[]⟩, .int .i64 0]) (c2.next b3) (O2.then_ b3) L3 (R2.next b3) ty (by omega) (by omega) (by omega))
        clear l1 l2
  
        go_wp2_with fail
        refine hK.out _ _ (by trivial) (fun hHeld => ?_)
        clear hK K
        refine wpAnyH_take (i := 4) (v := ?_) rfl (by kernel_rfl) (by kernel_rfl) (by kernel_rfl) (fun _ _ _ h => h) (Or.inl ⟨by rfl, ?_⟩) (by assumption) ?_
        rotate_left 1
        · (intro w hSw; (try dsimp only at hSw); go_simp; try with_reducible rfl)
        simp only [Act.put, List.setIfInBounds_toArray, List.set_cons_zero, List.set_cons_succ, List.getElem_toArray, List.getElem_cons_zero, List.getElem_cons_succ]
        refine wpAnyH_take (i := 5) (v := ?_) rfl (by kernel_rfl) (by kernel_rfl) (by kernel_rfl) (fun _ _ _ h => h) (Or.inl ⟨by rfl, ?_⟩) (by assumption) ?_
        rotate_left 1
        · (intro w hSw; (try dsimp only at hSw); go_simp; try with_reducible rfl)
        simp only [Act.put, List.setIfInBounds_toArray, List.set_cons_zero, List.set_cons_succ, List.getElem_toArray, List.getElem_cons_zero, List.getElem_cons_succ]
        refine wpAnyH_take (i := 6) (v := ?_) rfl (by kernel_rfl) (by kernel_rfl) (by kernel_rfl) (fun _ _ _ h => h) (Or.inl ⟨by rfl, ?_⟩) (by assumption) ?_
        rotate_left 1
        · (intro w hSw; (try dsimp only at hSw); go_simp; try with_reducible rfl)
        simp only [Act.put, List.setIfInBounds_toArray, List.set_cons_zero, List.set_cons_succ, List.getElem_toArray, List.getElem_cons_zero, List.getElem_cons_succ]
        refine wpAnyH_ready (rs := [7]) (by kernel_rfl) (by simp) ?_
        refine AllReadyH.cons rfl (fun K hK => ?_) AllReadyH.nil
        go_simp
        refine hK.out _ _ (by trivial) (fun hHeld => ?_)
        clear hK K
        try simp only [Act.put, List.setIfInBounds_toArray, List.set_cons_zero, List.set_cons_succ, List.getElem_toArray, List.getElem_cons_zero, List.getElem_cons_succ]
        refine wpAnyH_done (by kernel_rfl) ?_ _
        go_wp2_with fail
        obtain ⟨hx4, C4, O4, L4, R4⟩ := HL.out
        clear HL l3 l3f L3
        generalize ((w3.setCell ⟨w.heap.size + 1, 0, none⟩ (.string y.1.durable)).setCell ⟨w.heap.size + 1, 1, none⟩ (.string y.1.pending)).setCell ⟨w.heap.size + 1, 2, none⟩ (.int .i64 y.1.count) = w4 at *
        refine (one_any 4 g _ w4 C4 (by omega) (by decide) (by decide)).mono ?_
        rintro e w5 ⟨bb, rfl, C5, o5⟩
        have O5 := O4.trans o5
        have L5 := L4.only o5 (fun (h : _ = _) => by omega)
        have R5 := R4.only o5 (fun (h : _ = _) => by omega)
        have l5 := L5.cell
        have l5f := L5.frozen
        cases bb
        · go_wp2_with fail
          go_roundw
          case rel => exact ⟨k, y.1, by omega, by go_num, hx4, C5.more (by omega), O5, L5, R5⟩
          case measure => simp [intOf]
        · go_wp2_with fail
          refine (specSyncLog_any y.1 _ (totL_upto hx4 (by decide))).mono ?_
          obtain ⟨z, hz⟩ : ∃ z, syncL y.1 = z := ⟨_, rfl⟩
          have tz := totL_sync hx4
          rw [hz] at tz ⊢
          clear hz
          rintro e w6 ⟨rfl, b6⟩
          have L6 := L5.next b6
          have l6 := L6.cell
          have l6f := L6.frozen
          have HL := Lib.hid (LoopL.put (zl := [.string ⟨#[]⟩, .string ⟨#[]⟩, .int .i64 0]) (C5.next b6) (O5.then_ b6) L6 (R5.next b6) tz (by omega) (by omega) (by omega))
          clear l5 l5f
          go_wp2_with fail
          go_roundw
          case rel => exact ⟨k, z.1, by omega, by go_num, HL.out.1, HL.out.2.1.more (by omega), HL.out.2.2⟩
          case measure => simp [intOf]

    · have hk1 : ¬ (0 : Int) < (k : Int) := by omega
      have l1 := L1.cell
      have r1 := R1.cell
      have r1f := R1.frozen
      go_wp2_with fail
      refine bodyPost_ret (v := .agg #[.string x.durable, .string x.pending, .int .i64 x.count]) (by simp [results, Tryd.results59, go_sem, r1]) rfl ⟨x, rfl, hx, ?_, ?_⟩
      · exact (C1.keep (S := fun b => b = w.heap.size) (only_set (only_set (only_set (Only.refl _ _) 0 _) 1 _) 2 _) (by omega) (fun b hb => by omega)).more (by omega)
      · exact only_new (only_new (only_new O1 (p := ⟨w.heap.size, 0, none⟩) (Nat.le_refl _) _) (p := ⟨w.heap.size, 1, none⟩) (Nat.le_refl _) _) (p := ⟨w.heap.size, 2, none⟩) (Nat.le_refl _) _

end Go.Proofs.YtjangfhelagjnaaDoor
