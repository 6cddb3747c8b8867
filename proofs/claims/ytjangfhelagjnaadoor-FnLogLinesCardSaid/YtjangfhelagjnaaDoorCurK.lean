/- What the law of log lines draws. -/
import Derived.Test.YtjangfhelagjnaaDoorCurI
import Derived.Laws.OwnMore
namespace Go.Proofs.YtjangfhelagjnaaDoor
open Go.RowKit

set_option maxRecDepth 100000 in
set_option maxHeartbeats 1000000 in
/-- The encoding of a record that need not be valid. -/
theorem l27Line_gen (k : Nat) (e : LogRecord) (w : World) (hk : k < 100) (he : e.upto 20) :
    Calls Tryd.prog 44 #[.int .i64 (k : Int), .agg #[.string e.command, .string e.reply]] w fun x w' => x = .returned (.string (lineT k e)) ∧ Below w.heap.size w w' := by
  obtain ⟨h2, h3⟩ := he
  have hn := numT_size k 2 (by omega) (by decide)
  have hs := sealT_size (bodyT k e)
  have hb : (bodyT k e).size ≤ 364 := by
    unfold bodyT
    simp only [ByteArray.size_append]
    have z1 : (⟨#[32]⟩ : ByteArray).size = 1 := rfl
    have z2 : (⟨#[64]⟩ : ByteArray).size = 1 := rfl
    omega
  have HB := Lib.hid hb
  have HL := Lib.hid (show lineT k e = sealT (bodyT k e) ++ ⟨#[10]⟩ from rfl)
  have fe : ¬ 9223372036854775807 < (sealT (bodyT k e)).size + 1 := by omega
  go_enter Tryd.func44, Tryd.ntmps44
  go_wp2_with fail
  have K1 : Below w.heap.size w (w.alloc (.cells #[.string e.command, .string e.reply] 27)).drew := bel_then ((Below.refl _ _).alloc (Nat.le_refl _) _) ((Quiet.one _).below _)
  have B1 : Blk (w.alloc (.cells #[.string e.command, .string e.reply] 27)).drew w.heap.size 27 [.string e.command, .string e.reply] := (Blk.at_ rfl : Blk (w.alloc (.cells #[.string e.command, .string e.reply] 27)) w.heap.size 27 [.string e.command, .string e.reply])
  have c1 := B1.cell
  have f1 : ¬ 9223372036854775807 < (numT k).size + 1 := by omega
  have f2 : ¬ 9223372036854775807 < (numT k).size + 1 + e.command.size := by omega
  have f3 : ¬ 9223372036854775807 < (numT k).size + 1 + e.command.size + 1 := by omega
  have f4 : ¬ 9223372036854775807 < (numT k).size + 1 + e.command.size + 1 + e.reply.size := by omega
  refine wp_region_held_drew (S := fun w' => w'.cell? ⟨w.heap.size, 0, none⟩ = some (.string e.command) ∧ w'.cell? ⟨w.heap.size, 1, none⟩ = some (.string e.reply)) (by kernel_rfl) (by (try dsimp only); go_keep) (fun hHeld => ?_)
  refine wpAnyH_take (i := 0) (v := ?_) rfl (by kernel_rfl) (by kernel_rfl) (by kernel_rfl) (fun _ _ _ h => h) (Or.inl ⟨by rfl, ?_⟩) (by assumption) ?_
  rotate_left 1
  · (intro w hSw; (try dsimp only at hSw); go_simp; try with_reducible rfl)
  simp only [Act.put, List.setIfInBounds_toArray, List.set_cons_zero, List.set_cons_succ, List.getElem_toArray, List.getElem_cons_zero]
  refine wpAnyH_take (i := 3) (v := ?_) rfl (by kernel_rfl) (by kernel_rfl) (by kernel_rfl) (fun _ _ _ h => h) (Or.inl ⟨by rfl, ?_⟩) (by assumption) ?_
  rotate_left 1
  · (intro w hSw; (try dsimp only at hSw); go_simp; try with_reducible rfl)
  simp only [Act.put, List.setIfInBounds_toArray, List.set_cons_zero, List.set_cons_succ, List.getElem_toArray, List.getElem_cons_zero, List.getElem_cons_succ]
  refine wpAnyH_take (i := 4) (v := ?_) rfl (by kernel_rfl) (by kernel_rfl) (by kernel_rfl) (fun _ _ _ h => h) (Or.inl ⟨by rfl, ?_⟩) (by assumption) ?_
  rotate_left 1
  · (intro w hSw; (try dsimp only at hSw); go_simp; try with_reducible rfl)
  simp only [Act.put, List.setIfInBounds_toArray, List.set_cons_zero, List.set_cons_succ, List.getElem_toArray, List.getElem_cons_zero, List.getElem_cons_succ]
  refine wpAnyH_take (i := 7) (v := ?_) rfl (by kernel_rfl) (by kernel_rfl) (by kernel_rfl) (fun _ _ _ h => h) (Or.inl ⟨by rfl, ?_⟩) (by assumption) ?_
  rotate_left 1
  · (intro w hSw; (try dsimp only at hSw); go_simp; try with_reducible rfl)
  simp only [Act.put, List.setIfInBounds_toArray, List.set_cons_zero, List.set_cons_succ, List.getElem_toArray, List.getElem_cons_zero, List.getElem_cons_succ]
  refine wpAnyH_take (i := 8) (v := ?_) rfl (by kernel_rfl) (by kernel_rfl) (by kernel_rfl) (fun _ _ _ h => h) (Or.inl ⟨by rfl, ?_⟩) (by assumption) ?_
  rotate_left 1
  · (intro w hSw; (try dsimp only at hSw); go_simp; try with_reducible rfl)
  simp only [Act.put, List.setIfInBounds_toArray, List.set_cons_zero, List.set_cons_succ, List.getElem_toArray, List.getElem_cons_zero, List.getElem_cons_succ]
  refine wpAnyH_ready (rs := [1]) (by kernel_rfl) (by simp) ?_
  refine AllReadyH.cons rfl (fun K hK => ?_) AllReadyH.nil
  go_simp
  refine (l1Num_any k _ (by omega)).mono ?_
  rintro e w2 ⟨rfl, q2⟩
  have b2 := q2.below w.heap.size
  have K2 := K1.trans b2
  have B2 := B1.quiet q2
  have c2 := B2.cell
  clear c1

  go_wp2_with fail
  refine hK.out _ _ (by (try dsimp only); go_keep) (fun hHeld => ?_)
  clear hK K
  refine wpAnyH_take (i := 2) (v := ?_) rfl (by kernel_rfl) (by kernel_rfl) (by kernel_rfl) (fun _ _ _ h => h) (Or.inl ⟨by rfl, ?_⟩) (by assumption) ?_
  rotate_left 1
  · (intro w hSw; (try dsimp only at hSw); go_simp; try with_reducible rfl)
  simp only [Act.put, List.setIfInBounds_toArray, List.set_cons_zero, List.set_cons_succ, List.getElem_toArray, List.getElem_cons_zero, List.getElem_cons_succ]
  refine wpAnyH_take (i := 5) (v := ?_) rfl (by kernel_rfl) (by kernel_rfl) (by kernel_rfl) (fun _ _ _ h => h) (Or.inl ⟨by rfl, ?_⟩) (by assumption) ?_
  rotate_left 1
  · (intro w hSw; (try dsimp only at hSw); go_simp; try with_reducible rfl)
  simp only [Act.put, List.setIfInBounds_toArray, List.set_cons_zero, List.set_cons_succ, List.getElem_toArray, List.getElem_cons_zero, List.getElem_cons_succ]
  refine wpAnyH_take (i := 6) (v := ?_) rfl (by kernel_rfl) (by kernel_rfl) (by kernel_rfl) (fun _ _ _ h => h) (Or.inl ⟨by rfl, ?_⟩) (by assumption) ?_
  rotate_left 1
  · (intro w hSw; (try dsimp only at hSw); go_simp; try with_reducible rfl)
  simp only [Act.put, List.setIfInBounds_toArray, List.set_cons_zero, List.set_cons_succ, List.getElem_toArray, List.getElem_cons_zero, List.getElem_cons_succ]
  refine wpAnyH_take (i := 9) (v := ?_) rfl (by kernel_rfl) (by kernel_rfl) (by kernel_rfl) (fun _ _ _ h => h) (Or.inl ⟨by rfl, ?_⟩) (by assumption) ?_
  rotate_left 1
  · (intro w hSw; (try dsimp only at hSw); go_simp; try with_reducible rfl)
  simp only [Act.put, List.setIfInBounds_toArray, List.set_cons_zero, List.set_cons_succ, List.getElem_toArray, List.getElem_cons_zero, List.getElem_cons_succ]
  refine wpAnyH_ready (rs := [10]) (by kernel_rfl) (by simp) ?_
  refine AllReadyH.cons rfl (fun K hK => ?_) AllReadyH.nil
  go_simp
  refine (l1Seal_any _ _ ?_).mono ?_
  · exact Nat.le_trans (HB.out) (by decide)
  rw [show sealT (numT k ++ ⟨#[32]⟩ ++ e.command ++ ⟨#[64]⟩ ++ e.reply) = sealT (bodyT k e) from rfl]
  rintro e w3 ⟨rfl, q3⟩
  have b3 := q3.below w.heap.size
  have K3 := K2.trans b3
  have B3 := B2.quiet q3
  have c3 := B3.cell
  clear c2

  go_wp2_with fail
  refine hK.out _ _ (by (try dsimp only); go_keep) (fun hHeld => ?_)
  clear hK K
  refine wpAnyH_take (i := 11) (v := ?_) rfl (by kernel_rfl) (by kernel_rfl) (by kernel_rfl) (fun _ _ _ h => h) (Or.inl ⟨by rfl, ?_⟩) (by assumption) ?_
  rotate_left 1
  · (intro w hSw; (try dsimp only at hSw); go_simp; try with_reducible rfl)
  simp only [Act.put, List.setIfInBounds_toArray, List.set_cons_zero, List.set_cons_succ, List.getElem_toArray, List.getElem_cons_zero, List.getElem_cons_succ]
  refine wpAnyH_take (i := 12) (v := ?_) rfl (by kernel_rfl) (by kernel_rfl) (by kernel_rfl) (fun _ _ _ h => h) (Or.inl ⟨by rfl, ?_⟩) (by assumption) ?_
  rotate_left 1
  · (intro w hSw; (try dsimp only at hSw); go_simp; try with_reducible rfl)
  simp only [Act.put, List.setIfInBounds_toArray, List.set_cons_zero, List.set_cons_succ, List.getElem_toArray, List.getElem_cons_zero, List.getElem_cons_succ]
  refine wpAnyH_done (by kernel_rfl) ?_ _
  go_wp2_with fail
  go_ret
  exact ⟨by rw [HL.out]; rfl, K3⟩
theorem line_gen_size (k : Nat) (e : LogRecord) (hk : k < 100) (he : e.upto 20) : (lineT k e).size ≤ 400 := by
  obtain ⟨h2, h3⟩ := he
  have hn := numT_size k 2 (by omega) (by decide)
  have hs := sealT_size (bodyT k e)
  have hb : (bodyT k e).size ≤ 364 := by
    unfold bodyT
    simp only [ByteArray.size_append]
    have z1 : (⟨#[32]⟩ : ByteArray).size = 1 := rfl
    have z2 : (⟨#[64]⟩ : ByteArray).size = 1 := rfl
    omega
  unfold lineT
  rw [ByteArray.size_append]
  have z1 : (⟨#[10]⟩ : ByteArray).size = 1 := rfl
  omega
theorem info_u8 : (Tryd.prog.info? 5).map (fun i => (i.zero, i.size, i.bytes)) = some (some (.int .u8 0), 1, 1) := by kernel_rfl
theorem make_bytes (n : Nat) (hn : n ≤ 1000000) (w : World) : (Instr.makeSlice 53 (.int .i64 (n : Int)) (.int .i64 (n : Int))).run Tryd.prog w = .ok (.slice (some ⟨w.heap.size, 0, none⟩) n n) (w.alloc (.cells (List.replicate n (Value.int .u8 0)).toArray 5)) := by
  obtain ⟨i0, hi, hz0, hz1, hz2⟩ := info_parts info_u8
  have h := run_make (P := Tryd.prog) w 53 5 i0 (.int .u8 0) Tryd.underlying53 hi hz0 .i64 .i64 n n (by omega) (by omega) (by rw [hz2]; omega) (by omega)
  have h2 : (madeCells (Value.int .u8 0).cells (n * i0.size)).toList = List.replicate n (Value.int .u8 0) := by
    rw [hz1, Nat.mul_one]
    exact toList_madeCells_one _ n
  have h3 : madeCells (Value.int .u8 0).cells (n * i0.size) = (List.replicate n (Value.int .u8 0)).toArray := by rw [← h2]
  simpa [h3] using h
def zerosT (n : Nat) : ByteArray := ⟨(List.replicate n (0 : UInt8)).toArray⟩
theorem zerosT_size (n : Nat) : (zerosT n).size = n := by
  show (List.replicate n (0 : UInt8)).toArray.size = n
  simp
theorem zeros_back (n g : Nat) (w : World) (hB : Blk w g 5 (List.replicate n (Value.int .u8 0))) : (convert 53 9 (.slice (some ⟨g, 0, none⟩) n n)).run Tryd.prog w = .ok (.string (zerosT n)) w := by
  have h := whole_back (zerosT n) w g n (fun i hi => by
    have hi' : i < n := by rw [zerosT_size] at hi; exact hi
    rw [hB.cell i, List.getElem?_replicate, if_pos hi']
    have h0 : (zerosT n)[i] = 0 := by
      show (List.replicate n (0 : UInt8)).toArray[i] = 0
      simp
    rw [h0]; rfl)
  rw [zerosT_size] at h
  exact h

def DrawnE (w : World) (e : Ending) (w' : World) : Prop := ∃ (k : Int) (r : LogRecord), e = .returned (.tuple #[.int .i64 k, .agg #[.string r.command, .string r.reply]]) ∧ r.upto 20 ∧ Below w.heap.size w w'
set_option maxRecDepth 100000 in
set_option maxHeartbeats 4000000 in
theorem DrawEncodeRecord_any (A : Option Addr) (m c : Nat) (w : World) (hA : CodeIn w A m) (hm : m ≤ 1000000) :
    Calls Tryd.prog 39 #[.slice A m c] w (DrawnE w) := by
  have UD : Below w.heap.size w ((w.alloc (.cells #[.string ⟨#[]⟩, .string ⟨#[]⟩] 27)).alloc (.cells #[.slice A m c, .int .i64 0, .int .u64 0] 74)) := ((Below.refl _ _).alloc (Nat.le_refl _) _).alloc (by simp) _
  have zD : ((w.alloc (.cells #[.string ⟨#[]⟩, .string ⟨#[]⟩] 27)).alloc (.cells #[.slice A m c, .int .i64 0, .int .u64 0] 74)).heap.size = w.heap.size + 2 := by simp
  have E0 : Blk ((w.alloc (.cells #[.string ⟨#[]⟩, .string ⟨#[]⟩] 27)).alloc (.cells #[.slice A m c, .int .i64 0, .int .u64 0] 74)) w.heap.size 27 [.string ⟨#[]⟩, .string ⟨#[]⟩] := (Blk.at_ rfl).alloc _
  have CC : Cur ((w.alloc (.cells #[.string ⟨#[]⟩, .string ⟨#[]⟩] 27)).alloc (.cells #[.slice A m c, .int .i64 0, .int .u64 0] 74)) (w.heap.size + 1) 0 := cur_new hA hm UD (by omega) (Blk.at_ (by simp))
  go_enter Tryd.func39, Tryd.ntmps39
  go_wp2_with fail
  generalize ((w.alloc (.cells #[.string ⟨#[]⟩, .string ⟨#[]⟩] 27)).alloc (.cells #[.slice A m c, .int .i64 0, .int .u64 0] 74)) = wd at *
  have zd1 : w.heap.size + 2 ≤ wd.heap.size := by omega
  have HZ := Lib.hid zD
  clear zD
  have U1 : Below wd.heap.size wd (wd.alloc (.cells #[.int .i64 0, .int .i64 1, .int .i64 12, .int .i64 59, .int .i64 60, .int .i64 (-1)] 3)) := (Below.refl _ _).alloc (Nat.le_refl _) _
  have B1 : Blk (wd.alloc (.cells #[.int .i64 0, .int .i64 1, .int .i64 12, .int .i64 59, .int .i64 60, .int .i64 (-1)] 3)) wd.heap.size 3 (ints [0, 1, 12, 59, 60, -1]) := Blk.at_ rfl
  refine (among_any (w.heap.size + 1) 0 _ 6 _ [0, 1, 12, 59, 60, -1] _ (by first | exact B1 | (rw [← HZ.out]; exact B1)) (by omega) (CC.next U1) (by decide) rfl (by decide) (by decide)).mono ?_
  rintro e w2 ⟨k, rfl, _, C2, o2⟩
  have E2 := (E0.next U1).only o2 (fun (h : _ = _) => by omega)
  have O2 : Only (fun b => b = w.heap.size + 1) wd w2 := (Only.of_below U1).trans o2
  clear U1 B1 E0 CC o2
  go_wp2_with fail
  refine (logRecord_any (w.heap.size + 1) _ _ C2 (by decide)).mono ?_
  rintro e w3 ⟨r, rfl, hr, C3, o3⟩
  have E3 := E2.only o3 (fun (h : _ = _) => by omega)
  have O3 := O2.trans o3
  have e3 := E3.cell
  have e3f := E3.frozen
  have HB := Below.trans UD (O3.below (fun _ hk => by rw [hk]; omega) (by omega))
  go_wp2_with fail
  refine bodyPost_ret (v := .tuple #[.int .i64 k, .agg #[.string r.command, .string r.reply]]) (by simp [results, Tryd.results39, go_sem, e3]) rfl ⟨k, r, rfl, hr, ?_⟩
  exact (HB.setCell (p := ⟨w.heap.size, 0, none⟩) (Nat.le_refl _) _).setCell (p := ⟨w.heap.size, 1, none⟩) (Nat.le_refl _) _

def DrawnS (w : World) (e : Ending) (w' : World) : Prop := ∃ s : ByteArray, e = .returned (.string s) ∧ s.size ≤ 40000 ∧ Below w.heap.size w w'
set_option maxRecDepth 100000 in
set_option maxHeartbeats 8000000 in
theorem DrawRecoverLog_any (A : Option Addr) (m c : Nat) (w : World) (hA : CodeIn w A m) (hm : m ≤ 1000000) :
    Calls Tryd.prog 40 #[.slice A m c] w (DrawnS w) := by
  have UD : Below w.heap.size w (w.alloc (.cells #[.slice A m c, .int .i64 0, .int .u64 0] 74)) := (Below.refl _ _).alloc (Nat.le_refl _) _
  have zD : (w.alloc (.cells #[.slice A m c, .int .i64 0, .int .u64 0] 74)).heap.size = w.heap.size + 1 := by simp
  have CC : Cur (w.alloc (.cells #[.slice A m c, .int .i64 0, .int .u64 0] 74)) w.heap.size 0 := cur_new hA hm UD (Nat.le_refl _) (Blk.at_ rfl)
  go_enter Tryd.func40, Tryd.ntmps40
  go_wp2_with fail
  generalize (w.alloc (.cells #[.slice A m c, .int .i64 0, .int .u64 0] 74)) = wd at *
  have zd1 : w.heap.size + 1 ≤ wd.heap.size := by omega
  clear zD
  refine (log_any w.heap.size 0 wd CC (by decide)).mono ?_
  rintro e w1 ⟨x, rfl, hx, C1, o1⟩
  have U1 : Below w1.heap.size w1 (w1.alloc (.cells #[.string x.durable, .string x.pending, .int .i64 x.count] 31)) := (Below.refl _ _).alloc (Nat.le_refl _) _
  have L1 : Blk (w1.alloc (.cells #[.string x.durable, .string x.pending, .int .i64 x.count] 31)) w1.heap.size 31 [.string x.durable, .string x.pending, .int .i64 x.count] := Blk.at_ rfl
  have O1 := o1.then_ U1
  have C2 := C1.next U1
  have hx' : x.durable.size + x.pending.size ≤ 31000 := hx
  have fs : ¬ 9223372036854775807 < x.durable.size + x.pending.size := by omega
  clear C1 U1 o1 CC L1
  go_wp2_with fail
  generalize (w1.alloc (.cells #[.string x.durable, .string x.pending, .int .i64 x.count] 31)) = w2 at *
  have hs0 : (x.durable ++ x.pending).size ≤ 31000 := by rw [ByteArray.size_append]; exact hx'
  generalize x.durable ++ x.pending = s at *
  refine (pick_any 4 w.heap.size _ w2 C2 (by omega) (by decide) (by decide)).mono ?_
  rintro e w3 ⟨q, rfl, hq, C3, o3⟩
  have O3 := O1.trans o3
  clear C2 o3 O1
  by_cases q0 : q = 0
  · subst q0
    go_wp2_with fail
    refine (spoilt_any s ⟨#[35, 64, 10, 48, 49]⟩ w.heap.size _ w3 C3 (by omega) (by omega) (by decide) (by decide)).mono ?_
    rintro e w4 ⟨s4, rfl, hs4, C4, o4⟩
    have hs4' : s4.size ≤ s.size + 1 := hs4
    have O4 := O3.trans o4
    clear hs4 o4 O3 C3
    go_wp2_with fail
    refine (one_any 40 w.heap.size _ w4 C4 (by omega) (by decide) (by decide)).mono ?_
    rintro e w8 ⟨bb, rfl, C8, o8⟩
    have O8 := O4.trans o8
    cases bb
    · go_wp2_with fail
      go_ret
      exact ⟨_, rfl, by omega, Below.trans UD (O8.below (fun _ hk => by rw [hk]; omega) (by omega))⟩
    · go_wp2_with fail
      refine (pick_any 2 w.heap.size _ w8 C8 (by omega) (by decide) (by decide)).mono ?_
      rintro e w9 ⟨r9, rfl, hr9, C9, o9⟩
      have hr9' : r9 ≤ 1 := by simp at hr9; omega
      clear hr9
      have O9 := O8.trans o9
      have hmk := make_bytes (30000 + r9) (by omega) w9
      have hcv := zeros_back (30000 + r9) w9.heap.size (w9.alloc (.cells (List.replicate (30000 + r9) (Value.int .u8 0)).toArray 5)) (Blk.at_ rfl)
      rw [show ((30000 + r9 : Nat) : Int) = 30000 + (r9 : Int) by omega] at hmk
      simp only [List.toArray_replicate] at hmk hcv
      have Hz := Lib.hid (zerosT_size (30000 + r9))
      have U9 : Below w9.heap.size w9 (w9.alloc (.cells (List.replicate (30000 + r9) (Value.int .u8 0)).toArray 5)) := (Below.refl _ _).alloc (Nat.le_refl _) _
      go_wp2_with fail
      go_ret
      exact ⟨zerosT (30000 + r9), rfl, by rw [Hz.out]; omega, Below.trans UD ((O9.then_ U9).below (fun _ hk => by rw [hk]; omega) (by omega))⟩
  have d0 : ((q : Int) == 0) = false := beq_eq_false_iff_ne.2 (by omega)
  by_cases q1 : q = 1
  · subst q1
    go_wp2_with fail
    refine (pick_any ((s.size : Int) + 1) w.heap.size _ w3 C3 (by omega) (by omega) (by omega)).mono ?_
    rintro e w4 ⟨r4, rfl, hr4, C4, o4⟩
    have hr4' : r4 ≤ s.size := by omega
    have hr4'' : (r4 : Int) ≤ (s.size : Int) := by omega
    clear hr4
    have O4 := O3.trans o4
    clear o4 O3 C3
    have hs4 : (s.extract 0 r4).size ≤ 31000 := by simp; omega
    have Hs4 := Lib.hid hs4
    clear hs4
    go_wp2_with fail
    refine (one_any 40 w.heap.size _ w4 C4 (by omega) (by decide) (by decide)).mono ?_
    rintro e w8 ⟨bb, rfl, C8, o8⟩
    have O8 := O4.trans o8
    cases bb
    · go_wp2_with fail
      go_ret
      exact ⟨_, rfl, Nat.le_trans Hs4.out (by decide), Below.trans UD (O8.below (fun _ hk => by rw [hk]; omega) (by omega))⟩
    · go_wp2_with fail
      refine (pick_any 2 w.heap.size _ w8 C8 (by omega) (by decide) (by decide)).mono ?_
      rintro e w9 ⟨r9, rfl, hr9, C9, o9⟩
      have hr9' : r9 ≤ 1 := by simp at hr9; omega
      clear hr9
      have O9 := O8.trans o9
      have hmk := make_bytes (30000 + r9) (by omega) w9
      have hcv := zeros_back (30000 + r9) w9.heap.size (w9.alloc (.cells (List.replicate (30000 + r9) (Value.int .u8 0)).toArray 5)) (Blk.at_ rfl)
      rw [show ((30000 + r9 : Nat) : Int) = 30000 + (r9 : Int) by omega] at hmk
      simp only [List.toArray_replicate] at hmk hcv
      have Hz := Lib.hid (zerosT_size (30000 + r9))
      have U9 : Below w9.heap.size w9 (w9.alloc (.cells (List.replicate (30000 + r9) (Value.int .u8 0)).toArray 5)) := (Below.refl _ _).alloc (Nat.le_refl _) _
      go_wp2_with fail
      go_ret
      exact ⟨zerosT (30000 + r9), rfl, by rw [Hz.out]; omega, Below.trans UD ((O9.then_ U9).below (fun _ hk => by rw [hk]; omega) (by omega))⟩
  have d1 : ((q : Int) == 1) = false := beq_eq_false_iff_ne.2 (by omega)
  by_cases q2 : q = 2
  · subst q2
    go_wp2_with fail
    refine (pick_any 4 w.heap.size _ w3 C3 (by omega) (by decide) (by decide)).mono ?_
    rintro e w4 ⟨r4, rfl, hr4, C4, o4⟩
    have hr4' : r4 < 100 := by simp at hr4; omega
    clear hr4
    have O4 := O3.trans o4
    clear o4 O3 C3
    go_wp2_with fail
    refine (logRecord_any w.heap.size _ w4 C4 (by omega)).mono ?_
    rintro e w5 ⟨rec, rfl, hrec, C5, o5⟩
    have O5 := O4.trans o5
    clear o5 O4 C4
    go_wp2_with fail
    refine (l27Line_gen r4 rec w5 hr4' hrec).mono ?_
    have hl := line_gen_size r4 rec hr4' hrec
    generalize lineT r4 rec = y at *
    rintro e w6 ⟨rfl, b6⟩
    have C6 := C5.next b6
    have O6 := O5.then_ b6
    have fy : ¬ 9223372036854775807 < s.size + y.size := by omega
    clear C5 O5 b6
    go_wp2_with fail
    refine (one_any 40 w.heap.size _ w6 C6 (by omega) (by decide) (by decide)).mono ?_
    rintro e w8 ⟨bb, rfl, C8, o8⟩
    have O8 := O6.trans o8
    cases bb
    · go_wp2_with fail
      go_ret
      exact ⟨_, rfl, by rw [ByteArray.size_append]; omega, Below.trans UD (O8.below (fun _ hk => by rw [hk]; omega) (by omega))⟩
    · go_wp2_with fail
      refine (pick_any 2 w.heap.size _ w8 C8 (by omega) (by decide) (by decide)).mono ?_
      rintro e w9 ⟨r9, rfl, hr9, C9, o9⟩
      have hr9' : r9 ≤ 1 := by simp at hr9; omega
      clear hr9
      have O9 := O8.trans o9
      have hmk := make_bytes (30000 + r9) (by omega) w9
      have hcv := zeros_back (30000 + r9) w9.heap.size (w9.alloc (.cells (List.replicate (30000 + r9) (Value.int .u8 0)).toArray 5)) (Blk.at_ rfl)
      rw [show ((30000 + r9 : Nat) : Int) = 30000 + (r9 : Int) by omega] at hmk
      simp only [List.toArray_replicate] at hmk hcv
      have Hz := Lib.hid (zerosT_size (30000 + r9))
      have U9 : Below w9.heap.size w9 (w9.alloc (.cells (List.replicate (30000 + r9) (Value.int .u8 0)).toArray 5)) := (Below.refl _ _).alloc (Nat.le_refl _) _
      go_wp2_with fail
      go_ret
      exact ⟨zerosT (30000 + r9), rfl, by rw [Hz.out]; omega, Below.trans UD ((O9.then_ U9).below (fun _ hk => by rw [hk]; omega) (by omega))⟩
  have d2 : ((q : Int) == 2) = false := beq_eq_false_iff_ne.2 (by omega)
  go_wp2_with fail
  refine (one_any 40 w.heap.size _ w3 C3 (by omega) (by decide) (by decide)).mono ?_
  rintro e w8 ⟨bb, rfl, C8, o8⟩
  have O8 := O3.trans o8
  cases bb
  · go_wp2_with fail
    go_ret
    exact ⟨_, rfl, by omega, Below.trans UD (O8.below (fun _ hk => by rw [hk]; omega) (by omega))⟩
  · go_wp2_with fail
    refine (pick_any 2 w.heap.size _ w8 C8 (by omega) (by decide) (by decide)).mono ?_
    rintro e w9 ⟨r9, rfl, hr9, C9, o9⟩
    have hr9' : r9 ≤ 1 := by simp at hr9; omega
    clear hr9
    have O9 := O8.trans o9
    have hmk := make_bytes (30000 + r9) (by omega) w9
    have hcv := zeros_back (30000 + r9) w9.heap.size (w9.alloc (.cells (List.replicate (30000 + r9) (Value.int .u8 0)).toArray 5)) (Blk.at_ rfl)
    rw [show ((30000 + r9 : Nat) : Int) = 30000 + (r9 : Int) by omega] at hmk
    simp only [List.toArray_replicate] at hmk hcv
    have Hz := Lib.hid (zerosT_size (30000 + r9))
    have U9 : Below w9.heap.size w9 (w9.alloc (.cells (List.replicate (30000 + r9) (Value.int .u8 0)).toArray 5)) := (Below.refl _ _).alloc (Nat.le_refl _) _
    go_wp2_with fail
    go_ret
    exact ⟨zerosT (30000 + r9), rfl, by rw [Hz.out]; omega, Below.trans UD ((O9.then_ U9).below (fun _ hk => by rw [hk]; omega) (by omega))⟩

end Go.Proofs.YtjangfhelagjnaaDoor
