/- A log, whole or spoilt, drawn. -/
import Derived.Test.YtjangfhelagjnaaDoorCurG
namespace Go.Proofs.YtjangfhelagjnaaDoor
open Go.RowKit


theorem cur_fin {w wx : World} {g n : Nat} (hc : Cur wx g n) (ho : Only (fun b => b = g) w wx) (hg : g < w.heap.size) (u v x : Value) :
    Cur (((wx.setCell ⟨w.heap.size, 0, none⟩ u).setCell ⟨w.heap.size, 1, none⟩ v).setCell ⟨w.heap.size, 2, none⟩ x) g n ∧ Only (fun b => b = g) w (((wx.setCell ⟨w.heap.size, 0, none⟩ u).setCell ⟨w.heap.size, 1, none⟩ v).setCell ⟨w.heap.size, 2, none⟩ x) :=
  ⟨hc.keep (S := fun b => b = w.heap.size) (only_set (only_set (only_set (Only.refl _ _) 0 u) 1 v) 2 x) (by omega) (fun b hb => by omega),
   only_new (only_new (only_new ho (p := ⟨w.heap.size, 0, none⟩) (Nat.le_refl _) _) (p := ⟨w.heap.size, 1, none⟩) (Nat.le_refl _) _) (p := ⟨w.heap.size, 2, none⟩) (Nat.le_refl _) _⟩

set_option maxRecDepth 100000 in
set_option maxHeartbeats 4000000 in
theorem anyLog_any (g n : Nat) (w : World) (h : Cur w g n) (hn : n ≤ 700000) :
    Calls Tryd.prog 52 #[.pointer (some ⟨g, 0, none⟩)] w (DrawnL w g (n + 70) 64000) := by
  have hg := h.lt
  have U0 : Below w.heap.size w (w.alloc (.cells #[.string ⟨#[]⟩, .string ⟨#[]⟩, .int .i64 0] 31)) := (Below.refl _ _).alloc (Nat.le_refl _) _
  have R0 : Blk (w.alloc (.cells #[.string ⟨#[]⟩, .string ⟨#[]⟩, .int .i64 0] 31)) w.heap.size 31 [.string ⟨#[]⟩, .string ⟨#[]⟩, .int .i64 0] := Blk.at_ rfl
  go_enter Tryd.func52, Tryd.ntmps52
  go_wp2_with fail
  refine (log_any g n _ (h.next U0) (by omega)).mono ?_
  rintro e w1 ⟨x, rfl, hx, c1, o1⟩
  have R1 := R0.only o1 (fun (h : _ = _) => by omega)
  have lt1 := R1.lt
  have U1 : Below w1.heap.size w1 (w1.alloc (.cells #[.string x.durable, .string x.pending, .int .i64 x.count] 31)) := (Below.refl _ _).alloc (Nat.le_refl _) _
  have L1 : Blk (w1.alloc (.cells #[.string x.durable, .string x.pending, .int .i64 x.count] 31)) w1.heap.size 31 [.string x.durable, .string x.pending, .int .i64 x.count] := Blk.at_ rfl
  go_wp2_with fail
  refine (pick_any 24 g _ _ (c1.next U1) (by omega) (by decide) (by decide)).mono ?_
  rintro e w2 ⟨q, rfl, hq, C2, o2⟩
  have L2 := L1.only o2 (fun (h : _ = _) => by omega)
  have R2 := (R1.next U1).only o2 (fun (h : _ = _) => by omega)
  have O2 : Only (fun b => b = g) w w2 := (((Only.of_below U0).trans o1).then_ U1).trans o2
  have hne : w.heap.size ≠ w1.heap.size := by omega
  have hne' : w1.heap.size ≠ w.heap.size := by omega
  have hx' : x.durable.size + x.pending.size ≤ 31000 := hx
  clear U0 R0 o1 c1 R1 U1 L1 o2
  have l2 := L2.cell
  have l2f := L2.frozen
  by_cases q0 : q = 0
  · subst q0
    have HF := Lib.hid (fun t u v z => cur_fin (C2.keep (S := fun b => b = w1.heap.size) (only_set (Only.refl _ _) 2 t) (by omega) (fun b hb => by omega)) (only_new O2 (p := ⟨w1.heap.size, 2, none⟩) (by show w.heap.size ≤ w1.heap.size; omega) t) hg u v z)
    have r2 := R2.cell
    have r2f := R2.frozen
    go_wp2_with fail
    refine bodyPost_ret (v := .agg #[.string x.durable, .string x.pending, .int .i64 (wrap64 (x.count + 1))]) (by simp [results, Tryd.results52, go_sem, r2]) rfl ⟨⟨x.durable, x.pending, wrap64 (x.count + 1)⟩, rfl, Nat.le_trans hx (by decide), ((HF.out _ _ _ _).1).more (by omega), (HF.out _ _ _ _).2⟩
  have d0 : ((q : Int) == 0) = false := beq_eq_false_iff_ne.2 (by omega)
  by_cases q1 : q = 1
  · subst q1
    go_wp2_with fail
    refine (spoilt_any x.pending ⟨#[35, 64, 10, 48, 49]⟩ g _ w2 C2 (by omega) (by omega) (by decide) (by decide)).mono ?_
    rintro e w3 ⟨s3, rfl, hs3, C3, o3⟩
    have hs3' : s3.size ≤ x.pending.size + 1 := hs3
    have L3 := L2.only o3 (fun (h : _ = _) => by omega)
    have R3 := R2.only o3 (fun (h : _ = _) => by omega)
    have O3 := O2.trans o3
    clear hs3 o3 l2 l2f C2 L2 R2 O2
    have l3 := L3.cell
    have l3f := L3.frozen
    have r3 := R3.cell
    have r3f := R3.frozen
    have C5 := C3.keep (S := fun b => b = w1.heap.size) (only_set (Only.refl _ _) 1 (.string s3)) (by omega) (fun b hb => by omega)
    have O5 := only_new O3 (p := ⟨w1.heap.size, 1, none⟩) (by show w.heap.size ≤ w1.heap.size; omega) (.string s3)
    have HF := Lib.hid (fun u v z => cur_fin C5 O5 hg u v z)
    clear C5 O5
    go_wp2_with fail
    refine bodyPost_ret (v := .agg #[.string x.durable, .string s3, .int .i64 x.count]) (by simp [results, Tryd.results52, go_sem, r3]) rfl ⟨⟨x.durable, s3, x.count⟩, rfl, (by show x.durable.size + s3.size ≤ 64000; omega), ((HF.out _ _ _).1).more (by omega), (HF.out _ _ _).2⟩
  have d1 : ((q : Int) == 1) = false := beq_eq_false_iff_ne.2 (by omega)
  have r2 := R2.cell
  have r2f := R2.frozen
  by_cases q2 : q = 2
  · subst q2
    have fs : ¬ 9223372036854775807 < x.durable.size + x.pending.size := by omega
    have C5 := C2.keep (S := fun b => b = w1.heap.size) (only_set (Only.refl _ _) 0 (.string (x.durable ++ x.pending))) (by omega) (fun b hb => by omega)
    have O5 := only_new O2 (p := ⟨w1.heap.size, 0, none⟩) (by show w.heap.size ≤ w1.heap.size; omega) (.string (x.durable ++ x.pending))
    have HF := Lib.hid (fun u v z => cur_fin C5 O5 hg u v z)
    clear C5 O5
    go_wp2_with fail
    refine bodyPost_ret (v := .agg #[.string (x.durable ++ x.pending), .string x.pending, .int .i64 x.count]) (by simp [results, Tryd.results52, go_sem, r2]) rfl ⟨⟨x.durable ++ x.pending, x.pending, x.count⟩, rfl, (by show (x.durable ++ x.pending).size + x.pending.size ≤ 64000; rw [ByteArray.size_append]; omega), ((HF.out _ _ _).1).more (by omega), (HF.out _ _ _).2⟩
  have d2 : ((q : Int) == 2) = false := beq_eq_false_iff_ne.2 (by omega)
  have HF := Lib.hid (fun u v z => cur_fin C2 O2 hg u v z)
  go_wp2_with fail
  refine bodyPost_ret (v := .agg #[.string x.durable, .string x.pending, .int .i64 x.count]) (by simp [results, Tryd.results52, go_sem, r2]) rfl ⟨x, rfl, Nat.le_trans hx (by decide), ((HF.out _ _ _).1).more (by omega), (HF.out _ _ _).2⟩

end Go.Proofs.YtjangfhelagjnaaDoor
