/- Joined texts of this proof: CmdA, RaceV, CmdQ. -/
import Derived.Test.YtflpcdffmpfdpaaGreatDoorP25
import Derived.Test.YtflpcdffmpfdpaaGreatDoorP07
import Derived.Test.YtflpcdffmpfdpaaGreatDoorP08
namespace Go.Proofs.YtflpcdffmpfdpaaGreatDoor
open Go.RowKit

set_option maxRecDepth 100000 in
set_option maxHeartbeats 2000000 in
theorem argumentsOf_any (s : ByteArray) (w : World) : Calls Tryz.prog 93 #[.string s] w fun e w' => e = .returned (.tuple #[.int .i64 (cmArgs (cmK s)).1, .int .i64 (cmArgs (cmK s)).2.1, .bool (cmArgs (cmK s)).2.2]) ∧ w = w' := by
  rcases cmK_cases s with ⟨hk, rfl⟩ | ⟨hk, rfl⟩ | ⟨hk, rfl⟩ | ⟨hk, rfl⟩ | ⟨hk, rfl⟩ | ⟨hk, rfl⟩ | ⟨hk, rfl⟩ | ⟨hk, rfl⟩ | ⟨hk, rfl⟩ | ⟨hk, rfl⟩ | ⟨hk, rfl⟩ | ⟨hk, rfl⟩ | ⟨hk, q1, q2, q3, q4, q5, q6, q7, q8, q9, q10, q11, q12⟩
  · rw [hk]
    clear hk
    go_enter Tryz.func93, Tryz.ntmps93
    go_wp2_with fail
    go_ret3
    exact ⟨rfl, rfl⟩
  · rw [hk]
    clear hk
    go_enter Tryz.func93, Tryz.ntmps93
    go_wp2_with fail
    go_ret3
    exact ⟨rfl, rfl⟩
  · rw [hk]
    clear hk
    go_enter Tryz.func93, Tryz.ntmps93
    go_wp2_with fail
    go_ret3
    exact ⟨rfl, rfl⟩
  · rw [hk]
    clear hk
    go_enter Tryz.func93, Tryz.ntmps93
    go_wp2_with fail
    go_ret3
    exact ⟨rfl, rfl⟩
  · rw [hk]
    clear hk
    go_enter Tryz.func93, Tryz.ntmps93
    go_wp2_with fail
    go_ret3
    exact ⟨rfl, rfl⟩
  · rw [hk]
    clear hk
    go_enter Tryz.func93, Tryz.ntmps93
    go_wp2_with fail
    go_ret3
    exact ⟨rfl, rfl⟩
  · rw [hk]
    clear hk
    go_enter Tryz.func93, Tryz.ntmps93
    go_wp2_with fail
    go_ret3
    exact ⟨rfl, rfl⟩
  · rw [hk]
    clear hk
    go_enter Tryz.func93, Tryz.ntmps93
    go_wp2_with fail
    go_ret3
    exact ⟨rfl, rfl⟩
  · rw [hk]
    clear hk
    go_enter Tryz.func93, Tryz.ntmps93
    go_wp2_with fail
    go_ret3
    exact ⟨rfl, rfl⟩
  · rw [hk]
    clear hk
    go_enter Tryz.func93, Tryz.ntmps93
    go_wp2_with fail
    go_ret3
    exact ⟨rfl, rfl⟩
  · rw [hk]
    clear hk
    go_enter Tryz.func93, Tryz.ntmps93
    go_wp2_with fail
    go_ret3
    exact ⟨rfl, rfl⟩
  · rw [hk]
    clear hk
    go_enter Tryz.func93, Tryz.ntmps93
    go_wp2_with fail
    go_ret3
    exact ⟨rfl, rfl⟩
  · rw [hk]
    clear hk
    go_enter Tryz.func93, Tryz.ntmps93
    go_wp2_with fail
    go_ret3
    exact ⟨rfl, rfl⟩

set_option maxRecDepth 100000 in
set_option maxHeartbeats 4000000 in
theorem stepOf_any (s : ByteArray) (B : Option Addr) (m c : Nat) (l : List Int) (w : World) (hy : Sees w 0 1 B m (ints l)) (hm : (cmArgs (cmK s)).1 ≤ (m : Int)) :
    Calls Tryz.prog 95 #[.string s, .slice B m c] w fun e w' => e = .returned (.tuple #[.agg #[.int .i64 ((cmStep (cmK s) l).getD (0, 0, 0)).1, .int .i64 ((cmStep (cmK s) l).getD (0, 0, 0)).2.1, .int .i64 ((cmStep (cmK s) l).getD (0, 0, 0)).2.2], .bool (cmStep (cmK s) l).isSome]) ∧ Below w.heap.size w w' := by
  have K0 : Below w.heap.size w (w.alloc (.cells #[.int .i64 0, .int .i64 0, .int .i64 0] 124)) := (Below.refl _ _).alloc (Nat.le_refl _) _
  have P0 : Blk (w.alloc (.cells #[.int .i64 0, .int .i64 0, .int .i64 0] 124)) w.heap.size 124 [.int .i64 0, .int .i64 0, .int .i64 0] := Blk.at_ rfl
  rcases cmK_cases s with ⟨hk, rfl⟩ | ⟨hk, rfl⟩ | ⟨hk, rfl⟩ | ⟨hk, rfl⟩ | ⟨hk, rfl⟩ | ⟨hk, rfl⟩ | ⟨hk, rfl⟩ | ⟨hk, rfl⟩ | ⟨hk, rfl⟩ | ⟨hk, rfl⟩ | ⟨hk, rfl⟩ | ⟨hk, rfl⟩ | ⟨hk, q1, q2, q3, q4, q5, q6, q7, q8, q9, q10, q11, q12⟩
  · rw [hk] at hm ⊢
    clear hk
    clear hm
    have HR := Lib.hid (show cmStep 1 l = some (6, 0, 0) from rfl)
    go_enter Tryz.func95, Tryz.ntmps95
    go_upto_region 1 with fail
    generalize (w.alloc (.cells #[.int .i64 0, .int .i64 0, .int .i64 0] 124)) = w1 at *
    have pc := P0.cell
    have pf := P0.frozen
    go_wp2_with fail
    have ZF := (((P0.set_ 0 (.int .i64 6)).set_ 1 (.int .i64 0)).set_ 2 (.int .i64 0))
    have EF := ((((Only.refl (fun b => b = w.heap.size) w1).setCell (p := ⟨w.heap.size, 0, none⟩) rfl (.int .i64 6)).setCell (p := ⟨w.heap.size, 1, none⟩) rfl (.int .i64 0)).setCell (p := ⟨w.heap.size, 2, none⟩) rfl (.int .i64 0))
    clear pc pf
    have zc := ZF.cell
    refine bodyPost_ret (v := .tuple #[.agg #[.int .i64 6, .int .i64 0, .int .i64 0], .bool true]) (by simp [results, Tryz.results95, go_sem, zc]) rfl ?_
    rw [HR.out]
    exact ⟨rfl, K0.trans (EF.below (fun b hb => by omega) K0.size)⟩
  · rw [hk] at hm ⊢
    clear hk
    go_enter Tryz.func95, Tryz.ntmps95
    go_upto_region 1 with fail
    generalize (w.alloc (.cells #[.int .i64 0, .int .i64 0, .int .i64 0] 124)) = w1 at *
    have pc := P0.cell
    have pf := P0.frozen
    go_wp2_with fail
    have ZF := (((P0.set_ 0 (.int .i64 0)).set_ 1 (.int .i64 0)).set_ 2 (.int .i64 0))
    have EF := ((((Only.refl (fun b => b = w.heap.size) w1).setCell (p := ⟨w.heap.size, 0, none⟩) rfl (.int .i64 0)).setCell (p := ⟨w.heap.size, 1, none⟩) rfl (.int .i64 0)).setCell (p := ⟨w.heap.size, 2, none⟩) rfl (.int .i64 0))
    clear pc pf
    have zc := ZF.cell
    refine bodyPost_ret (v := .tuple #[.agg #[.int .i64 0, .int .i64 0, .int .i64 0], .bool false]) (by simp [results, Tryz.results95, go_sem, zc]) rfl ?_
    exact ⟨rfl, K0.trans (EF.below (fun b hb => by omega) K0.size)⟩
  · rw [hk] at hm ⊢
    clear hk
    go_enter Tryz.func95, Tryz.ntmps95
    go_upto_region 1 with fail
    generalize (w.alloc (.cells #[.int .i64 0, .int .i64 0, .int .i64 0] 124)) = w1 at *
    have pc := P0.cell
    have pf := P0.frozen
    go_wp2_with fail
    have ZF := (((P0.set_ 0 (.int .i64 0)).set_ 1 (.int .i64 0)).set_ 2 (.int .i64 0))
    have EF := ((((Only.refl (fun b => b = w.heap.size) w1).setCell (p := ⟨w.heap.size, 0, none⟩) rfl (.int .i64 0)).setCell (p := ⟨w.heap.size, 1, none⟩) rfl (.int .i64 0)).setCell (p := ⟨w.heap.size, 2, none⟩) rfl (.int .i64 0))
    clear pc pf
    have zc := ZF.cell
    refine bodyPost_ret (v := .tuple #[.agg #[.int .i64 0, .int .i64 0, .int .i64 0], .bool false]) (by simp [results, Tryz.results95, go_sem, zc]) rfl ?_
    exact ⟨rfl, K0.trans (EF.below (fun b hb => by omega) K0.size)⟩
  · rw [hk] at hm ⊢
    clear hk
    go_enter Tryz.func95, Tryz.ntmps95
    go_upto_region 1 with fail
    generalize (w.alloc (.cells #[.int .i64 0, .int .i64 0, .int .i64 0] 124)) = w1 at *
    have pc := P0.cell
    have pf := P0.frozen
    go_wp2_with fail
    have ZF := (((P0.set_ 0 (.int .i64 0)).set_ 1 (.int .i64 0)).set_ 2 (.int .i64 0))
    have EF := ((((Only.refl (fun b => b = w.heap.size) w1).setCell (p := ⟨w.heap.size, 0, none⟩) rfl (.int .i64 0)).setCell (p := ⟨w.heap.size, 1, none⟩) rfl (.int .i64 0)).setCell (p := ⟨w.heap.size, 2, none⟩) rfl (.int .i64 0))
    clear pc pf
    have zc := ZF.cell
    refine bodyPost_ret (v := .tuple #[.agg #[.int .i64 0, .int .i64 0, .int .i64 0], .bool false]) (by simp [results, Tryz.results95, go_sem, zc]) rfl ?_
    exact ⟨rfl, K0.trans (EF.below (fun b hb => by omega) K0.size)⟩
  · rw [hk] at hm ⊢
    clear hk
    have hm0 : 1 ≤ m := by have := hm; simp only [cmArgs] at this; omega
    clear hm
    obtain ⟨b0, o0, rfl, hx0, x0⟩ := hy.int (show 0 < m by omega)
    have g0 : l[0] = l.getD 0 0 := by rw [List.getD_eq_getElem?_getD, List.getElem?_eq_getElem hx0]; rfl
    rw [g0] at x0
    clear g0
    have hb0 := World.block_lt_of_cell? w _ x0
    replace x0 := (K0.cell (p := ⟨b0, o0 + 0, none⟩) hb0).trans x0
    have hz0 : (0 : Int) < (m : Int) := by omega
    simp only [Nat.add_zero] at x0
    have HR := Lib.hid (show cmStep 5 l = some (1, 0, l.getD 0 0) from rfl)
    generalize l.getD 0 0 = y0 at *
    go_enter Tryz.func95, Tryz.ntmps95
    go_upto_region 1 with fail
    generalize (w.alloc (.cells #[.int .i64 0, .int .i64 0, .int .i64 0] 124)) = w1 at *
    have pc := P0.cell
    have pf := P0.frozen
    go_wp2_with fail
    have ZF := (((P0.set_ 0 (.int .i64 1)).set_ 1 (.int .i64 0)).set_ 2 (.int .i64 y0))
    have EF := ((((Only.refl (fun b => b = w.heap.size) w1).setCell (p := ⟨w.heap.size, 0, none⟩) rfl (.int .i64 1)).setCell (p := ⟨w.heap.size, 1, none⟩) rfl (.int .i64 0)).setCell (p := ⟨w.heap.size, 2, none⟩) rfl (.int .i64 y0))
    clear pc pf
    have zc := ZF.cell
    refine bodyPost_ret (v := .tuple #[.agg #[.int .i64 1, .int .i64 0, .int .i64 y0], .bool true]) (by simp [results, Tryz.results95, go_sem, zc]) rfl ?_
    rw [HR.out]
    exact ⟨rfl, K0.trans (EF.below (fun b hb => by omega) K0.size)⟩
  · rw [hk] at hm ⊢
    clear hk
    have hm0 : 1 ≤ m := by have := hm; simp only [cmArgs] at this; omega
    clear hm
    obtain ⟨b0, o0, rfl, hx0, x0⟩ := hy.int (show 0 < m by omega)
    have g0 : l[0] = l.getD 0 0 := by rw [List.getD_eq_getElem?_getD, List.getElem?_eq_getElem hx0]; rfl
    rw [g0] at x0
    clear g0
    have hb0 := World.block_lt_of_cell? w _ x0
    replace x0 := (K0.cell (p := ⟨b0, o0 + 0, none⟩) hb0).trans x0
    have hz0 : (0 : Int) < (m : Int) := by omega
    simp only [Nat.add_zero] at x0
    have HR := Lib.hid (show cmStep 6 l = some (2, l.getD 0 0, 0) from rfl)
    generalize l.getD 0 0 = y0 at *
    go_enter Tryz.func95, Tryz.ntmps95
    go_upto_region 1 with fail
    generalize (w.alloc (.cells #[.int .i64 0, .int .i64 0, .int .i64 0] 124)) = w1 at *
    have pc := P0.cell
    have pf := P0.frozen
    go_wp2_with fail
    have ZF := (((P0.set_ 0 (.int .i64 2)).set_ 1 (.int .i64 y0)).set_ 2 (.int .i64 0))
    have EF := ((((Only.refl (fun b => b = w.heap.size) w1).setCell (p := ⟨w.heap.size, 0, none⟩) rfl (.int .i64 2)).setCell (p := ⟨w.heap.size, 1, none⟩) rfl (.int .i64 y0)).setCell (p := ⟨w.heap.size, 2, none⟩) rfl (.int .i64 0))
    clear pc pf
    have zc := ZF.cell
    refine bodyPost_ret (v := .tuple #[.agg #[.int .i64 2, .int .i64 y0, .int .i64 0], .bool true]) (by simp [results, Tryz.results95, go_sem, zc]) rfl ?_
    rw [HR.out]
    exact ⟨rfl, K0.trans (EF.below (fun b hb => by omega) K0.size)⟩
  · rw [hk] at hm ⊢
    clear hk
    have hm0 : 1 ≤ m := by have := hm; simp only [cmArgs] at this; omega
    clear hm
    obtain ⟨b0, o0, rfl, hx0, x0⟩ := hy.int (show 0 < m by omega)
    have g0 : l[0] = l.getD 0 0 := by rw [List.getD_eq_getElem?_getD, List.getElem?_eq_getElem hx0]; rfl
    rw [g0] at x0
    clear g0
    have hb0 := World.block_lt_of_cell? w _ x0
    replace x0 := (K0.cell (p := ⟨b0, o0 + 0, none⟩) hb0).trans x0
    have hz0 : (0 : Int) < (m : Int) := by omega
    simp only [Nat.add_zero] at x0
    have HR := Lib.hid (show cmStep 7 l = some (4, l.getD 0 0, 0) from rfl)
    generalize l.getD 0 0 = y0 at *
    go_enter Tryz.func95, Tryz.ntmps95
    go_upto_region 1 with fail
    generalize (w.alloc (.cells #[.int .i64 0, .int .i64 0, .int .i64 0] 124)) = w1 at *
    have pc := P0.cell
    have pf := P0.frozen
    go_wp2_with fail
    have ZF := (((P0.set_ 0 (.int .i64 4)).set_ 1 (.int .i64 y0)).set_ 2 (.int .i64 0))
    have EF := ((((Only.refl (fun b => b = w.heap.size) w1).setCell (p := ⟨w.heap.size, 0, none⟩) rfl (.int .i64 4)).setCell (p := ⟨w.heap.size, 1, none⟩) rfl (.int .i64 y0)).setCell (p := ⟨w.heap.size, 2, none⟩) rfl (.int .i64 0))
    clear pc pf
    have zc := ZF.cell
    refine bodyPost_ret (v := .tuple #[.agg #[.int .i64 4, .int .i64 y0, .int .i64 0], .bool true]) (by simp [results, Tryz.results95, go_sem, zc]) rfl ?_
    rw [HR.out]
    exact ⟨rfl, K0.trans (EF.below (fun b hb => by omega) K0.size)⟩
  · rw [hk] at hm ⊢
    clear hk
    have hm0 : 1 ≤ m := by have := hm; simp only [cmArgs] at this; omega
    clear hm
    obtain ⟨b0, o0, rfl, hx0, x0⟩ := hy.int (show 0 < m by omega)
    have g0 : l[0] = l.getD 0 0 := by rw [List.getD_eq_getElem?_getD, List.getElem?_eq_getElem hx0]; rfl
    rw [g0] at x0
    clear g0
    have hb0 := World.block_lt_of_cell? w _ x0
    replace x0 := (K0.cell (p := ⟨b0, o0 + 0, none⟩) hb0).trans x0
    have hz0 : (0 : Int) < (m : Int) := by omega
    simp only [Nat.add_zero] at x0
    have HR := Lib.hid (show cmStep 8 l = some (5, l.getD 0 0, 0) from rfl)
    generalize l.getD 0 0 = y0 at *
    go_enter Tryz.func95, Tryz.ntmps95
    go_upto_region 1 with fail
    generalize (w.alloc (.cells #[.int .i64 0, .int .i64 0, .int .i64 0] 124)) = w1 at *
    have pc := P0.cell
    have pf := P0.frozen
    go_wp2_with fail
    have ZF := (((P0.set_ 0 (.int .i64 5)).set_ 1 (.int .i64 y0)).set_ 2 (.int .i64 0))
    have EF := ((((Only.refl (fun b => b = w.heap.size) w1).setCell (p := ⟨w.heap.size, 0, none⟩) rfl (.int .i64 5)).setCell (p := ⟨w.heap.size, 1, none⟩) rfl (.int .i64 y0)).setCell (p := ⟨w.heap.size, 2, none⟩) rfl (.int .i64 0))
    clear pc pf
    have zc := ZF.cell
    refine bodyPost_ret (v := .tuple #[.agg #[.int .i64 5, .int .i64 y0, .int .i64 0], .bool true]) (by simp [results, Tryz.results95, go_sem, zc]) rfl ?_
    rw [HR.out]
    exact ⟨rfl, K0.trans (EF.below (fun b hb => by omega) K0.size)⟩
  · rw [hk] at hm ⊢
    clear hk
    go_enter Tryz.func95, Tryz.ntmps95
    go_upto_region 1 with fail
    generalize (w.alloc (.cells #[.int .i64 0, .int .i64 0, .int .i64 0] 124)) = w1 at *
    have pc := P0.cell
    have pf := P0.frozen
    go_wp2_with fail
    have ZF := (((P0.set_ 0 (.int .i64 0)).set_ 1 (.int .i64 0)).set_ 2 (.int .i64 0))
    have EF := ((((Only.refl (fun b => b = w.heap.size) w1).setCell (p := ⟨w.heap.size, 0, none⟩) rfl (.int .i64 0)).setCell (p := ⟨w.heap.size, 1, none⟩) rfl (.int .i64 0)).setCell (p := ⟨w.heap.size, 2, none⟩) rfl (.int .i64 0))
    clear pc pf
    have zc := ZF.cell
    refine bodyPost_ret (v := .tuple #[.agg #[.int .i64 0, .int .i64 0, .int .i64 0], .bool false]) (by simp [results, Tryz.results95, go_sem, zc]) rfl ?_
    exact ⟨rfl, K0.trans (EF.below (fun b hb => by omega) K0.size)⟩
  · rw [hk] at hm ⊢
    clear hk
    go_enter Tryz.func95, Tryz.ntmps95
    go_upto_region 1 with fail
    generalize (w.alloc (.cells #[.int .i64 0, .int .i64 0, .int .i64 0] 124)) = w1 at *
    have pc := P0.cell
    have pf := P0.frozen
    go_wp2_with fail
    have ZF := (((P0.set_ 0 (.int .i64 0)).set_ 1 (.int .i64 0)).set_ 2 (.int .i64 0))
    have EF := ((((Only.refl (fun b => b = w.heap.size) w1).setCell (p := ⟨w.heap.size, 0, none⟩) rfl (.int .i64 0)).setCell (p := ⟨w.heap.size, 1, none⟩) rfl (.int .i64 0)).setCell (p := ⟨w.heap.size, 2, none⟩) rfl (.int .i64 0))
    clear pc pf
    have zc := ZF.cell
    refine bodyPost_ret (v := .tuple #[.agg #[.int .i64 0, .int .i64 0, .int .i64 0], .bool false]) (by simp [results, Tryz.results95, go_sem, zc]) rfl ?_
    exact ⟨rfl, K0.trans (EF.below (fun b hb => by omega) K0.size)⟩
  · rw [hk] at hm ⊢
    clear hk
    have hm0 : 2 ≤ m := by have := hm; simp only [cmArgs] at this; omega
    clear hm
    obtain ⟨b0, o0, rfl, hx0, x0⟩ := hy.int (show 0 < m by omega)
    obtain ⟨b1, o1, he1, hx1, x1⟩ := hy.int (show 1 < m by omega)
    injection he1 with he1
    injection he1 with h1 h2
    subst h1 h2
    have g0 : l[0] = l.getD 0 0 := by rw [List.getD_eq_getElem?_getD, List.getElem?_eq_getElem hx0]; rfl
    rw [g0] at x0
    clear g0
    have hb0 := World.block_lt_of_cell? w _ x0
    replace x0 := (K0.cell (p := ⟨b0, o0 + 0, none⟩) hb0).trans x0
    have g1 : l[1] = l.getD 1 0 := by rw [List.getD_eq_getElem?_getD, List.getElem?_eq_getElem hx1]; rfl
    rw [g1] at x1
    clear g1
    have hb1 := World.block_lt_of_cell? w _ x1
    replace x1 := (K0.cell (p := ⟨b0, o0 + 1, none⟩) hb1).trans x1
    have hz0 : (0 : Int) < (m : Int) := by omega
    have hz1 : (1 : Int) < (m : Int) := by omega
    simp only [Nat.add_zero] at x0
    have HR := Lib.hid (show cmStep 11 l = some (3, l.getD 0 0, l.getD 1 0) from rfl)
    generalize l.getD 0 0 = y0 at *
    generalize l.getD 1 0 = y1 at *
    go_enter Tryz.func95, Tryz.ntmps95
    go_upto_region 1 with fail
    generalize (w.alloc (.cells #[.int .i64 0, .int .i64 0, .int .i64 0] 124)) = w1 at *
    have pc := P0.cell
    have pf := P0.frozen
    go_upto_region 7 with fail
    go_region
    all_goals (go_wp2_with fail)
    have ZF := (((P0.set_ 0 (.int .i64 3)).set_ 1 (.int .i64 y0)).set_ 2 (.int .i64 y1))
    have EF := ((((Only.refl (fun b => b = w.heap.size) w1).setCell (p := ⟨w.heap.size, 0, none⟩) rfl (.int .i64 3)).setCell (p := ⟨w.heap.size, 1, none⟩) rfl (.int .i64 y0)).setCell (p := ⟨w.heap.size, 2, none⟩) rfl (.int .i64 y1))
    clear pc pf
    have zc := ZF.cell
    refine bodyPost_ret (v := .tuple #[.agg #[.int .i64 3, .int .i64 y0, .int .i64 y1], .bool true]) (by simp [results, Tryz.results95, go_sem, zc]) rfl ?_
    rw [HR.out]
    exact ⟨rfl, bel_quiet (K0.trans (EF.below (fun b hb => by omega) K0.size)) (Quiet.one _)⟩
  · rw [hk] at hm ⊢
    clear hk
    go_enter Tryz.func95, Tryz.ntmps95
    go_upto_region 1 with fail
    generalize (w.alloc (.cells #[.int .i64 0, .int .i64 0, .int .i64 0] 124)) = w1 at *
    have pc := P0.cell
    have pf := P0.frozen
    go_wp2_with fail
    have ZF := (((P0.set_ 0 (.int .i64 0)).set_ 1 (.int .i64 0)).set_ 2 (.int .i64 0))
    have EF := ((((Only.refl (fun b => b = w.heap.size) w1).setCell (p := ⟨w.heap.size, 0, none⟩) rfl (.int .i64 0)).setCell (p := ⟨w.heap.size, 1, none⟩) rfl (.int .i64 0)).setCell (p := ⟨w.heap.size, 2, none⟩) rfl (.int .i64 0))
    clear pc pf
    have zc := ZF.cell
    refine bodyPost_ret (v := .tuple #[.agg #[.int .i64 0, .int .i64 0, .int .i64 0], .bool false]) (by simp [results, Tryz.results95, go_sem, zc]) rfl ?_
    exact ⟨rfl, K0.trans (EF.below (fun b hb => by omega) K0.size)⟩
  · clear q2 q3 q4 q9 q10 q12
    rw [hk] at hm ⊢
    clear hk
    go_enter Tryz.func95, Tryz.ntmps95
    go_upto_region 1 with fail
    generalize (w.alloc (.cells #[.int .i64 0, .int .i64 0, .int .i64 0] 124)) = w1 at *
    have pc := P0.cell
    have pf := P0.frozen
    go_wp2_with fail
    have ZF := (((P0.set_ 0 (.int .i64 0)).set_ 1 (.int .i64 0)).set_ 2 (.int .i64 0))
    have EF := ((((Only.refl (fun b => b = w.heap.size) w1).setCell (p := ⟨w.heap.size, 0, none⟩) rfl (.int .i64 0)).setCell (p := ⟨w.heap.size, 1, none⟩) rfl (.int .i64 0)).setCell (p := ⟨w.heap.size, 2, none⟩) rfl (.int .i64 0))
    clear pc pf
    have zc := ZF.cell
    refine bodyPost_ret (v := .tuple #[.agg #[.int .i64 0, .int .i64 0, .int .i64 0], .bool false]) (by simp [results, Tryz.results95, go_sem, zc]) rfl ?_
    exact ⟨rfl, K0.trans (EF.below (fun b hb => by omega) K0.size)⟩

end Go.Proofs.YtflpcdffmpfdpaaGreatDoor

namespace Go.Proofs.YtflpcdffmpfdpaaGreatDoor
open Go.RowKit

theorem lateB_later {t t' : Int} {x : Card} (h : t ≤ t') (hb : lateB t x = true) : lateB t' x = true := by
  unfold lateB at *
  simp only [Bool.and_eq_true, decide_eq_true_eq, List.all_eq_true] at *
  exact ⟨⟨by omega, by omega⟩, fun p hp => by have := hb.2 p hp; omega⟩
theorem entB_later {t t' : Int} {cl : Bool} {i : Nat} {x : Entrant} (h : t ≤ t') (hb : entB t cl i x = true) : entB t' cl i x = true := by
  unfold entB at *
  by_cases h0 : x.state = 0
  · rw [if_pos h0] at *
    exact hb
  by_cases h4 : x.state = 4
  · rw [if_neg h0, if_pos h4] at *
    exact hb
  rw [if_neg h0, if_neg h4] at *
  by_cases h1 : x.state = 1 ∨ x.state = 2 ∨ x.state = 3
  · rw [if_pos h1] at *
    simp only [Bool.and_eq_true] at *
    exact ⟨hb.1, hb.2.1, hb.2.2.1, hb.2.2.2.1, lateB_later h hb.2.2.2.2⟩
  · rw [if_neg h1] at hb
    cases hb
theorem raceB_of {t : Int} {cl : Bool} {xs : List Entrant} (h0 : 0 ≤ t) (h1 : t ≤ 36000) (h2 : 1 ≤ xs.length) (h3 : xs.length ≤ 8) (h : ∀ (i : Nat) (hi : i < xs.length), entB t cl i xs[i] = true) : raceB t cl xs = true := by
  unfold raceB inB allTo
  simp only [Bool.and_eq_true, decide_eq_true_eq, List.all_eq_true, List.mem_range]
  exact ⟨⟨h0, h1⟩, ⟨by omega, by omega⟩, fun i hi => by rw [entAt_at hi]; exact h i hi⟩
theorem card_of {x : Card} (h1 : 1 ≤ x.number ∧ x.number ≤ 9999) (h2 : 0 ≤ x.start ∧ x.start ≤ 36000) (h3 : x.finish = -1 ∨ (x.start ≤ x.finish ∧ x.finish ≤ 36000)) (h4 : x.punches.length ≤ 12) (h : ∀ (k : Nat) (hk : k < x.punches.length), punchB x x.punches[k] (prevT x k) = true) : cardB x = true := by
  unfold cardB headB allTo inB
  simp only [Bool.and_eq_true, Bool.or_eq_true, decide_eq_true_eq, List.all_eq_true, List.mem_range]
  exact ⟨⟨⟨⟨h1, h2⟩, h3⟩, h4⟩, fun k hk => by rw [okAt_at hk]; exact h k hk⟩
theorem card_to {x : Card} (h : cardB x = true) : (1 ≤ x.number ∧ x.number ≤ 9999) ∧ (0 ≤ x.start ∧ x.start ≤ 36000) ∧ (x.finish = -1 ∨ (x.start ≤ x.finish ∧ x.finish ≤ 36000)) ∧ x.punches.length ≤ 12 ∧ ∀ (k : Nat) (hk : k < x.punches.length), punchB x x.punches[k] (prevT x k) = true := by
  unfold cardB headB allTo inB at h
  simp only [Bool.and_eq_true, Bool.or_eq_true, decide_eq_true_eq, List.all_eq_true, List.mem_range] at h
  obtain ⟨⟨⟨⟨h1, h2⟩, h3⟩, h4⟩, h5⟩ := h
  exact ⟨h1, h2, h3, h4, fun k hk => by rw [← okAt_at hk]; exact h5 k hk⟩
theorem punch_of {x : Card} {p : Punch} {t : Int} (h1 : codeB p.code = true) (h2 : 0 ≤ p.time ∧ p.time ≤ 36000) (h3 : t ≤ p.time) (h4 : x.finish = -1 ∨ p.time ≤ x.finish) : punchB x p t = true := by
  unfold punchB inB
  simp only [Bool.and_eq_true, Bool.or_eq_true, decide_eq_true_eq]
  exact ⟨⟨⟨h1, h2⟩, h3⟩, h4⟩
theorem punch_to {x : Card} {p : Punch} {t : Int} (h : punchB x p t = true) : codeB p.code = true ∧ (0 ≤ p.time ∧ p.time ≤ 36000) ∧ t ≤ p.time ∧ (x.finish = -1 ∨ p.time ≤ x.finish) := by
  unfold punchB inB at h
  simp only [Bool.and_eq_true, Bool.or_eq_true, decide_eq_true_eq] at h
  exact ⟨h.1.1.1, h.1.1.2, h.1.2, h.2⟩
/-- what is known of a running entrant -/
theorem ent_running {t : Int} {cl : Bool} {i : Nat} {x : Entrant} (h : entB t cl i x = true) (hs : x.state = 1) : cl = false ∧ cardB x.card = true ∧ x.number = (i : Int) + 1 ∧ x.finish = -1 ∧ x.start ≤ t ∧ ∀ p ∈ x.punches, p.time ≤ t := by
  unfold entB lateB at h
  rw [if_neg (by omega), if_neg (by omega), if_pos (Or.inl hs)] at h
  simp only [Bool.and_eq_true, decide_eq_true_eq, List.all_eq_true, hs, decide_true, Bool.true_and, Bool.not_eq_true'] at h
  obtain ⟨h1, h2, h3, h4, h5, h6⟩ := h
  have h7 : x.finish = -1 := by
    by_cases hf : x.finish = -1
    · exact hf
    · simp [hf] at h4
  exact ⟨h1, h2, h3, h7, h5.1, h6⟩
theorem ent_of {t : Int} {cl : Bool} {i : Nat} {x : Entrant} (h0 : x.state = 1 ∨ x.state = 2 ∨ x.state = 3) (h1 : x.state = 1 → cl = false) (h2 : cardB x.card = true) (h3 : x.number = (i : Int) + 1) (h4 : x.finish ≠ -1 ↔ x.state = 2) (h5 : x.start ≤ t) (h6 : x.finish ≤ t) (h7 : ∀ p ∈ x.punches, p.time ≤ t) : entB t cl i x = true := by
  unfold entB lateB
  rw [if_neg (by omega), if_neg (by omega), if_pos h0]
  simp only [Bool.and_eq_true, decide_eq_true_eq, List.all_eq_true]
  refine ⟨?_, h2, h3, decide_eq_decide.2 h4, ⟨h5, h6⟩, h7⟩
  by_cases hs : x.state = 1
  · simp [h1 hs]
  · simp [hs]
theorem stepE_good {t e v k : Int} {cl : Bool} {i : Nat} {x y : Entrant} (ht0 : 0 ≤ t) (ht : t ≤ 36000) (hi : i < 8) (he : e = (i : Int)) (h : entB t cl i x = true) (hs : stepE t e x k v = some y) : entB t cl i y = true := by
  unfold stepE at hs
  by_cases h2 : k = 2
  · rw [if_pos h2] at hs
    by_cases hc : x.state = 0 ∧ v = 0
    · rw [if_pos hc] at hs
      injection hs with hs
      subst hs
      have hcl : cl = false := by
        unfold entB at h
        rw [if_pos hc.1] at h
        simp only [Bool.and_eq_true, Bool.not_eq_true'] at h
        exact h.2
      refine ent_of (Or.inl rfl) (fun _ => hcl) (card_of (x := ⟨e + 1, t, -1, []⟩) ?_ ⟨ht0, ht⟩ (Or.inl rfl) (by simp) (fun k hk => by simp at hk)) ?_ (by simp) (Int.le_refl _) (by show (-1 : Int) ≤ t; omega) (by simp)
      · show 1 ≤ e + 1 ∧ e + 1 ≤ 9999
        omega
      · show e + 1 = (i : Int) + 1
        omega
    · rw [if_neg hc] at hs
      cases hs
  rw [if_neg h2] at hs
  by_cases hc : x.state = 1 ∧ (k = 3 ∨ v = 0)
  rotate_left 1
  · rw [if_neg hc] at hs
    cases hs
  rw [if_pos hc] at hs
  obtain ⟨g1, g2, g3, g4, g5, g6⟩ := ent_running h hc.1
  obtain ⟨c1, c2, c3, c4, c5⟩ := card_to g2
  by_cases h3 : k = 3
  · rw [if_pos h3] at hs
    by_cases hv : codeB v = true ∧ x.punches.length < 12
    rotate_left 1
    · rw [if_neg hv] at hs
      cases hs
    rw [if_pos hv] at hs
    injection hs with hs
    subst hs
    have hcard : cardB ⟨x.number, x.start, x.finish, x.punches ++ [⟨v, t⟩]⟩ = true := by
      refine card_of c1 c2 c3 (by show (x.punches ++ [(⟨v, t⟩ : Punch)]).length ≤ 12; rw [List.length_append]; simp only [List.length_cons, List.length_nil]; omega) (fun k hk => ?_)
      have hk' : k < x.punches.length + 1 := by simpa using hk
      have hpr : prevT (⟨x.number, x.start, x.finish, x.punches ++ [⟨v, t⟩]⟩ : Card) k = prevT x.card k := by
        cases k with
        | zero => rfl
        | succ k =>
          show (match (x.punches ++ [_])[k]? with | some p => p.time | none => 0) = (match x.punches[k]? with | some p => p.time | none => 0)
          rw [List.getElem?_append_left (by omega)]
      rw [hpr]
      by_cases hkl : k < x.punches.length
      · have h8 := punch_to (c5 k hkl)
        show punchB _ (x.punches ++ [_])[k] _ = true
        rw [List.getElem_append_left hkl]
        exact punch_of h8.1 h8.2.1 h8.2.2.1 h8.2.2.2
      · obtain rfl : k = x.punches.length := by omega
        show punchB _ (x.punches ++ [_])[x.punches.length] _ = true
        rw [List.getElem_append_right (Nat.le_refl _)]
        simp only [Nat.sub_self, List.getElem_cons_zero]
        refine punch_of hv.1 ⟨ht0, ht⟩ ?_ (Or.inl g4)
        show prevT x.card x.punches.length ≤ t
        rcases Nat.eq_zero_or_pos x.punches.length with hz | hz
        · rw [hz]
          exact g5
        · obtain ⟨q, hq⟩ : ∃ q, x.punches.length = q + 1 := ⟨x.punches.length - 1, by omega⟩
          have hq2 : q < x.card.punches.length := by show q < x.punches.length; omega
          rw [hq, prevT_succ hq2]
          exact g6 _ (List.getElem_mem hq2)
    refine ent_of (Or.inl hc.1) (fun _ => g1) hcard g3 ⟨fun h => absurd g4 h, fun h => by have h9 : x.state = 2 := h; have := hc.1; omega⟩ g5 (by show x.finish ≤ t; omega) (fun p hp => ?_)
    rcases List.mem_append.1 hp with hp | hp
    · exact g6 p hp
    · rw [List.mem_singleton.1 hp]
      exact Int.le_refl _
  rw [if_neg h3] at hs
  by_cases h4 : k = 4
  · rw [if_pos h4] at hs
    injection hs with hs
    subst hs
    refine ent_of (Or.inr (Or.inl rfl)) (fun h => by cases h) (card_of (x := ⟨x.number, x.start, t, x.punches⟩) c1 c2 (Or.inr ⟨g5, ht⟩) c4 (fun k hk => ?_)) g3 ⟨fun _ => rfl, fun _ => by show t ≠ -1; omega⟩ g5 (Int.le_refl _) g6
    have hpr : prevT (⟨x.number, x.start, t, x.punches⟩ : Card) k = prevT x.card k := by cases k <;> rfl
    rw [hpr]
    have h8 := punch_to (c5 k hk)
    exact punch_of h8.1 h8.2.1 h8.2.2.1 (Or.inr (g6 _ (List.getElem_mem hk)))
  rw [if_neg h4] at hs
  by_cases h5 : k = 5
  · rw [if_pos h5] at hs
    injection hs with hs
    subst hs
    exact ent_of (Or.inr (Or.inr rfl)) (fun h => by cases h) g2 g3 ⟨fun h => absurd g4 h, fun h => by cases h⟩ g5 (by show x.finish ≤ t; omega) g6
  · rw [if_neg h5] at hs
    cases hs
theorem stepG_good {r r2 : RaceV} {k e v : Int} (h : goodR r = true) (hs : stepG r k e v = some r2) : goodR r2 = true := by
  obtain ⟨h0, h1, h2, h3, h4⟩ := raceB_facts h
  unfold stepG at hs
  by_cases k1 : k = 1
  · rw [if_pos k1] at hs
    by_cases hc : r.closed = false ∧ e = 0 ∧ inB v 1 (36000 - r.clock) = true
    rotate_left 1
    · rw [if_neg hc] at hs
      cases hs
    rw [if_pos hc] at hs
    injection hs with hs
    subst hs
    have hv := inB_true hc.2.2
    exact raceB_of (by show 0 ≤ r.clock + v; omega) (by show r.clock + v ≤ 36000; omega) h2 h3 (fun i hi => entB_later (by show r.clock ≤ r.clock + v; omega) (h4 i hi))
  rw [if_neg k1] at hs
  by_cases k6 : k = 6
  · rw [if_pos k6] at hs
    by_cases hc : r.closed = false ∧ e = 0 ∧ v = 0 ∧ (inL r.field 1).length = 0
    rotate_left 1
    · rw [if_neg hc] at hs
      cases hs
    rw [if_pos hc] at hs
    injection hs with hs
    subst hs
    have hl : (closeL r.field).length = r.field.length := by simp [closeL]
    refine raceB_of h0 h1 (by show 1 ≤ (closeL r.field).length; omega) (by show (closeL r.field).length ≤ 8; omega) (fun i hi => ?_)
    have hi' : i < r.field.length := by rw [← hl]; exact hi
    have h5 := h4 i hi'
    show entB r.clock true i (closeL r.field)[i] = true
    have hg : (closeL r.field)[i]'hi = closeE r.field[i] := by simp [closeL]
    rw [hg]
    have h6 : r.field[i].state ≠ 1 := fun hq => by
      have hm : (i : Int) ∈ inL r.field 1 := mem_inL.2 ⟨i, rfl, hi', hq⟩
      rw [List.eq_nil_of_length_eq_zero hc.2.2.2] at hm
      cases hm
    unfold closeE
    rw [hc.1] at h5
    by_cases hz : r.field[i].state = 0
    · rw [if_pos hz]
      unfold entB at h5 ⊢
      rw [if_pos hz] at h5
      rw [if_neg (by show ¬ (4 : Int) = 0; omega), if_pos (show (absE r.field[i]).state = 4 from rfl)]
      simp only [Bool.and_eq_true] at h5 ⊢
      exact ⟨h5.1, trivial⟩
    · rw [if_neg hz]
      unfold entB at h5 ⊢
      rw [if_neg hz] at *
      by_cases hf : r.field[i].state = 4
      · rw [if_pos hf] at h5
        simp at h5
      rw [if_neg hf] at *
      by_cases hq : r.field[i].state = 1 ∨ r.field[i].state = 2 ∨ r.field[i].state = 3
      · rw [if_pos hq] at *
        rw [decide_eq_false h6] at *
        exact h5
      · rw [if_neg hq] at h5
        cases h5
  rw [if_neg k6] at hs
  by_cases hr : 0 ≤ e ∧ e < (r.field.length : Int)
  rotate_left 1
  · rw [stepEnt_out hr] at hs
    cases hs
  obtain ⟨i, hi⟩ : ∃ i : Nat, e = i := ⟨e.toNat, by omega⟩
  have hil : i < r.field.length := by omega
  rw [stepEnt_at hi hil] at hs
  cases hy : stepE r.clock e r.field[i] k v with
  | none => rw [hy] at hs; cases hs
  | some y =>
    rw [hy] at hs
    injection hs with hs
    subst hs
    have h5 := stepE_good h0 h1 (by omega) hi (h4 i hil) hy
    refine raceB_of h0 h1 (by show 1 ≤ (r.field.set i y).length; simpa using h2) (by show (r.field.set i y).length ≤ 8; simpa using h3) (fun j hj => ?_)
    have hj' : j < r.field.length := by simpa using hj
    show entB r.clock r.closed j (r.field.set i y)[j] = true
    rw [List.getElem_set]
    by_cases hij : i = j
    · subst hij
      rw [if_pos rfl]
      exact h5
    · rw [if_neg hij]
      exact h4 j hj'
theorem stepR_good {r r2 : RaceV} {k e v : Int} (hs : stepR r k e v = some r2) : goodR r2 = true := by
  unfold stepR at hs
  by_cases h : goodR r = true
  · rw [if_pos h] at hs
    exact stepG_good h hs
  · rw [if_neg h] at hs
    cases hs
/-- bounds of a valid race -/
theorem ent_bounds {r : RaceV} (h : goodR r = true) : ∀ x ∈ r.field, x.punches.length ≤ 12 ∧ -1 ≤ x.finish ∧ x.finish ≤ 36000 ∧ 0 ≤ x.start ∧ x.start ≤ 36000 := by
  obtain ⟨h0, h1, h2, h3, h4⟩ := raceB_facts h
  intro x hx
  obtain ⟨i, hi, rfl⟩ := List.getElem_of_mem hx
  have h5 := h4 i hi
  have hz : zeroB r.field[i].card = true → r.field[i].punches.length ≤ 12 ∧ -1 ≤ r.field[i].finish ∧ r.field[i].finish ≤ 36000 ∧ 0 ≤ r.field[i].start ∧ r.field[i].start ≤ 36000 := fun hq => by
    unfold zeroB Entrant.card at hq
    simp only [Bool.and_eq_true, decide_eq_true_eq] at hq
    omega
  unfold entB at h5
  by_cases s0 : r.field[i].state = 0
  · rw [if_pos s0] at h5
    simp only [Bool.and_eq_true] at h5
    exact hz h5.1
  by_cases s4 : r.field[i].state = 4
  · rw [if_neg s0, if_pos s4] at h5
    simp only [Bool.and_eq_true] at h5
    exact hz h5.1
  rw [if_neg s0, if_neg s4] at h5
  by_cases s1 : r.field[i].state = 1 ∨ r.field[i].state = 2 ∨ r.field[i].state = 3
  · rw [if_pos s1] at h5
    simp only [Bool.and_eq_true] at h5
    obtain ⟨c1, c2, c3, c4, c5⟩ := card_to h5.2.1
    have e1 : r.field[i].card.start = r.field[i].start := rfl
    have e2 : r.field[i].card.finish = r.field[i].finish := rfl
    have e3 : r.field[i].card.punches = r.field[i].punches := rfl
    rw [e1] at c2 c3
    rw [e2] at c3
    rw [e3] at c4
    omega
  · rw [if_neg s1] at h5
    cases h5

end Go.Proofs.YtflpcdffmpfdpaaGreatDoor

namespace Go.Proofs.YtflpcdffmpfdpaaGreatDoor
open Go.RowKit

theorem good_len {r : RaceV} (h : goodR r = true) : 1 ≤ r.field.length ∧ r.field.length ≤ 8 := by
  obtain ⟨_, _, h2, h3, _⟩ := raceB_facts h
  exact ⟨h2, h3⟩
theorem still_small {r : RaceV} (h : goodR r = true) : ((stillM r).getD []).length ≤ 8 ∧ ∀ x ∈ (stillM r).getD [], -1000000000 ≤ x ∧ x ≤ 1000000000 := by
  have h8 := good_len h
  unfold stillM
  rw [if_pos h]
  refine ⟨Nat.le_trans (inTo_len _ _ _) h8.2, fun x hx => ?_⟩
  obtain ⟨i, rfl, hi, _⟩ := mem_inL.1 hx
  omega
theorem counts_small {r : RaceV} (h : goodR r = true) : ((countsM r).getD []).length ≤ 8 ∧ ∀ x ∈ (countsM r).getD [], -1000000000 ≤ x ∧ x ≤ 1000000000 := by
  have h8 := good_len h
  unfold countsM
  rw [if_pos h]
  refine ⟨by simp [stCounts], fun x hx => ?_⟩
  simp only [Option.getD_some, stCounts, List.mem_cons, List.not_mem_nil, or_false] at hx
  have h0 := fun i => stN_le i r.field
  rcases hx with rfl | rfl | rfl | rfl | rfl
  · have := h0 0; omega
  · have := h0 1; omega
  · have := h0 2; omega
  · have := h0 3; omega
  · have := h0 4; omega
theorem lastE_small {t : Int} {cl : Bool} {i : Nat} {x : Entrant} {p : Int × Int} (h : entB t cl i x = true) (hl : lastE x = some p) : (0 ≤ p.1 ∧ p.1 ≤ 99) ∧ (0 ≤ p.2 ∧ p.2 ≤ 36000) := by
  unfold lastE at hl
  by_cases hs : x.state = 1 ∨ x.state = 3
  · rw [if_pos hs] at hl
    unfold entB at h
    rw [if_neg (by omega), if_neg (by omega), if_pos (by omega)] at h
    simp only [Bool.and_eq_true] at h
    obtain ⟨c1, c2, c3, c4, c5⟩ := card_to h.2.1
    cases hg : x.punches.getLast? with
    | none =>
      rw [hg] at hl
      injection hl with hl
      subst hl
      exact ⟨⟨Int.le_refl _, by show (0 : Int) ≤ 99; decide⟩, c2⟩
    | some q =>
      rw [hg] at hl
      injection hl with hl
      subst hl
      obtain ⟨k, hk, rfl⟩ := List.getElem_of_mem (List.mem_of_getLast? hg)
      have h9 := punch_to (c5 k hk)
      have h10 := inB_true h9.1
      have e1 : x.card.punches[k]'hk = x.punches[k] := rfl
      rw [e1] at h9 h10
      exact ⟨by show 0 ≤ x.punches[k].code ∧ x.punches[k].code ≤ 99; omega, h9.2.1⟩
  · rw [if_neg hs] at hl
    cases hl
theorem last_small {r : RaceV} {e : Int} (h : goodR r = true) : (-1000000000 ≤ ((lastM r e).getD (0, 0)).1 ∧ ((lastM r e).getD (0, 0)).1 ≤ 1000000000) ∧ (-1000000000 ≤ ((lastM r e).getD (0, 0)).2 ∧ ((lastM r e).getD (0, 0)).2 ≤ 1000000000) := by
  cases hl : lastM r e with
  | none => exact ⟨⟨by decide, by decide⟩, ⟨by decide, by decide⟩⟩
  | some p =>
    show (-1000000000 ≤ p.1 ∧ p.1 ≤ 1000000000) ∧ (-1000000000 ≤ p.2 ∧ p.2 ≤ 1000000000)
    unfold lastM at hl
    split at hl
    · cases hx : r.field[e.toNat]? with
      | none => rw [hx] at hl; cases hl
      | some x =>
        rw [hx] at hl
        obtain ⟨hk, rfl⟩ := List.getElem?_eq_some_iff.1 hx
        obtain ⟨_, _, _, _, h4⟩ := raceB_facts h
        have h5 := lastE_small (h4 _ hk) hl
        omega
    · cases hl
theorem order_small {xs : List RunE} {cs : List Int} {limit : Int} (h : xs.length ≤ 8) : ((orderM xs cs limit).getD []).length ≤ 8 ∧ ∀ x ∈ (orderM xs cs limit).getD [], -1000000000 ≤ x ∧ x ≤ 1000000000 := by
  refine ⟨Nat.le_trans (orderM_len _ _ _) h, fun x hx => ?_⟩
  unfold orderM at hx
  by_cases g : judgeB xs cs limit = true
  · rw [if_pos g] at hx
    unfold judgeB at g
    simp only [Bool.and_eq_true] at g
    have := sort_runner g.1 x hx
    omega
  · rw [if_neg g] at hx
    cases hx
theorem runs_small {r : RaceV} {rs : List RunE} (h : runsM r = some rs) : 1 ≤ rs.length ∧ rs.length ≤ 8 ∧ ∀ x ∈ rs, x.punches.length ≤ 12 := by
  unfold runsM at h
  by_cases g : (goodR r && r.closed) = true
  · rw [if_pos g] at h
    injection h with h
    subst h
    simp only [Bool.and_eq_true] at g
    have h8 := good_len g.1
    rw [runsL_len]
    refine ⟨h8.1, h8.2, fun x hx => ?_⟩
    obtain ⟨k, hk, rfl⟩ := List.getElem_of_mem hx
    have hk' : k < r.field.length := by rw [runsL_len] at hk; exact hk
    have e1 : (runsL r.field)[k].punches = r.field[k].punches := by simp [runsL, toRun]
    rw [e1]
    exact (ent_bounds g.1 _ (List.getElem_mem hk')).1
  · rw [if_neg g] at h
    cases h
theorem small_cnt {r : RaceV} (h : goodR r = true) : ∀ x ∈ r.field, x.cnt ≤ 1048576 := fun x hx => by
  have := (ent_bounds h x hx).1
  unfold Entrant.cnt
  omega

end Go.Proofs.YtflpcdffmpfdpaaGreatDoor
