/- Joined texts of this proof: CurDD, DesksP, RunDD, CheckHJ, CheckKJ, TroubQ, TroubR, DesksQ. -/
import Derived.Deep.LoopGhost
import Derived.Deep.CutBlock
import Derived.Lib.OwnBridge
import Derived.Sort.Grow
import Derived.Test.YtkimlajfhepfgaaGreatP11
import Derived.Test.YtkimlajfhepfgaaGreatP07
import Derived.Test.YtkimlajfhepfgaaGreatP03
import Derived.Test.YtkimlajfhepfgaaGreatP02
import Derived.Test.YtkimlajfhepfgaaGreatP05
import Derived.Test.YtkimlajfhepfgaaGreatP06
import Derived.Test.YtkimlajfhepfgaaGreatP04
import Derived.Test.YtkimlajfhepfgaaGreatP10
import Derived.Test.YtkimlajfhepfgaaGreatP09
namespace Go.Proofs.YtkimlajfhepfgaaGreat
open Go.RowKit

/-- A desk, drawn by a call of its own. -/
def DrawnID (w : World) (e : Ending) (w' : World) : Prop := ∃ (H : DeskH) (d : DeskV), e = .returned (.agg #[.slice H.A0 H.n0 H.c0, .slice H.A1 H.n1 H.c1, .slice H.A2 H.n2 H.c2, .slice H.A3 H.n3 H.c3, .slice H.A4 H.n4 H.c4]) ∧ SeesDesk w' w.heap.size H d ∧ DeskFit 2000 H d ∧ H.n3 ≤ H.c3 ∧ Below w.heap.size w w'
/-- A desk and a step, drawn. -/
def DrawnSD (w : World) (e : Ending) (w' : World) : Prop := ∃ (H : DeskH) (d : DeskV) (A : Option Addr) (k c : Nat) (s : DeskStep), e = .returned (.tuple #[.agg #[.slice H.A0 H.n0 H.c0, .slice H.A1 H.n1 H.c1, .slice H.A2 H.n2 H.c2, .slice H.A3 H.n3 H.c3, .slice H.A4 H.n4 H.c4], .agg #[.int .i64 s.kind, .int .i64 s.number, .int .i64 s.cnumber, .int .i64 s.cstart, .int .i64 s.cfinish, .slice A k c]]) ∧ SeesDesk w' w.heap.size H d ∧ DeskFit 2000 H d ∧ H.n3 ≤ H.c3 ∧ Sees w' w.heap.size 2 A k (s.punches.flatMap Punch.enc) ∧ k ≤ 12 ∧ Below w.heap.size w w'
/-- A desk and steps, drawn. -/
def DrawnRD (w : World) (e : Ending) (w' : World) : Prop := ∃ (H : DeskH) (d : DeskV) (A : Option Addr) (k c : Nat) (ss : List DeskStep), e = .returned (.tuple #[.agg #[.slice H.A0 H.n0 H.c0, .slice H.A1 H.n1 H.c1, .slice H.A2 H.n2 H.c2, .slice H.A3 H.n3 H.c3, .slice H.A4 H.n4 H.c4], .slice A k c]) ∧ SeesDesk w' w.heap.size H d ∧ DeskFit 2000 H d ∧ H.n3 ≤ H.c3 ∧ SeesN deskStepSh w' w.heap.size A k ss ∧ k ≤ 40 ∧ (∀ x ∈ ss, x.cnt ≤ 12) ∧ Below w.heap.size w w'

set_option maxRecDepth 100000 in
set_option maxHeartbeats 2000000 in
theorem DrawIsDesk_any (A0 : Option Addr) (m0 c0 : Nat) (w : World) (h : CodeIn w A0 m0) (hm : m0 ≤ 1000000) :
    Calls Tryz.prog 54 #[.slice A0 m0 c0] w (DrawnID w) := by
  have U : Below w.heap.size w ((w.alloc (.cells #[.slice none 0 0, .slice none 0 0, .slice none 0 0, .slice none 0 0, .slice none 0 0] 28)).alloc (.cells #[.slice A0 m0 c0, .int .i64 0, .int .u64 0] 59)) := ((Below.refl _ _).alloc (Nat.le_refl _) _).alloc (by simp) _
  have R : Blk ((w.alloc (.cells #[.slice none 0 0, .slice none 0 0, .slice none 0 0, .slice none 0 0, .slice none 0 0] 28)).alloc (.cells #[.slice A0 m0 c0, .int .i64 0, .int .u64 0] 59)) w.heap.size 28 [.slice none 0 0, .slice none 0 0, .slice none 0 0, .slice none 0 0, .slice none 0 0] := (Blk.at_ rfl : Blk (w.alloc (.cells #[.slice none 0 0, .slice none 0 0, .slice none 0 0, .slice none 0 0, .slice none 0 0] 28)) w.heap.size 28 [.slice none 0 0, .slice none 0 0, .slice none 0 0, .slice none 0 0, .slice none 0 0]).alloc _
  have z1 : ((w.alloc (.cells #[.slice none 0 0, .slice none 0 0, .slice none 0 0, .slice none 0 0, .slice none 0 0] 28)).alloc (.cells #[.slice A0 m0 c0, .int .i64 0, .int .u64 0] 59)).heap.size = w.heap.size + 2 := by simp
  have hc := cur_new h hm U (Nat.le_succ _) (Blk.at_ (by simp) : Blk ((w.alloc (.cells #[.slice none 0 0, .slice none 0 0, .slice none 0 0, .slice none 0 0, .slice none 0 0] 28)).alloc (.cells #[.slice A0 m0 c0, .int .i64 0, .int .u64 0] 59)) (w.heap.size + 1) 59 [.slice A0 m0 c0, .int .i64 0, .int .u64 0])
  go_enter Tryz.func54, Tryz.ntmps54
  go_wp2_with fail
  generalize ((w.alloc (.cells #[.slice none 0 0, .slice none 0 0, .slice none 0 0, .slice none 0 0, .slice none 0 0] 28)).alloc (.cells #[.slice A0 m0 c0, .int .i64 0, .int .u64 0] 59)) = w1 at *
  refine (desk_any (w.heap.size + 1) 0 w1 hc (by omega)).mono ?_
  rintro e w2 ⟨H, d, rfl, s2, f2, -, p2, -, o2⟩
  have R2 := R.only o2 (fun (e : _ = _) => by omega)
  have rc := R2.cell
  have rf := R2.frozen
  have K2 := U.trans (o2.below (fun b (hb : b = _) => by omega) (by omega))
  have hS : Only (fun b => b = w.heap.size) w2 (((((w2.setCell ⟨w.heap.size, 0, none⟩ (.slice H.A0 H.n0 H.c0)).setCell ⟨w.heap.size, 1, none⟩ (.slice H.A1 H.n1 H.c1)).setCell ⟨w.heap.size, 2, none⟩ (.slice H.A2 H.n2 H.c2)).setCell ⟨w.heap.size, 3, none⟩ (.slice H.A3 H.n3 H.c3)).setCell ⟨w.heap.size, 4, none⟩ (.slice H.A4 H.n4 H.c4)) := (only_set (only_set (only_set (only_set (only_set (Only.refl _ _) 0 _) 1 _) 2 _) 3 _) 4 _)
  clear R U h hc o2
  go_wp2_with fail
  refine bodyPost_ret (v := .agg #[.slice H.A0 H.n0 H.c0, .slice H.A1 H.n1 H.c1, .slice H.A2 H.n2 H.c2, .slice H.A3 H.n3 H.c3, .slice H.A4 H.n4 H.c4]) (by simp [results, Tryz.results54, go_sem, rc]) rfl ?_
  exact ⟨H, d, rfl, (s2.draw hS (by omega)).less (by omega), f2, p2, K2.trans (hS.below (fun b hb => Nat.le_of_eq hb.symm) K2.size)⟩

set_option maxRecDepth 100000 in
set_option maxHeartbeats 2000000 in
theorem DrawWaitingFor_any (A0 : Option Addr) (m0 c0 : Nat) (w : World) (h : CodeIn w A0 m0) (hm : m0 ≤ 1000000) :
    Calls Tryz.prog 24 #[.slice A0 m0 c0] w (DrawnID w) := by
  have U : Below w.heap.size w (w.alloc (.cells #[.slice none 0 0, .slice none 0 0, .slice none 0 0, .slice none 0 0, .slice none 0 0] 28)) := (Below.refl _ _).alloc (Nat.le_refl _) _
  have R : Blk (w.alloc (.cells #[.slice none 0 0, .slice none 0 0, .slice none 0 0, .slice none 0 0, .slice none 0 0] 28)) w.heap.size 28 [.slice none 0 0, .slice none 0 0, .slice none 0 0, .slice none 0 0, .slice none 0 0] := Blk.at_ rfl
  have z1 : (w.alloc (.cells #[.slice none 0 0, .slice none 0 0, .slice none 0 0, .slice none 0 0, .slice none 0 0] 28)).heap.size = w.heap.size + 1 := by simp
  go_enter Tryz.func24, Tryz.ntmps24
  go_wp2_with fail
  generalize (w.alloc (.cells #[.slice none 0 0, .slice none 0 0, .slice none 0 0, .slice none 0 0, .slice none 0 0] 28)) = w1 at *
  refine (DrawIsDesk_any A0 m0 c0 w1 (h.next U) hm).mono ?_
  rintro e w2 ⟨H, d, rfl, s2, f2, p2, b2⟩
  have R2 := R.next b2
  have rc := R2.cell
  have rf := R2.frozen
  have K2 := bel_then U b2
  have hS : Only (fun b => b = w.heap.size) w2 (((((w2.setCell ⟨w.heap.size, 0, none⟩ (.slice H.A0 H.n0 H.c0)).setCell ⟨w.heap.size, 1, none⟩ (.slice H.A1 H.n1 H.c1)).setCell ⟨w.heap.size, 2, none⟩ (.slice H.A2 H.n2 H.c2)).setCell ⟨w.heap.size, 3, none⟩ (.slice H.A3 H.n3 H.c3)).setCell ⟨w.heap.size, 4, none⟩ (.slice H.A4 H.n4 H.c4)) := (only_set (only_set (only_set (only_set (only_set (Only.refl _ _) 0 _) 1 _) 2 _) 3 _) 4 _)
  clear R U h b2
  go_wp2_with fail
  refine bodyPost_ret (v := .agg #[.slice H.A0 H.n0 H.c0, .slice H.A1 H.n1 H.c1, .slice H.A2 H.n2 H.c2, .slice H.A3 H.n3 H.c3, .slice H.A4 H.n4 H.c4]) (by simp [results, Tryz.results24, go_sem, rc]) rfl ?_
  exact ⟨H, d, rfl, (s2.draw hS (by omega)).less (by omega), f2, p2, K2.trans (hS.below (fun b hb => Nat.le_of_eq hb.symm) K2.size)⟩

set_option maxRecDepth 100000 in
set_option maxHeartbeats 2000000 in
theorem DrawDeskRanking_any (A0 : Option Addr) (m0 c0 : Nat) (w : World) (h : CodeIn w A0 m0) (hm : m0 ≤ 1000000) :
    Calls Tryz.prog 27 #[.slice A0 m0 c0] w (DrawnID w) := by
  have U : Below w.heap.size w (w.alloc (.cells #[.slice none 0 0, .slice none 0 0, .slice none 0 0, .slice none 0 0, .slice none 0 0] 28)) := (Below.refl _ _).alloc (Nat.le_refl _) _
  have R : Blk (w.alloc (.cells #[.slice none 0 0, .slice none 0 0, .slice none 0 0, .slice none 0 0, .slice none 0 0] 28)) w.heap.size 28 [.slice none 0 0, .slice none 0 0, .slice none 0 0, .slice none 0 0, .slice none 0 0] := Blk.at_ rfl
  have z1 : (w.alloc (.cells #[.slice none 0 0, .slice none 0 0, .slice none 0 0, .slice none 0 0, .slice none 0 0] 28)).heap.size = w.heap.size + 1 := by simp
  go_enter Tryz.func27, Tryz.ntmps27
  go_wp2_with fail
  generalize (w.alloc (.cells #[.slice none 0 0, .slice none 0 0, .slice none 0 0, .slice none 0 0, .slice none 0 0] 28)) = w1 at *
  refine (DrawIsDesk_any A0 m0 c0 w1 (h.next U) hm).mono ?_
  rintro e w2 ⟨H, d, rfl, s2, f2, p2, b2⟩
  have R2 := R.next b2
  have rc := R2.cell
  have rf := R2.frozen
  have K2 := bel_then U b2
  have hS : Only (fun b => b = w.heap.size) w2 (((((w2.setCell ⟨w.heap.size, 0, none⟩ (.slice H.A0 H.n0 H.c0)).setCell ⟨w.heap.size, 1, none⟩ (.slice H.A1 H.n1 H.c1)).setCell ⟨w.heap.size, 2, none⟩ (.slice H.A2 H.n2 H.c2)).setCell ⟨w.heap.size, 3, none⟩ (.slice H.A3 H.n3 H.c3)).setCell ⟨w.heap.size, 4, none⟩ (.slice H.A4 H.n4 H.c4)) := (only_set (only_set (only_set (only_set (only_set (Only.refl _ _) 0 _) 1 _) 2 _) 3 _) 4 _)
  clear R U h b2
  go_wp2_with fail
  refine bodyPost_ret (v := .agg #[.slice H.A0 H.n0 H.c0, .slice H.A1 H.n1 H.c1, .slice H.A2 H.n2 H.c2, .slice H.A3 H.n3 H.c3, .slice H.A4 H.n4 H.c4]) (by simp [results, Tryz.results27, go_sem, rc]) rfl ?_
  exact ⟨H, d, rfl, (s2.draw hS (by omega)).less (by omega), f2, p2, K2.trans (hS.below (fun b hb => Nat.le_of_eq hb.symm) K2.size)⟩

set_option maxRecDepth 100000 in
set_option maxHeartbeats 2000000 in
theorem DrawTroubleNumbers_any (A0 : Option Addr) (m0 c0 : Nat) (w : World) (h : CodeIn w A0 m0) (hm : m0 ≤ 1000000) :
    Calls Tryz.prog 29 #[.slice A0 m0 c0] w (DrawnID w) := by
  have U : Below w.heap.size w (w.alloc (.cells #[.slice none 0 0, .slice none 0 0, .slice none 0 0, .slice none 0 0, .slice none 0 0] 28)) := (Below.refl _ _).alloc (Nat.le_refl _) _
  have R : Blk (w.alloc (.cells #[.slice none 0 0, .slice none 0 0, .slice none 0 0, .slice none 0 0, .slice none 0 0] 28)) w.heap.size 28 [.slice none 0 0, .slice none 0 0, .slice none 0 0, .slice none 0 0, .slice none 0 0] := Blk.at_ rfl
  have z1 : (w.alloc (.cells #[.slice none 0 0, .slice none 0 0, .slice none 0 0, .slice none 0 0, .slice none 0 0] 28)).heap.size = w.heap.size + 1 := by simp
  go_enter Tryz.func29, Tryz.ntmps29
  go_wp2_with fail
  generalize (w.alloc (.cells #[.slice none 0 0, .slice none 0 0, .slice none 0 0, .slice none 0 0, .slice none 0 0] 28)) = w1 at *
  refine (DrawIsDesk_any A0 m0 c0 w1 (h.next U) hm).mono ?_
  rintro e w2 ⟨H, d, rfl, s2, f2, p2, b2⟩
  have R2 := R.next b2
  have rc := R2.cell
  have rf := R2.frozen
  have K2 := bel_then U b2
  have hS : Only (fun b => b = w.heap.size) w2 (((((w2.setCell ⟨w.heap.size, 0, none⟩ (.slice H.A0 H.n0 H.c0)).setCell ⟨w.heap.size, 1, none⟩ (.slice H.A1 H.n1 H.c1)).setCell ⟨w.heap.size, 2, none⟩ (.slice H.A2 H.n2 H.c2)).setCell ⟨w.heap.size, 3, none⟩ (.slice H.A3 H.n3 H.c3)).setCell ⟨w.heap.size, 4, none⟩ (.slice H.A4 H.n4 H.c4)) := (only_set (only_set (only_set (only_set (only_set (Only.refl _ _) 0 _) 1 _) 2 _) 3 _) 4 _)
  clear R U h b2
  go_wp2_with fail
  refine bodyPost_ret (v := .agg #[.slice H.A0 H.n0 H.c0, .slice H.A1 H.n1 H.c1, .slice H.A2 H.n2 H.c2, .slice H.A3 H.n3 H.c3, .slice H.A4 H.n4 H.c4]) (by simp [results, Tryz.results29, go_sem, rc]) rfl ?_
  exact ⟨H, d, rfl, (s2.draw hS (by omega)).less (by omega), f2, p2, K2.trans (hS.below (fun b hb => Nat.le_of_eq hb.symm) K2.size)⟩

set_option maxRecDepth 100000 in
set_option maxHeartbeats 2000000 in
theorem DrawCheckAll_any (A0 : Option Addr) (m0 c0 : Nat) (w : World) (h : CodeIn w A0 m0) (hm : m0 ≤ 1000000) :
    Calls Tryz.prog 18 #[.slice A0 m0 c0] w (DrawnID w) := by
  have U : Below w.heap.size w (w.alloc (.cells #[.slice none 0 0, .slice none 0 0, .slice none 0 0, .slice none 0 0, .slice none 0 0] 28)) := (Below.refl _ _).alloc (Nat.le_refl _) _
  have R : Blk (w.alloc (.cells #[.slice none 0 0, .slice none 0 0, .slice none 0 0, .slice none 0 0, .slice none 0 0] 28)) w.heap.size 28 [.slice none 0 0, .slice none 0 0, .slice none 0 0, .slice none 0 0, .slice none 0 0] := Blk.at_ rfl
  have z1 : (w.alloc (.cells #[.slice none 0 0, .slice none 0 0, .slice none 0 0, .slice none 0 0, .slice none 0 0] 28)).heap.size = w.heap.size + 1 := by simp
  go_enter Tryz.func18, Tryz.ntmps18
  go_wp2_with fail
  generalize (w.alloc (.cells #[.slice none 0 0, .slice none 0 0, .slice none 0 0, .slice none 0 0, .slice none 0 0] 28)) = w1 at *
  refine (DrawIsDesk_any A0 m0 c0 w1 (h.next U) hm).mono ?_
  rintro e w2 ⟨H, d, rfl, s2, f2, p2, b2⟩
  have R2 := R.next b2
  have rc := R2.cell
  have rf := R2.frozen
  have K2 := bel_then U b2
  have hS : Only (fun b => b = w.heap.size) w2 (((((w2.setCell ⟨w.heap.size, 0, none⟩ (.slice H.A0 H.n0 H.c0)).setCell ⟨w.heap.size, 1, none⟩ (.slice H.A1 H.n1 H.c1)).setCell ⟨w.heap.size, 2, none⟩ (.slice H.A2 H.n2 H.c2)).setCell ⟨w.heap.size, 3, none⟩ (.slice H.A3 H.n3 H.c3)).setCell ⟨w.heap.size, 4, none⟩ (.slice H.A4 H.n4 H.c4)) := (only_set (only_set (only_set (only_set (only_set (Only.refl _ _) 0 _) 1 _) 2 _) 3 _) 4 _)
  clear R U h b2
  go_wp2_with fail
  refine bodyPost_ret (v := .agg #[.slice H.A0 H.n0 H.c0, .slice H.A1 H.n1 H.c1, .slice H.A2 H.n2 H.c2, .slice H.A3 H.n3 H.c3, .slice H.A4 H.n4 H.c4]) (by simp [results, Tryz.results18, go_sem, rc]) rfl ?_
  exact ⟨H, d, rfl, (s2.draw hS (by omega)).less (by omega), f2, p2, K2.trans (hS.below (fun b hb => Nat.le_of_eq hb.symm) K2.size)⟩

/-- Steps under way: in memory of the call's own, later than w0. -/
structure RunQ (w0 wr : World) (g m : Nat) (A : Option Addr) (k c : Nat) (rs : List (Hd DeskStep)) : Prop where
  steps : MineR deskStepSh wr (In w0.heap.size wr.heap.size) 33 109 A k c rs
  cnt : ∀ r ∈ rs, r.x.cnt ≤ 12
  cur : Cur wr g m
  only : Only (fun b => b = g) w0 wr
theorem RunQ.more {w0 wr : World} {g m m' : Nat} {A : Option Addr} {k c : Nat} {rs : List (Hd DeskStep)} (q : RunQ w0 wr g m A k c rs) (hm : m ≤ m') : RunQ w0 wr g m' A k c rs := { q with cur := q.cur.more hm }
/-- One step more. -/
theorem RunQ.push {w0 wr w1 w2 w3 : World} {g m m' : Nat} {A A2 PA : Option Addr} {k c c2 pk pc : Nat} {rs : List (Hd DeskStep)} {s : DeskStep} (q : RunQ w0 wr g m A k c rs) (hg : g < w0.heap.size) (o1 : Only (fun b => b = g) wr w1) (c1 : Cur w1 g m')
    (ow : w1.ownsRow wr.heap.size 109 2 (.slice PA pk pc) pk (s.punches.flatMap Punch.enc)) (hk : pk ≤ 12) (h2 : Below w1.heap.size w1 w2) (h3 : Only (OwnB A) w2 w3)
    (o3 : w3.ownsRow 0 33 6 (.slice A2 (k + 1) c2) (k + 1) (rs.flatMap deskStepSh.enc ++ deskStepSh.enc ⟨s, PA, pk, pc⟩)) (hat : ∀ b, OwnB A2 b → OwnB A b ∨ w2.heap.size ≤ b) : RunQ w0 w3 g m' A2 (k + 1) c2 (rs ++ [⟨s, PA, pk, pc⟩]) := by
  have z0 := q.only.size
  have z1 := o1.size
  have z2 := h2.size
  have hA : ∀ b, OwnB A b → w0.heap.size ≤ b ∧ b < wr.heap.size := fun b hb => q.steps.outer.top b hb
  have i1 := q.steps.inners.only o1 (fun b h1 (e : _ = _) => by have := h1.1; omega)
  obtain ⟨hin, hap⟩ := nest_snoc (sh := deskStepSh) (B := w0.heap.size) (D := fun _ => False) i1 q.steps.apart (fun b hb => (hA b hb).2) ow (fun _ h => h.elim) (Nat.le_refl _) (Only.of_below h2) h3 hat z0 z1
  have hcnt : s.punches.length = pk := by
    have := (Sees.of_own ow).count (by decide) (fun _ => rfl)
    exact this
  refine ⟨⟨⟨by rw [List.flatMap_append, List.flatMap_singleton]; exact o3, fun b hb => ?_⟩, hin, hap⟩, fun r hr => ?_, (c1.next h2).keep h3 (fun hb => by have := (hA _ hb).1; omega) (fun b hb => by have := (hA _ hb).1; omega), ?_⟩
  · refine ⟨?_, (own_top o3 hb).2⟩
    rcases hat b hb with h5 | h5
    · exact (hA b h5).1
    · omega
  · rcases List.mem_append.1 hr with hr | hr
    · exact q.cnt r hr
    · obtain rfl := List.mem_singleton.1 hr
      show s.punches.length ≤ 12
      omega
  · have o2 := (q.only.trans o1).then_ h2
    exact ⟨h3.os.trans o2.os, h3.tape.trans o2.tape, h3.output.trans o2.output, Nat.le_trans o2.size h3.size, fun i hi hS => (h3.block i (Nat.lt_of_lt_of_le hi o2.size) (fun hb => by have := (hA _ hb).1; omega)).trans (o2.block i hi hS)⟩

end Go.Proofs.YtkimlajfhepfgaaGreat

namespace Go.Proofs.YtkimlajfhepfgaaGreat
open Go.RowKit

/-- All that a desk has. -/
def sumD (d : DeskV) : Nat := d.queue.length + d.done.length + d.trouble.length
/-- Rows have different numbers. -/
theorem done_apart {d : DeskV} (h : deskB d = true) {k i : Nat} (hki : k < i) (hi : i < d.done.length) : d.done[k].number ≠ d.done[i].number := by
  unfold deskB at h
  simp only [Bool.and_eq_true] at h
  have h1 := allTo_at h.2 hi
  rw [rowAt_at hi] at h1
  unfold rowB at h1
  simp only [Bool.and_eq_true] at h1
  have h2 := h1.1.1.2
  intro e
  have h3 : doneB (d.done.take i) d.done[i].number = true := by
    unfold doneB
    rw [List.any_eq_true]
    exact ⟨d.done[k], List.mem_take_iff_getElem.2 ⟨k, by omega, rfl⟩, by simp [isNo, e]⟩
  rw [h3] at h2
  exact absurd h2 (by decide)
theorem checkN_empty (d : DeskV) : (checkN d.queue.length d).queue = [] := by
  rw [checkN_queue, List.drop_length]
/-- Who is waited for. -/
def waitL (d : DeskV) : List Int := d.known.filter fun v => !doneB d.done v
theorem filter_less {l : List Int} {p : Int → Bool} {a : Int} (hn : l.Nodup) (ha : a ∈ l) (hp : p a = true) : (l.filter fun v => p v && !(decide (a = v))).length + 1 = (l.filter p).length := by
  induction l with
  | nil => simp at ha
  | cons x l ih =>
    have h1 := List.nodup_cons.1 hn
    rcases List.mem_cons.1 ha with e | ha2
    · subst e
      have h2 : (l.filter fun v => p v && !(decide (a = v))) = l.filter p := by
        refine List.filter_congr fun v hv => ?_
        have : a ≠ v := fun e => h1.1 (e ▸ hv)
        simp [this]
      rw [List.filter_cons_of_neg (by simp), List.filter_cons_of_pos hp, h2, List.length_cons]
    · have h2 := ih h1.2 ha2
      have h3 : a ≠ x := fun e => h1.1 (e ▸ ha2)
      cases hx : p x
      · rw [List.filter_cons_of_neg (by simp [hx]), List.filter_cons_of_neg (by simp [hx])]
        exact h2
      · rw [List.filter_cons_of_pos (by simp [hx, h3]), List.filter_cons_of_pos hx, List.length_cons, List.length_cons]
        omega
theorem doneB_snoc (rows : List DeskRow) (r : DeskRow) (v : Int) : doneB (rows ++ [r]) v = (doneB rows v || decide (r.number = v)) := by
  unfold doneB
  rw [List.any_append]
  simp [isNo]
theorem checkD_wait {d : DeskV} (hk : d.known.Nodup) : (waitL (checkD d)).length + ((checkD d).done.length - d.done.length) = (waitL d).length ∧ d.done.length ≤ (checkD d).done.length := by
  cases hq : d.queue with
  | nil =>
    have : checkD d = d := by unfold checkD; rw [hq]
    rw [this]
    omega
  | cons c q =>
    have hd := putsB_done hq
    cases hp : putsB d c
    · have h1 : checkD d = { d with queue := q, trouble := d.trouble ++ [c] } := by unfold checkD; rw [hq]; simp [hp]
      rw [h1]
      exact ⟨by show (waitL d).length + (d.done.length - d.done.length) = (waitL d).length; omega, Nat.le_refl _⟩
    · have h1 : checkD d = { d with queue := q, done := d.done ++ [rowOf d c] } := by unfold checkD; rw [hq]; simp [hp]
      unfold putsB at hp
      simp only [Bool.and_eq_true] at hp
      have h2 : c.number ∈ d.known := hasI_mem.1 hp.1
      have h3 := filter_less (p := fun v => !doneB d.done v) hk h2 hp.2
      have h4 : waitL (checkD d) = d.known.filter fun v => !doneB d.done v && !decide (c.number = v) := by
        rw [h1]
        unfold waitL
        refine List.filter_congr fun v _ => ?_
        show (!doneB (d.done ++ [rowOf d c]) v) = _
        rw [doneB_snoc, Bool.not_or]
        rfl
      rw [h4, h1]
      simp only [List.length_append, List.length_singleton]
      unfold waitL
      omega
theorem checkN_wait {d : DeskV} (hk : d.known.Nodup) : ∀ k, (waitL (checkN k d)).length + ((checkN k d).done.length - d.done.length) = (waitL d).length ∧ d.done.length ≤ (checkN k d).done.length
  | 0 => ⟨by show (waitL d).length + (d.done.length - d.done.length) = (waitL d).length; omega, Nat.le_refl _⟩
  | k + 1 => by
    obtain ⟨h1, h2⟩ := checkN_wait hk k
    have hk2 : (checkN k d).known.Nodup := by rw [(checkN_same d k).2]; exact hk
    obtain ⟨h3, h4⟩ := checkD_wait hk2
    refine ⟨?_, Nat.le_trans h2 h4⟩
    rw [checkN]
    omega
theorem known_nodup {d : DeskV} (h : deskB d = true) : d.known.Nodup := (risingB_all (deskB_rising h)).1.imp fun hab => by omega
/-- A number that is done is no longer waited for. -/
theorem done_not_waited {d : DeskV} {r : DeskRow} (hr : r ∈ d.done) : r.number ∉ waitL d := fun hm => by
  have h1 := (List.mem_filter.1 hm).2
  have h2 : doneB d.done r.number = true := by
    unfold doneB
    rw [List.any_eq_true]
    exact ⟨r, hr, by simp [isNo]⟩
  rw [h2] at h1
  exact absurd h1 (by decide)
/-- A card in trouble can be refused. -/
theorem refuse_ok {d : DeskV} {s : DeskStep} (h : deskB d = true) (hk : s.kind = 4) (hz : zeroB s.card = true) (hm : 0 < (withL d.trouble s.number).length) : stepB d s = true := by
  unfold stepB stepOk stepOut
  rw [if_neg (by omega), if_neg (by omega), if_neg (by omega), if_pos hk, if_neg (by omega), if_neg (by omega), if_neg (by omega), if_pos hk, if_pos hz, hz]
  have hp := parts_len d.trouble s.number
  simp only [Bool.and_eq_true, decide_eq_true_eq]
  refine ⟨⟨trivial, hm⟩, ?_⟩
  unfold deskB topB at h ⊢
  simp only [Bool.and_eq_true, decide_eq_true_eq, List.all_eq_true] at h ⊢
  exact ⟨⟨⟨⟨h.1.1.1.1, h.1.1.1.2⟩, fun c hc => h.1.1.2 c (List.mem_filter.1 hc).1⟩, by have := h.1.2; omega⟩, h.2⟩

end Go.Proofs.YtkimlajfhepfgaaGreat

namespace Go.Proofs.YtkimlajfhepfgaaGreat
open Go.RowKit

/-- A desk in memory of the call's own, or none; and a number. -/
def GivesDeskIO (w : World) (R : Option DeskV) (c : Int) (e : Ending) (w' : World) : Prop :=
  ∃ H : DeskH, e = .returned (.tuple #[.agg #[.slice H.A0 H.n0 H.c0, .slice H.A1 H.n1 H.c1, .slice H.A2 H.n2 H.c2, .slice H.A3 H.n3 H.c3, .slice H.A4 H.n4 H.c4], .int .i64 c, .bool R.isSome]) ∧ MineDesk w' (In w.heap.size w'.heap.size) H (R.getD deskZ) ∧ DeskFit 1048576 H (R.getD deskZ) ∧ H.n3 ≤ H.c3 ∧ Below w.heap.size w w'
theorem givesDIO_none {w w' : World} (h : Below w.heap.size w w') : GivesDeskIO w none 0 (.returned (.tuple #[.agg #[.slice none 0 0, .slice none 0 0, .slice none 0 0, .slice none 0 0, .slice none 0 0], .int .i64 0, .bool false])) w' :=
  ⟨⟨none, 0, 0, none, 0, 0, none, 0, 0, none, 0, 0, none, 0, 0⟩, rfl, deskZ_mine _ _, deskZ_fit, Nat.le_refl _, h⟩
theorem checkAll_none {d : DeskV} (g : deskB d = false) : checkAllM d = none ∧ checkAllC d = 0 := by
  unfold checkAllM checkAllC
  rw [g]
  exact ⟨rfl, rfl⟩
theorem checkAll_some {d : DeskV} {c : Nat} (g : deskB d = true) (h : (checkN d.queue.length d).done.length = d.done.length + c) : checkAllM d = some (checkN d.queue.length d) ∧ checkAllC d = (c : Int) := by
  unfold checkAllM checkAllC
  rw [g, h]
  exact ⟨rfl, by rw [if_pos rfl]; omega⟩
theorem MineW.caps {w : World} {S : Nat → Prop} {h : DeskH} {d : DeskV} (m : MineW w S h d) : h.n3 ≤ h.c3 := by
  obtain ⟨col, m⟩ := m
  exact own_cap m.f3.own

set_option maxRecDepth 100000 in
set_option maxHeartbeats 4000000 in
theorem CheckAll_any (h : DeskH) (d : DeskV) (w : World) (hs : SeesDesk w 0 h d) (hf : DeskFit 1048576 h d) (hc : h.n3 ≤ h.c3) :
    Calls Tryz.prog 19 #[.agg #[.slice h.A0 h.n0 h.c0, .slice h.A1 h.n1 h.c1, .slice h.A2 h.n2 h.c2, .slice h.A3 h.n3 h.c3, .slice h.A4 h.n4 h.c4]] w (GivesDeskIO w (checkAllM d) (checkAllC d)) := by
  have K0 : Below w.heap.size w ((w.alloc (.cells #[.slice h.A0 h.n0 h.c0, .slice h.A1 h.n1 h.c1, .slice h.A2 h.n2 h.c2, .slice h.A3 h.n3 h.c3, .slice h.A4 h.n4 h.c4] 28)).alloc (.cells #[.slice none 0 0, .slice none 0 0, .slice none 0 0, .slice none 0 0, .slice none 0 0] 28)) := ((Below.refl w.heap.size w).alloc (Nat.le_refl _) _).alloc (by simp) _
  have P : Blk ((w.alloc (.cells #[.slice h.A0 h.n0 h.c0, .slice h.A1 h.n1 h.c1, .slice h.A2 h.n2 h.c2, .slice h.A3 h.n3 h.c3, .slice h.A4 h.n4 h.c4] 28)).alloc (.cells #[.slice none 0 0, .slice none 0 0, .slice none 0 0, .slice none 0 0, .slice none 0 0] 28)) w.heap.size 28 [.slice h.A0 h.n0 h.c0, .slice h.A1 h.n1 h.c1, .slice h.A2 h.n2 h.c2, .slice h.A3 h.n3 h.c3, .slice h.A4 h.n4 h.c4] := (Blk.at_ rfl).alloc _
  have R : Blk ((w.alloc (.cells #[.slice h.A0 h.n0 h.c0, .slice h.A1 h.n1 h.c1, .slice h.A2 h.n2 h.c2, .slice h.A3 h.n3 h.c3, .slice h.A4 h.n4 h.c4] 28)).alloc (.cells #[.slice none 0 0, .slice none 0 0, .slice none 0 0, .slice none 0 0, .slice none 0 0] 28)) (w.heap.size + 1) 28 [.slice none 0 0, .slice none 0 0, .slice none 0 0, .slice none 0 0, .slice none 0 0] := Blk.at_ (by simp)
  have z0 : w.heap.size + 2 ≤ (((w.alloc (.cells #[.slice h.A0 h.n0 h.c0, .slice h.A1 h.n1 h.c1, .slice h.A2 h.n2 h.c2, .slice h.A3 h.n3 h.c3, .slice h.A4 h.n4 h.c4] 28)).alloc (.cells #[.slice none 0 0, .slice none 0 0, .slice none 0 0, .slice none 0 0, .slice none 0 0] 28))).heap.size := by simp
  go_enter Tryz.func19, Tryz.ntmps19
  go_wp2_with fail
  generalize ((w.alloc (.cells #[.slice h.A0 h.n0 h.c0, .slice h.A1 h.n1 h.c1, .slice h.A2 h.n2 h.c2, .slice h.A3 h.n3 h.c3, .slice h.A4 h.n4 h.c4] 28)).alloc (.cells #[.slice none 0 0, .slice none 0 0, .slice none 0 0, .slice none 0 0, .slice none 0 0] 28)) = w0 at *
  refine (IsDesk_any h d _ (hs.below K0 (Nat.le_refl _)) hf hc).mono ?_
  cases g : deskB d
  · rintro x w1 ⟨rfl, b1⟩
    have K1 := bel_then K0 b1
    have R1 := R.next b1
    have rc := R1.cell
    have rf := R1.frozen
    go_wp2_with fail
    refine bodyPost_ret (v := .tuple #[.agg #[.slice none 0 0, .slice none 0 0, .slice none 0 0, .slice none 0 0, .slice none 0 0], .int .i64 0, .bool false]) (by simp [results, Tryz.results19, go_sem, rc]) rfl ?_
    rw [(checkAll_none g).1, (checkAll_none g).2]
    have E := ((((((Only.refl (fun b => b = w.heap.size + 1) w1).setCell (p := ⟨w.heap.size + 1, 0, none⟩) rfl (.slice none 0 0)).setCell (p := ⟨w.heap.size + 1, 1, none⟩) rfl (.slice none 0 0)).setCell (p := ⟨w.heap.size + 1, 2, none⟩) rfl (.slice none 0 0)).setCell (p := ⟨w.heap.size + 1, 3, none⟩) rfl (.slice none 0 0)).setCell (p := ⟨w.heap.size + 1, 4, none⟩) rfl (.slice none 0 0))
    exact givesDIO_none (K1.trans (E.below (fun k hk => by omega) K1.size))
  · rintro x w1 ⟨rfl, b1⟩
    have SM := deskB_small g
    have K1 := bel_then K0 b1
    have R1 := R.next b1
    have P1 := P.next b1
    have z1 := b1.size
    have pc := P1.cell
    clear P R K0 b1
    go_wp2_with fail
    refine (newDeskW_any h d _ (hs.below K1 (Nat.le_refl _)) hf).mono ?_
    rintro x w2 ⟨H, rfl, M, F, C3, C2, b2⟩
    have K2 := bel_then K1 b2
    have R2 := R1.next b2
    have z2 := b2.size
    have hn2 := Lib.hid (SM.lens M.desk.sees).2.2.1
    have U : Below w2.heap.size w2 (w2.alloc (.cells #[.slice H.A0 H.n0 H.c0, .slice H.A1 H.n1 H.c1, .slice H.A2 H.n2 H.c2, .slice H.A3 H.n3 H.c3, .slice H.A4 H.n4 H.c4] 28)) := (Below.refl _ _).alloc (Nat.le_refl _) _
    have B3 : Blk (w2.alloc (.cells #[.slice H.A0 H.n0 H.c0, .slice H.A1 H.n1 H.c1, .slice H.A2 H.n2 H.c2, .slice H.A3 H.n3 H.c3, .slice H.A4 H.n4 H.c4] 28)) w2.heap.size 28 [.slice H.A0 H.n0 H.c0, .slice H.A1 H.n1 H.c1, .slice H.A2 H.n2 H.c2, .slice H.A3 H.n3 H.c3, .slice H.A4 H.n4 H.c4] := Blk.at_ rfl
    have K3 := bel_then K2 U
    have R3 := R2.next U
    have M3 := (M.next U).wide (T := fun b => b ≠ w2.heap.size ∧ w.heap.size + 2 ≤ b ∧ b < (w2.alloc (.cells #[.slice H.A0 H.n0 H.c0, .slice H.A1 H.n1 H.c1, .slice H.A2 H.n2 H.c2, .slice H.A3 H.n3 H.c3, .slice H.A4 H.n4 H.c4] 28)).heap.size) (fun b hb => ⟨by have := hb.2; omega, by have := hb.1; omega, Nat.lt_of_lt_of_le hb.2 U.size⟩)
    clear pc P1 K1 R1 M K2 R2 U b2
    have hg5 : w.heap.size + 2 ≤ w2.heap.size := by omega
    have G := Lib.hid g
    clear g
    have HT := SM.total
    go_wp2_with fail
    generalize w2.alloc (.cells #[.slice H.A0 H.n0 H.c0, .slice H.A1 H.n1 H.c1, .slice H.A2 H.n2 H.c2, .slice H.A3 H.n3 H.c3, .slice H.A4 H.n4 H.c4] 28) = w3 at *
    generalize w2.heap.size = g5 at *
    go_loopg [6] d.queue.length (fun gk v wr => ∃ (h' : DeskH) (k c : Nat), v = .int .i64 (c : Int) ∧ c + gk ≤ 1000 ∧ Hid (gk + k = d.queue.length ∧ (checkN k d).done.length = d.done.length + c) ∧ h'.n2 = gk ∧ h'.n2 ≤ h'.c2 ∧ Blk wr g5 28 [.slice h'.A0 h'.n0 h'.c0, .slice h'.A1 h'.n1 h'.c1, .slice h'.A2 h'.n2 h'.c2, .slice h'.A3 h'.n3 h'.c3, .slice h'.A4 h'.n4 h'.c4] ∧ MineW wr (fun b => b ≠ g5 ∧ w.heap.size + 2 ≤ b ∧ b < wr.heap.size) h' (checkN k d) ∧ Blk wr (w.heap.size + 1) 28 [.slice none 0 0, .slice none 0 0, .slice none 0 0, .slice none 0 0, .slice none 0 0] ∧ Below w.heap.size w wr)
    case atStart => exact ⟨H, 0, 0, rfl, by omega, Lib.hid ⟨by omega, rfl⟩, hn2.out, C2, B3, M3, R3, K3⟩
    case round =>
      obtain ⟨h', k, c, rfl, hcg, HK, hn, hcap, B, M, R, K⟩ := hrel
      clear B3 M3 R3 K3
      have bc := B.cell
      have rc := R.cell
      have rf := R.frozen
      have hgl := B.lt
      rcases gk with _ | gk
      · have hkN : k = d.queue.length := by have := HK.out.1; omega
        subst hkN
        have hall := checkAll_some G.out HK.out.2
        have HA := Lib.hid hall
        have hpos : ¬ (0 : Int) < (h'.n2 : Int) := by omega
        have HN := Lib.hid hn
        clear hall hcap hn
        go_wp2_with fail
        refine bodyPost_ret (v := .tuple #[.agg #[.slice h'.A0 h'.n0 h'.c0, .slice h'.A1 h'.n1 h'.c1, .slice h'.A2 h'.n2 h'.c2, .slice h'.A3 h'.n3 h'.c3, .slice h'.A4 h'.n4 h'.c4], .int .i64 (c : Int), .bool true]) (by simp [results, Tryz.results19, go_sem, rc]) rfl ?_
        rw [HA.out.1, HA.out.2]
        have E := ((((((Only.refl (fun b => b = w.heap.size + 1) wr).setCell (p := ⟨w.heap.size + 1, 0, none⟩) rfl (.slice h'.A0 h'.n0 h'.c0)).setCell (p := ⟨w.heap.size + 1, 1, none⟩) rfl (.slice h'.A1 h'.n1 h'.c1)).setCell (p := ⟨w.heap.size + 1, 2, none⟩) rfl (.slice h'.A2 h'.n2 h'.c2)).setCell (p := ⟨w.heap.size + 1, 3, none⟩) rfl (.slice h'.A3 h'.n3 h'.c3)).setCell (p := ⟨w.heap.size + 1, 4, none⟩) rfl (.slice h'.A4 h'.n4 h'.c4))
        have zF := E.size
        have M4 := M.only E (fun b h1 h2 => by have := h1.2.1; omega)
        exact ⟨h', rfl, (M4.wide (fun b hb => by have := hb.2.1; have := hb.2.2; exact ⟨by omega, by omega⟩)).desk, (SM.checks _).fit M.desk.sees (by decide) (by decide), M.caps, K.trans (E.below (fun k hk => by omega) K.size)⟩
      · have hpos : (0 : Int) < (h'.n2 : Int) := by omega
        have HN := Lib.hid hn
        clear hn
        go_wp2_with fail
        refine (checkFirst_any g5 h' (checkN k d) _ gk _ B M (fun b hb => hb.2.2) (fun hb => hb.1 rfl) ((SM.checks k).fit M.desk.sees (by decide) (by decide)) HN.out hcap (fun c hc => ((SM.checks k).qc c hc).2)).mono ?_
        rintro e w4 ⟨h2, x, q, hq, rfl, B', M', ⟨e2, cap', -⟩, ho⟩
        have hz := ho.size
        have K' := K.trans (ho.below (fun b hb => by rcases hb with hb | hb; (· have := hb.2.1; omega); (· omega)) K.size)
        have R' := R.only ho (fun hb => by rcases hb with hb | hb; (· have := hb.2.1; omega); (· omega))
        have M' := M'.wide (T := fun b => b ≠ g5 ∧ w.heap.size + 2 ≤ b ∧ b < w4.heap.size) (fun b hb => by
          rcases hb with hb | hb
          · have := hb.2.2; exact ⟨hb.1, hb.2.1, by omega⟩
          · have := hb.1; exact ⟨by omega, by omega, hb.2⟩)
        have hd := putsB_done hq
        have HD := Lib.hid (show (checkN (k + 1) d).done.length = d.done.length + c + (if putsB (checkN k d) x then 1 else 0) by rw [checkN, hd, HK.out.2])
        clear hd hq bc rc rf B M R K ho
        cases hp : putsB (checkN k d) x
        · have HP := Lib.hid hp
          clear hp
          go_wp2_with fail
          go_roundg gk
          case measure => omega
          case rel => exact ⟨h2, k + 1, c, rfl, by omega, Lib.hid ⟨by have := HK.out.1; omega, by rw [HD.out, HP.out]; rfl⟩, e2, cap', B', M', R', K'⟩
        · have HP := Lib.hid hp
          clear hp
          have hc1 : (c : Int) + 1 ≤ 1000 := by omega
          go_wp2_with fail
          go_roundg gk
          case measure => omega
          case rel => exact ⟨h2, k + 1, c + 1, by go_num, by omega, Lib.hid ⟨by have := HK.out.1; omega, by rw [HD.out, HP.out]; rfl⟩, e2, cap', B', M', R', K'⟩

end Go.Proofs.YtkimlajfhepfgaaGreat

namespace Go.Proofs.YtkimlajfhepfgaaGreat
open Go.RowKit

end Go.Proofs.YtkimlajfhepfgaaGreat

namespace Go.Proofs.YtkimlajfhepfgaaGreat
open Go.RowKit

end Go.Proofs.YtkimlajfhepfgaaGreat

namespace Go.Proofs.YtkimlajfhepfgaaGreat
open Go.RowKit

end Go.Proofs.YtkimlajfhepfgaaGreat

namespace Go.Proofs.YtkimlajfhepfgaaGreat
open Go.RowKit

theorem checkD_grows (d : DeskV) : ∃ c, (checkD d).done.length = d.done.length + c := by
  cases hq : d.queue with
  | nil => exact ⟨0, by unfold checkD; rw [hq]; rfl⟩
  | cons x q => exact ⟨_, putsB_done hq⟩
theorem checkN_grows (d : DeskV) : ∀ k, ∃ c, (checkN k d).done.length = d.done.length + c
  | 0 => ⟨0, rfl⟩
  | k + 1 => by
    obtain ⟨c, h⟩ := checkN_grows d k
    obtain ⟨e, h2⟩ := checkD_grows (checkN k d)
    exact ⟨c + e, by rw [checkN, h2, h]; omega⟩

set_option maxRecDepth 100000 in
set_option maxHeartbeats 4000000 in
theorem specCheckAll_any (h : DeskH) (d : DeskV) (w : World) (hs : SeesDesk w 0 h d) (hf : DeskFit 1048576 h d) (hc : h.n3 ≤ h.c3) :
    Calls Tryz.prog 20 #[.agg #[.slice h.A0 h.n0 h.c0, .slice h.A1 h.n1 h.c1, .slice h.A2 h.n2 h.c2, .slice h.A3 h.n3 h.c3, .slice h.A4 h.n4 h.c4]] w (GivesDeskIO w (checkAllM d) (checkAllC d)) := by
  have K0 : Below w.heap.size w ((w.alloc (.cells #[.slice h.A0 h.n0 h.c0, .slice h.A1 h.n1 h.c1, .slice h.A2 h.n2 h.c2, .slice h.A3 h.n3 h.c3, .slice h.A4 h.n4 h.c4] 28)).alloc (.cells #[.slice none 0 0, .slice none 0 0, .slice none 0 0, .slice none 0 0, .slice none 0 0] 28)) := ((Below.refl w.heap.size w).alloc (Nat.le_refl _) _).alloc (by simp) _
  have P : Blk ((w.alloc (.cells #[.slice h.A0 h.n0 h.c0, .slice h.A1 h.n1 h.c1, .slice h.A2 h.n2 h.c2, .slice h.A3 h.n3 h.c3, .slice h.A4 h.n4 h.c4] 28)).alloc (.cells #[.slice none 0 0, .slice none 0 0, .slice none 0 0, .slice none 0 0, .slice none 0 0] 28)) w.heap.size 28 [.slice h.A0 h.n0 h.c0, .slice h.A1 h.n1 h.c1, .slice h.A2 h.n2 h.c2, .slice h.A3 h.n3 h.c3, .slice h.A4 h.n4 h.c4] := (Blk.at_ rfl).alloc _
  have R : Blk ((w.alloc (.cells #[.slice h.A0 h.n0 h.c0, .slice h.A1 h.n1 h.c1, .slice h.A2 h.n2 h.c2, .slice h.A3 h.n3 h.c3, .slice h.A4 h.n4 h.c4] 28)).alloc (.cells #[.slice none 0 0, .slice none 0 0, .slice none 0 0, .slice none 0 0, .slice none 0 0] 28)) (w.heap.size + 1) 28 [.slice none 0 0, .slice none 0 0, .slice none 0 0, .slice none 0 0, .slice none 0 0] := Blk.at_ (by simp)
  have z0 : w.heap.size + 2 ≤ (((w.alloc (.cells #[.slice h.A0 h.n0 h.c0, .slice h.A1 h.n1 h.c1, .slice h.A2 h.n2 h.c2, .slice h.A3 h.n3 h.c3, .slice h.A4 h.n4 h.c4] 28)).alloc (.cells #[.slice none 0 0, .slice none 0 0, .slice none 0 0, .slice none 0 0, .slice none 0 0] 28))).heap.size := by simp
  go_enter Tryz.func20, Tryz.ntmps20
  go_wp2_with fail
  generalize ((w.alloc (.cells #[.slice h.A0 h.n0 h.c0, .slice h.A1 h.n1 h.c1, .slice h.A2 h.n2 h.c2, .slice h.A3 h.n3 h.c3, .slice h.A4 h.n4 h.c4] 28)).alloc (.cells #[.slice none 0 0, .slice none 0 0, .slice none 0 0, .slice none 0 0, .slice none 0 0] 28)) = w0 at *
  refine (l25Good_any h d _ (hs.below K0 (Nat.le_refl _)) hf hc).mono ?_
  cases g : deskB d
  · rintro x w1 ⟨rfl, b1⟩
    have K1 := bel_then K0 b1
    have R1 := R.next b1
    have rc := R1.cell
    have rf := R1.frozen
    go_wp2_with fail
    refine bodyPost_ret (v := .tuple #[.agg #[.slice none 0 0, .slice none 0 0, .slice none 0 0, .slice none 0 0, .slice none 0 0], .int .i64 0, .bool false]) (by simp [results, Tryz.results20, go_sem, rc]) rfl ?_
    rw [(checkAll_none g).1, (checkAll_none g).2]
    have E := ((((((Only.refl (fun b => b = w.heap.size + 1) w1).setCell (p := ⟨w.heap.size + 1, 0, none⟩) rfl (.slice none 0 0)).setCell (p := ⟨w.heap.size + 1, 1, none⟩) rfl (.slice none 0 0)).setCell (p := ⟨w.heap.size + 1, 2, none⟩) rfl (.slice none 0 0)).setCell (p := ⟨w.heap.size + 1, 3, none⟩) rfl (.slice none 0 0)).setCell (p := ⟨w.heap.size + 1, 4, none⟩) rfl (.slice none 0 0))
    exact givesDIO_none (K1.trans (E.below (fun k hk => by omega) K1.size))
  · rintro x w1 ⟨rfl, b1⟩
    have SM := deskB_small g
    have K1 := bel_then K0 b1
    have R1 := R.next b1
    have P1 := P.next b1
    have z1 := b1.size
    have pc := P1.cell
    clear P R K0 b1
    go_wp2_with fail
    refine (l25OwnW_any h d _ (hs.below K1 (Nat.le_refl _)) hf).mono ?_
    rintro x w2 ⟨H, rfl, M, F, C3, C2, b2⟩
    have K2 := bel_then K1 b2
    have R2 := R1.next b2
    have P2 := P1.next b2
    have z2 := b2.size
    have hn2 := Lib.hid (SM.lens M.desk.sees).2.2.1
    have U : Below w2.heap.size w2 (w2.alloc (.cells #[.slice H.A0 H.n0 H.c0, .slice H.A1 H.n1 H.c1, .slice H.A2 H.n2 H.c2, .slice H.A3 H.n3 H.c3, .slice H.A4 H.n4 H.c4] 28)) := (Below.refl _ _).alloc (Nat.le_refl _) _
    have B3 : Blk (w2.alloc (.cells #[.slice H.A0 H.n0 H.c0, .slice H.A1 H.n1 H.c1, .slice H.A2 H.n2 H.c2, .slice H.A3 H.n3 H.c3, .slice H.A4 H.n4 H.c4] 28)) w2.heap.size 28 [.slice H.A0 H.n0 H.c0, .slice H.A1 H.n1 H.c1, .slice H.A2 H.n2 H.c2, .slice H.A3 H.n3 H.c3, .slice H.A4 H.n4 H.c4] := Blk.at_ rfl
    have K3 := bel_then K2 U
    have R3 := R2.next U
    have P3 := P2.next U
    have M3 := (M.next U).wide (T := fun b => b ≠ w2.heap.size ∧ w.heap.size + 2 ≤ b ∧ b < (w2.alloc (.cells #[.slice H.A0 H.n0 H.c0, .slice H.A1 H.n1 H.c1, .slice H.A2 H.n2 H.c2, .slice H.A3 H.n3 H.c3, .slice H.A4 H.n4 H.c4] 28)).heap.size) (fun b hb => ⟨by have := hb.2; omega, by have := hb.1; omega, Nat.lt_of_lt_of_le hb.2 U.size⟩)
    have HL := Lib.hid (SM.lens hs).2.2.2.1
    clear pc P1 K1 R1 M K2 R2 P2 U b2 F
    have hg5 : w.heap.size + 2 ≤ w2.heap.size := by omega
    have G := Lib.hid g
    clear g
    have HT := SM.total
    go_wp2_with fail
    generalize w2.alloc (.cells #[.slice H.A0 H.n0 H.c0, .slice H.A1 H.n1 H.c1, .slice H.A2 H.n2 H.c2, .slice H.A3 H.n3 H.c3, .slice H.A4 H.n4 H.c4] 28) = w3 at *
    generalize w2.heap.size = g5 at *
    go_loopg [12] d.queue.length (fun gk _ wr => ∃ (h' : DeskH) (k : Nat), Hid (gk + k = d.queue.length) ∧ Hid (h'.n2 = gk) ∧ h'.n2 ≤ h'.c2 ∧ Blk wr g5 28 [.slice h'.A0 h'.n0 h'.c0, .slice h'.A1 h'.n1 h'.c1, .slice h'.A2 h'.n2 h'.c2, .slice h'.A3 h'.n3 h'.c3, .slice h'.A4 h'.n4 h'.c4] ∧ MineW wr (fun b => b ≠ g5 ∧ w.heap.size + 2 ≤ b ∧ b < wr.heap.size) h' (checkN k d) ∧ Blk wr (w.heap.size + 1) 28 [.slice none 0 0, .slice none 0 0, .slice none 0 0, .slice none 0 0, .slice none 0 0] ∧ Blk wr w.heap.size 28 [.slice h.A0 h.n0 h.c0, .slice h.A1 h.n1 h.c1, .slice h.A2 h.n2 h.c2, .slice h.A3 h.n3 h.c3, .slice h.A4 h.n4 h.c4] ∧ Below w.heap.size w wr)
    case atStart => exact ⟨H, 0, Lib.hid (Nat.add_zero _), hn2, C2, B3, M3, R3, P3, K3⟩
    case round =>
      obtain ⟨h', k, HK, HN, hcap, B, M, R, P, K⟩ := hrel
      clear B3 M3 R3 P3 K3
      have hgl := B.lt
      rcases gk with _ | gk
      · have hkN : k = d.queue.length := by have := HK.out; omega
        subst hkN
        obtain ⟨c, hcc⟩ := checkN_grows d d.queue.length
        have HA := Lib.hid (checkAll_some G.out hcc)
        have hpos : ¬ (0 : Int) < (h'.n2 : Int) := by have := HN.out; omega
        have hwr : IntKind.i64.wrap ((h'.n3 : Int) - (h.n3 : Int)) = (c : Int) := by
          have e1 := ((SM.checks d.queue.length).lens M.desk.sees).2.2.2.1
          have e2 := HL.out
          have e3 := (SM.checks d.queue.length).total
          rw [e1, e2, hcc, IntWalk.i64_in _ (by omega)]
          omega
        clear hcc hcap
        have bcw := B.cell
        have rcw := R.cell
        have rfw := R.frozen
        have b := (Quiet.one wr).below wr.heap.size
        have bc0 := (B.next b).cell
        have pc0 := (P.next b).cell
        clear b
        have E := ((((((Only.refl (fun b => b = w.heap.size + 1) wr).setCell (p := ⟨w.heap.size + 1, 0, none⟩) rfl (.slice h'.A0 h'.n0 h'.c0)).setCell (p := ⟨w.heap.size + 1, 1, none⟩) rfl (.slice h'.A1 h'.n1 h'.c1)).setCell (p := ⟨w.heap.size + 1, 2, none⟩) rfl (.slice h'.A2 h'.n2 h'.c2)).setCell (p := ⟨w.heap.size + 1, 3, none⟩) rfl (.slice h'.A3 h'.n3 h'.c3)).setCell (p := ⟨w.heap.size + 1, 4, none⟩) rfl (.slice h'.A4 h'.n4 h'.c4))
        have bD := (Quiet.one (((((wr.setCell ⟨w.heap.size + 1, 0, none⟩ (.slice h'.A0 h'.n0 h'.c0)).setCell ⟨w.heap.size + 1, 1, none⟩ (.slice h'.A1 h'.n1 h'.c1)).setCell ⟨w.heap.size + 1, 2, none⟩ (.slice h'.A2 h'.n2 h'.c2)).setCell ⟨w.heap.size + 1, 3, none⟩ (.slice h'.A3 h'.n3 h'.c3)).setCell ⟨w.heap.size + 1, 4, none⟩ (.slice h'.A4 h'.n4 h'.c4))).below ((((((wr.setCell ⟨w.heap.size + 1, 0, none⟩ (.slice h'.A0 h'.n0 h'.c0)).setCell ⟨w.heap.size + 1, 1, none⟩ (.slice h'.A1 h'.n1 h'.c1)).setCell ⟨w.heap.size + 1, 2, none⟩ (.slice h'.A2 h'.n2 h'.c2)).setCell ⟨w.heap.size + 1, 3, none⟩ (.slice h'.A3 h'.n3 h'.c3)).setCell ⟨w.heap.size + 1, 4, none⟩ (.slice h'.A4 h'.n4 h'.c4))).heap.size
        have bcE := ((B.only E (fun h => by omega)).next bD).cell
        have pcE := ((P.only E (fun h => by omega)).next bD).cell
        go_wp2_with fail
        refine wp_region_held_drew (S := fun w' => w'.cell? ⟨g5, 0, none⟩ = some (.slice h'.A0 h'.n0 h'.c0) ∧ w'.cell? ⟨g5, 1, none⟩ = some (.slice h'.A1 h'.n1 h'.c1) ∧ w'.cell? ⟨g5, 2, none⟩ = some (.slice h'.A2 h'.n2 h'.c2) ∧ w'.cell? ⟨g5, 3, none⟩ = some (.slice h'.A3 h'.n3 h'.c3) ∧ w'.cell? ⟨g5, 4, none⟩ = some (.slice h'.A4 h'.n4 h'.c4) ∧ w'.cell? ⟨w.heap.size, 3, none⟩ = some (.slice h.A3 h.n3 h.c3)) (by kernel_rfl) (by (try dsimp only); exact ⟨bc0 0, bc0 1, bc0 2, bc0 3, bc0 4, pc0 3⟩) (fun hH => ?_)
        refine wT (i := 0) (v := ?_) rfl (by kernel_rfl) (by kernel_rfl) (by kernel_rfl) (fun _ _ _ h => h) (Or.inl ⟨by rfl, ?_⟩) (by assumption) ?_
        rotate_left 1
        · (intro w hS; (try dsimp only at hS); go_simp; try with_reducible rfl)
        simp only [Act.put, pX]
        refine wT (i := 1) (v := ?_) rfl (by kernel_rfl) (by kernel_rfl) (by kernel_rfl) (fun _ _ _ h => h) (Or.inl ⟨by rfl, ?_⟩) (by assumption) ?_
        rotate_left 1
        · (intro w hS; (try dsimp only at hS); go_simp; try with_reducible rfl)
        simp only [Act.put, pX]
        refine wT (i := 2) (v := ?_) rfl (by kernel_rfl) (by kernel_rfl) (by kernel_rfl) (fun _ _ _ h => h) (Or.inl ⟨by rfl, ?_⟩) (by assumption) ?_
        rotate_left 1
        · (intro w hS; (try dsimp only at hS); go_simp; try with_reducible rfl)
        simp only [Act.put, pX]
        refine wT (i := 3) (v := ?_) rfl (by kernel_rfl) (by kernel_rfl) (by kernel_rfl) (fun _ _ _ h => h) (Or.inl ⟨by rfl, ?_⟩) (by assumption) ?_
        rotate_left 1
        · (intro w hS; (try dsimp only at hS); go_simp; try with_reducible rfl)
        simp only [Act.put, pX]
        refine wT (i := 4) (v := ?_) rfl (by kernel_rfl) (by kernel_rfl) (by kernel_rfl) (fun _ _ _ h => h) (Or.inl ⟨by rfl, ?_⟩) (by assumption) ?_
        rotate_left 1
        · (intro w hS; (try dsimp only at hS); go_simp; try with_reducible rfl)
        simp only [Act.put, pX]
        refine wT (i := 5) (v := ?_) rfl (by kernel_rfl) (by kernel_rfl) (by kernel_rfl) (fun _ _ _ h => h) (Or.inl ⟨by rfl, ?_⟩) (by assumption) ?_
        rotate_left 1
        · (intro w hS; (try dsimp only at hS); go_simp; try with_reducible rfl)
        simp only [Act.put, pX]
        refine wT (i := 6) (v := ?_) rfl (by kernel_rfl) (by kernel_rfl) (by kernel_rfl) (fun _ _ _ h => h) (Or.inl ⟨by rfl, ?_⟩) (by assumption) ?_
        rotate_left 1
        · (intro w hS; (try dsimp only at hS); go_simp; try with_reducible rfl)
        simp only [Act.put, pX]
        refine wT (i := 7) (v := ?_) rfl (by kernel_rfl) (by kernel_rfl) (by kernel_rfl) (fun _ _ _ h => h) (Or.inl ⟨by rfl, ?_⟩) (by assumption) ?_
        rotate_left 1
        · (intro w hS; (try dsimp only at hS); go_simp; try with_reducible rfl)
        simp only [Act.put, pX]
        refine wR (rs := [8]) (by kernel_rfl) (by simp) ?_
        refine aC rfl (fun K hK => ?_) aN
        go_simp
        refine hK.out _ _ (by (try dsimp only); exact ⟨bcE 0, bcE 1, bcE 2, bcE 3, bcE 4, pcE 3⟩) (fun hH => ?_)
        clear hK K
        try simp only [Act.put, pX]
        refine wT (i := 9) (v := ?_) rfl (by kernel_rfl) (by kernel_rfl) (by kernel_rfl) (fun _ _ _ h => h) (Or.inl ⟨by rfl, ?_⟩) (by assumption) ?_
        rotate_left 1
        · (intro w hS; (try dsimp only at hS); go_simp; try with_reducible rfl)
        simp only [Act.put, pX]
        refine wT (i := 10) (v := ?_) rfl (by kernel_rfl) (by kernel_rfl) (by kernel_rfl) (fun _ _ _ h => h) (Or.inl ⟨by rfl, ?_⟩) (by assumption) ?_
        rotate_left 1
        · (intro w hS; (try dsimp only at hS); go_simp; try with_reducible rfl)
        simp only [Act.put, pX]
        refine wD (by kernel_rfl) ?_ _
        go_wp2_with fail
        refine bodyPost_ret (v := .tuple #[.agg #[.slice h'.A0 h'.n0 h'.c0, .slice h'.A1 h'.n1 h'.c1, .slice h'.A2 h'.n2 h'.c2, .slice h'.A3 h'.n3 h'.c3, .slice h'.A4 h'.n4 h'.c4], .int .i64 (c : Int), .bool true]) (by simp [results, Tryz.results20, go_sem, rcw]) rfl ?_
        rw [HA.out.1, HA.out.2]
        have zF := E.size
        have zD := bD.size
        have M4 := (M.only E (fun b h1 h2 => by have := h1.2.1; omega)).next bD
        exact ⟨h', rfl, (M4.wide (fun b hb => by have := hb.2.1; have := hb.2.2; exact ⟨by omega, by omega⟩)).desk, (SM.checks _).fit M.desk.sees (by decide) (by decide), M.caps, bel_then (K.trans (E.below (fun k hk => by omega) K.size)) bD⟩
      · have hpos : (0 : Int) < (h'.n2 : Int) := by have := HN.out; omega
        have bc := B.cell
        have hql : (checkN k d).queue.length = gk + 1 := by rw [← ((SM.checks k).lens M.desk.sees).2.2.1]; exact HN.out
        have HQL := Lib.hid hql
        clear hql
        go_wp2_with fail
        refine (l25Check_any h' (checkN k d) gk _ M.desk.sees (SM.checks k) HQL.out).mono ?_
        rintro e w4 ⟨h2, rfl, M', cap', b4⟩
        have hz := b4.size
        have B4 := B.next b4
        have R4 := R.next b4
        have P4 := P.next b4
        have K4 := bel_then K b4
        have hn2 := Lib.hid (((SM.checks (k + 1)).lens M'.desk.sees).2.2.1)
        have hq2 := Lib.hid (show (checkN (k + 1) d).queue.length = gk by rw [checkN, checkD_queue, List.length_tail, HQL.out]; rfl)
        clear bc B M R P K b4
        have bc := B4.cell
        have bf := B4.frozen
        have E4 := ((((((Only.refl (fun b => b = g5) w4).setCell (p := ⟨g5, 0, none⟩) rfl (.slice h2.A0 h2.n0 h2.c0)).setCell (p := ⟨g5, 1, none⟩) rfl (.slice h2.A1 h2.n1 h2.c1)).setCell (p := ⟨g5, 2, none⟩) rfl (.slice h2.A2 h2.n2 h2.c2)).setCell (p := ⟨g5, 3, none⟩) rfl (.slice h2.A3 h2.n3 h2.c3)).setCell (p := ⟨g5, 4, none⟩) rfl (.slice h2.A4 h2.n4 h2.c4))
        have B5 : Blk (((((w4.setCell ⟨g5, 0, none⟩ (.slice h2.A0 h2.n0 h2.c0)).setCell ⟨g5, 1, none⟩ (.slice h2.A1 h2.n1 h2.c1)).setCell ⟨g5, 2, none⟩ (.slice h2.A2 h2.n2 h2.c2)).setCell ⟨g5, 3, none⟩ (.slice h2.A3 h2.n3 h2.c3)).setCell ⟨g5, 4, none⟩ (.slice h2.A4 h2.n4 h2.c4)) g5 28 [.slice h2.A0 h2.n0 h2.c0, .slice h2.A1 h2.n1 h2.c1, .slice h2.A2 h2.n2 h2.c2, .slice h2.A3 h2.n3 h2.c3, .slice h2.A4 h2.n4 h2.c4] := (((((B4.set_ 0 (.slice h2.A0 h2.n0 h2.c0)).set_ 1 (.slice h2.A1 h2.n1 h2.c1)).set_ 2 (.slice h2.A2 h2.n2 h2.c2)).set_ 3 (.slice h2.A3 h2.n3 h2.c3)).set_ 4 (.slice h2.A4 h2.n4 h2.c4))
        have R5 : Blk (((((w4.setCell ⟨g5, 0, none⟩ (.slice h2.A0 h2.n0 h2.c0)).setCell ⟨g5, 1, none⟩ (.slice h2.A1 h2.n1 h2.c1)).setCell ⟨g5, 2, none⟩ (.slice h2.A2 h2.n2 h2.c2)).setCell ⟨g5, 3, none⟩ (.slice h2.A3 h2.n3 h2.c3)).setCell ⟨g5, 4, none⟩ (.slice h2.A4 h2.n4 h2.c4)) (w.heap.size + 1) 28 [.slice none 0 0, .slice none 0 0, .slice none 0 0, .slice none 0 0, .slice none 0 0] := R4.only E4 (fun h => by omega)
        have P5 : Blk (((((w4.setCell ⟨g5, 0, none⟩ (.slice h2.A0 h2.n0 h2.c0)).setCell ⟨g5, 1, none⟩ (.slice h2.A1 h2.n1 h2.c1)).setCell ⟨g5, 2, none⟩ (.slice h2.A2 h2.n2 h2.c2)).setCell ⟨g5, 3, none⟩ (.slice h2.A3 h2.n3 h2.c3)).setCell ⟨g5, 4, none⟩ (.slice h2.A4 h2.n4 h2.c4)) w.heap.size 28 [.slice h.A0 h.n0 h.c0, .slice h.A1 h.n1 h.c1, .slice h.A2 h.n2 h.c2, .slice h.A3 h.n3 h.c3, .slice h.A4 h.n4 h.c4] := P4.only E4 (fun h => by omega)
        have K5 : Below w.heap.size w (((((w4.setCell ⟨g5, 0, none⟩ (.slice h2.A0 h2.n0 h2.c0)).setCell ⟨g5, 1, none⟩ (.slice h2.A1 h2.n1 h2.c1)).setCell ⟨g5, 2, none⟩ (.slice h2.A2 h2.n2 h2.c2)).setCell ⟨g5, 3, none⟩ (.slice h2.A3 h2.n3 h2.c3)).setCell ⟨g5, 4, none⟩ (.slice h2.A4 h2.n4 h2.c4)) := K4.trans (E4.below (fun b hb => by omega) K4.size)
        have M5 : MineW (((((w4.setCell ⟨g5, 0, none⟩ (.slice h2.A0 h2.n0 h2.c0)).setCell ⟨g5, 1, none⟩ (.slice h2.A1 h2.n1 h2.c1)).setCell ⟨g5, 2, none⟩ (.slice h2.A2 h2.n2 h2.c2)).setCell ⟨g5, 3, none⟩ (.slice h2.A3 h2.n3 h2.c3)).setCell ⟨g5, 4, none⟩ (.slice h2.A4 h2.n4 h2.c4)) (fun b => b ≠ g5 ∧ w.heap.size + 2 ≤ b ∧ b < ((((((w4.setCell ⟨g5, 0, none⟩ (.slice h2.A0 h2.n0 h2.c0)).setCell ⟨g5, 1, none⟩ (.slice h2.A1 h2.n1 h2.c1)).setCell ⟨g5, 2, none⟩ (.slice h2.A2 h2.n2 h2.c2)).setCell ⟨g5, 3, none⟩ (.slice h2.A3 h2.n3 h2.c3)).setCell ⟨g5, 4, none⟩ (.slice h2.A4 h2.n4 h2.c4))).heap.size) h2 (checkN (k + 1) d) :=
          (MineW.only M' E4 (fun b h1 (h2 : b = g5) => by have := h1.1; omega)).wide (fun b hb => ⟨by have := hb.1; omega, by have := hb.1; have := K4.size; have := B4.lt; omega, Nat.lt_of_lt_of_le hb.2 E4.size⟩)
        go_wp2_with fail
        go_roundg gk
        case measure => omega
        case rel => exact ⟨h2, k + 1, Lib.hid (by have := HK.out; omega), Lib.hid (by rw [hn2.out, hq2.out]), cap', B5, M5, R5, P5, K5⟩

end Go.Proofs.YtkimlajfhepfgaaGreat

namespace Go.Proofs.YtkimlajfhepfgaaGreat
open Go.RowKit

def checkAllP (d : DeskV) : Option DeskV × Int := (checkAllM d, checkAllC d)
def GivesDeskP (w : World) (R : Option DeskV × Int) : Ending → World → Prop := GivesDeskIO w R.1 R.2
theorem CheckAllP_any (h : DeskH) (d : DeskV) (w : World) (hs : SeesDesk w 0 h d) (hf : DeskFit 1048576 h d) (hc : h.n3 ≤ h.c3) :
    Calls Tryz.prog 19 #[.agg #[.slice h.A0 h.n0 h.c0, .slice h.A1 h.n1 h.c1, .slice h.A2 h.n2 h.c2, .slice h.A3 h.n3 h.c3, .slice h.A4 h.n4 h.c4]] w (GivesDeskP w (checkAllP d)) := CheckAll_any h d w hs hf hc
theorem specCheckAllP_any (h : DeskH) (d : DeskV) (w : World) (hs : SeesDesk w 0 h d) (hf : DeskFit 1048576 h d) (hc : h.n3 ≤ h.c3) :
    Calls Tryz.prog 20 #[.agg #[.slice h.A0 h.n0 h.c0, .slice h.A1 h.n1 h.c1, .slice h.A2 h.n2 h.c2, .slice h.A3 h.n3 h.c3, .slice h.A4 h.n4 h.c4]] w (GivesDeskP w (checkAllP d)) := specCheckAll_any h d w hs hf hc

end Go.Proofs.YtkimlajfhepfgaaGreat

namespace Go.Proofs.YtkimlajfhepfgaaGreat
open Go.RowKit Go.Lib Go.Sort

theorem compactUpTo_facts {zs : List Int} (hs : zs.Pairwise (· ≤ ·)) : ∀ m, m ≤ zs.length → (compactUpTo zs.toArray m).Pairwise (· < ·) ∧ ∀ x, x ∈ compactUpTo zs.toArray m ↔ x ∈ zs.take m
  | 0, _ => ⟨by simp [compactUpTo], by simp [compactUpTo]⟩
  | m + 1, hm => by
    obtain ⟨h1, h2⟩ := compactUpTo_facts hs m (by omega)
    have hp := List.pairwise_iff_getElem.1 hs
    have hmx : zs.toArray[m]! = zs[m] := by simp [getElem!_pos, show m < zs.length by omega]
    rw [compactUpTo_succ, List.take_succ_eq_append_getElem (by omega)]
    rcases Nat.eq_zero_or_pos m with rfl | hpos
    · simp [keeps_lt_one zs.toArray 0 (by omega), compactUpTo, hmx]
    · have hmy : zs.toArray[m - 1]! = zs[m - 1] := by simp [getElem!_pos, show m - 1 < zs.length by omega]
      have hle := hp (m - 1) m (by omega) (by omega) (by omega)
      by_cases he : zs[m] = zs[m - 1]
      · rw [keeps_neg hpos (by rw [hmx, hmy, he])]
        refine ⟨by simpa using h1, fun x => ?_⟩
        simp only [Bool.false_eq_true, if_false, List.append_nil, List.mem_append, List.mem_singleton]
        rw [h2 x]
        refine ⟨.inl, fun h => h.elim id fun h => ?_⟩
        subst h
        rw [he]
        exact List.mem_take_iff_getElem.2 ⟨m - 1, by omega, rfl⟩
      · rw [keeps_pos (by rw [hmx, hmy]; exact he)]
        refine ⟨?_, fun x => ?_⟩
        · rw [if_pos rfl]
          refine List.pairwise_append.2 ⟨h1, List.pairwise_singleton _ _, fun a ha b hb => ?_⟩
          rw [List.mem_singleton.1 hb, hmx]
          obtain ⟨j, hj, rfl⟩ := List.mem_take_iff_getElem.1 ((h2 a).1 ha)
          rcases Nat.lt_or_ge j (m - 1) with h3 | h3
          · have := hp j (m - 1) (by omega) (by omega) h3
            omega
          · obtain rfl : j = m - 1 := by omega
            omega
        · rw [if_pos rfl]
          simp only [List.mem_append, List.mem_singleton, h2 x, hmx]
def onceI (l : List Int) (n : Int) : List Int := if hasI l n then l else putI l n
def onceL (zs : List Int) : List Int := zs.foldl onceI []
theorem hasI_iff {l : List Int} {n : Int} : hasI l n = true ↔ n ∈ l := by
  unfold hasI
  rw [List.any_eq_true]
  exact ⟨fun ⟨x, hx, h⟩ => (of_decide_eq_true h) ▸ hx, fun h => ⟨n, h, by simp⟩⟩
theorem onceI_facts {l : List Int} (n : Int) (h : l.Pairwise (· < ·)) : (onceI l n).Pairwise (· < ·) ∧ ∀ x, x ∈ onceI l n ↔ x ∈ l ∨ x = n := by
  unfold onceI
  by_cases hh : hasI l n = true
  · rw [if_pos hh]
    exact ⟨h, fun x => ⟨.inl, fun h => h.elim id fun h => h ▸ hasI_iff.1 hh⟩⟩
  · rw [if_neg hh]
    exact ⟨putI_sorted h, fun x => putI_mem⟩
theorem onceL_facts (zs : List Int) : ∀ l : List Int, l.Pairwise (· < ·) → (zs.foldl onceI l).Pairwise (· < ·) ∧ ∀ x, x ∈ zs.foldl onceI l ↔ x ∈ l ∨ x ∈ zs := by
  induction zs with
  | nil => exact fun l h => ⟨h, by simp⟩
  | cons z zs ih =>
    intro l h
    obtain ⟨h1, h2⟩ := onceI_facts z h
    obtain ⟨h3, h4⟩ := ih _ h1
    refine ⟨h3, fun x => ?_⟩
    rw [List.foldl_cons, h4, h2, List.mem_cons, or_assoc]
theorem compact_sort (zs : List Int) : compact (sortI zs) = onceL zs := by
  obtain ⟨h1, h2⟩ := compactUpTo_facts (sortI_up zs) _ (Nat.le_refl _)
  obtain ⟨h3, h4⟩ := onceL_facts zs [] List.Pairwise.nil
  refine rising_ext h1 h3 fun x => ?_
  rw [show zs.foldl onceI [] = onceL zs from rfl] at h4
  rw [show compact (sortI zs) = compactUpTo (sortI zs).toArray (sortI zs).length from rfl, h2, h4, List.take_length, sortI_mem]
  simp
theorem onceI_len (l : List Int) (n : Int) : (onceI l n).length ≤ l.length + 1 := by
  unfold onceI
  split
  · omega
  · exact putI_len
theorem onceL_next (zs : List Int) {k : Nat} (hk : k < zs.length) : onceL (zs.take (k + 1)) = onceI (onceL (zs.take k)) zs[k] := by
  unfold onceL
  rw [List.take_succ_eq_append_getElem hk, List.foldl_append]
  rfl
theorem onceL_len (zs : List Int) : (onceL zs).length ≤ zs.length := by
  have : ∀ (k : Nat), k ≤ zs.length → (onceL (zs.take k)).length ≤ k := by
    intro k
    induction k with
    | zero => intro _; simp [onceL]
    | succ k ih =>
      intro hk
      rw [onceL_next zs (by omega)]
      have := ih (by omega)
      have := onceI_len (onceL (zs.take k)) (zs[k]'(by omega))
      omega
  have h := this zs.length (Nat.le_refl _)
  rwa [List.take_length] at h
theorem Compact_own (base t n c : Nat) (A : Option Addr) (zs : List Int) (w : World) (h : w.ownsRow base t 1 (.slice A n c) n (ints zs)) (hn : n ≤ 1000000) :
    Calls Tryz.prog 68 #[.slice A n c] w fun e w' => e = .returned (.slice A (compact zs).length c) ∧ w'.ownsRow base t 1 (.slice A (compact zs).length c) (compact zs).length (ints (compact zs)) ∧ Only (OwnB A) w w' := by
  have hl := own_len h
  rcases own_open h with ⟨rfl, rfl, rfl, hxs⟩ | ⟨g, cur, rfl, hg, hB, hcl, hnc, hcm, htk⟩
  · have hz : zs = [] := List.eq_nil_of_length_eq_zero hl
    subst hz
    exact (sh_slices_Compact_int_empty none 0 w).mono fun e w' ⟨he, hw⟩ => ⟨he, by rw [hw]; exact h, by rw [hw]; exact Only.refl _ _⟩
  · obtain ⟨g', cap, hv, _, hlt, _, _, _, hH⟩ := holds_of_ownsRow (zs := zs) (enc := Value.int .i64) h (by simp)
    simp only [Value.slice.injEq, Option.some.injEq, Addr.mk.injEq, and_true, true_and] at hv
    obtain ⟨rfl, rfl⟩ := hv
    subst hl
    have hle := compact_length_le zs
    refine (sh_slices_Compact_int g 0 c zs w hH (by omega) hnc).mono fun e w' ⟨he, q, hw⟩ => ⟨he, ?_, ?_⟩
    · rw [hw]
      have h2 := ownsRow_putRow (ys := compact zs ++ List.replicate (zs.length - (compact zs).length) 0) (q := q) h (by simp; omega) hle
      rw [List.take_left] at h2
      exact h2
    · rw [hw]
      exact only_putRow w q g _
end Go.Proofs.YtkimlajfhepfgaaGreat

namespace Go.Proofs.YtkimlajfhepfgaaGreat
open Go.RowKit

def numsOf (xs : List Card) : List Int := xs.map Card.number
def troubleM (d : DeskV) : Option (List Int) := if deskB d then some (onceL (numsOf d.trouble)) else none
theorem troubleM_len (d : DeskV) : ((troubleM d).getD []).length ≤ d.trouble.length := by
  unfold troubleM
  split
  · have := onceL_len (numsOf d.trouble)
    simpa [numsOf] using this
  · simp
theorem numsOf_next (xs : List Card) {k : Nat} (hk : k < xs.length) : numsOf (xs.take (k + 1)) = numsOf (xs.take k) ++ [xs[k].number] := by
  unfold numsOf
  rw [List.take_succ_eq_append_getElem hk, List.map_append]
  rfl

set_option maxRecDepth 100000 in
set_option maxHeartbeats 2000000 in
theorem TroubleNumbers_any (h : DeskH) (d : DeskV) (w : World) (hs : SeesDesk w 0 h d) (hn : DeskFit 1048576 h d) (hcap : h.n3 ≤ h.c3) :
    Calls Tryz.prog 30 #[.agg #[.slice h.A0 h.n0 h.c0, .slice h.A1 h.n1 h.c1, .slice h.A2 h.n2 h.c2, .slice h.A3 h.n3 h.c3, .slice h.A4 h.n4 h.c4]] w (GivesInts w (troubleM d)) := by
  obtain ⟨A0, n0, c0, A1, n1, c1', A2, n2, c2', A3, n3, c3, A4, n4, c4⟩ := h
  have K0 : Below w.heap.size w (w.alloc (.cells #[.slice A0 n0 c0, .slice A1 n1 c1', .slice A2 n2 c2', .slice A3 n3 c3, .slice A4 n4 c4] 28)) := (Below.refl _ _).alloc (Nat.le_refl _) _
  have P0 : Blk (w.alloc (.cells #[.slice A0 n0 c0, .slice A1 n1 c1', .slice A2 n2 c2', .slice A3 n3 c3, .slice A4 n4 c4] 28)) w.heap.size 28 [.slice A0 n0 c0, .slice A1 n1 c1', .slice A2 n2 c2', .slice A3 n3 c3, .slice A4 n4 c4] := Blk.at_ rfl
  have HL4 := Lib.hid hs.f4.count
  have hl4b : n4 ≤ d.trouble.length := by rw [HL4.out]; exact Nat.le_refl _
  have hl4a : d.trouble.length ≤ n4 := by rw [HL4.out]; exact Nat.le_refl _
  go_enter Tryz.func30, Tryz.ntmps30
  go_wp2_with fail
  refine (IsDesk_any ⟨A0, n0, c0, A1, n1, c1', A2, n2, c2', A3, n3, c3, A4, n4, c4⟩ d _ (hs.next K0) hn hcap).mono ?_
  cases g : deskB d
  · rintro e w1 ⟨rfl, b1⟩
    go_wp2_with fail
    go_ret2
    rw [show troubleM d = none by simp [troubleM, g]]
    exact gives_nil (bel_then K0 b1)
  · rintro e w1 ⟨rfl, b1⟩
    have HR := Lib.hid (show troubleM d = some (onceL (numsOf d.trouble)) by simp [troubleM, g])
    have ht := (deskB_top g).2
    have h10 : n4 ≤ 10 := by omega
    have K1 := bel_then K0 b1
    have P1 := P0.next b1
    have c1 := P1.cell
    have o1 := own_low (own_empty w1 3 1) (show w.heap.size + 1 ≤ w1.heap.size from P1.lt)
    have K2 := K1.alloc K1.size (.cells #[] 3)
    have P2 := P1.alloc (.cells #[] 3)
    have z1 := P1.lt
    have c2 := P2.cell
    clear g K0 P0 b1 ht
    go_wp2_with fail
    clear c1 c2
    go_loopw [4, 14] (fun v i wr => ∃ (k : Nat) (out : List Int) (A' : Option Addr) (c' : Nat), k ≤ n4 ∧ i = .int .i64 k ∧ v = .slice A' out.length c' ∧ wr.ownsRow (w.heap.size + 1) 3 1 (.slice A' out.length c') out.length (ints out) ∧ out.length ≤ k ∧ Hid (numsOf (d.trouble.take k) = out) ∧ Blk wr w.heap.size 28 [.slice A0 n0 c0, .slice A1 n1 c1', .slice A2 n2 c2', .slice A3 n3 c3, .slice A4 n4 c4] ∧ Below w.heap.size w wr) (fun _ i _ => n4 - (intOf i).toNat)
    case atStart => exact ⟨0, [], _, _, Nat.zero_le _, rfl, rfl, o1, Nat.le_refl _, Lib.hid rfl, P2, K2⟩
    case round =>
      obtain ⟨k, out, A', c', hk, rfl, rfl, hown, hlo, HO, PB, hb⟩ := hrel
      have cm := PB.cell
      by_cases hlt : k < n4
      · obtain ⟨bk, offk, B0, mc, cc0, hA4, hkx, x0, x1, x2, x3, -⟩ := SeesCard.elem (hs.f4.next hb) hlt
        have HN := Lib.hid (show numsOf (d.trouble.take (k + 1)) = out ++ [d.trouble[k].number] by rw [numsOf_next _ hkx, HO.out])
        have hblt := World.block_lt_of_cell? wr _ x0
        have hnp : (k : Int) < (n4 : Int) := by omega
        have K3 := hb.alloc hb.size (.cells #[.int .i64 d.trouble[k].number, .int .i64 d.trouble[k].start, .int .i64 d.trouble[k].finish, .slice B0 mc cc0] 31)
        have P3 := PB.alloc (.cells #[.int .i64 d.trouble[k].number, .int .i64 d.trouble[k].start, .int .i64 d.trouble[k].finish, .slice B0 mc cc0] 31)
        have ow := own_alloc hown (.cells #[.int .i64 d.trouble[k].number, .int .i64 d.trouble[k].start, .int .i64 d.trouble[k].finish, .slice B0 mc cc0] 31)
        have zz := PB.lt
        subst hA4
        go_wp2_with (at_builtin; go_loud (refine wpList_pushNew rfl _ _ _ rfl Tryz.underlying24 info_int rfl (by decide) rfl ow rfl (by simp) (by rfl) (by rfl) (by omega) (by decide) P3.lt ?_); intro A9 c9 w9 o9 h9 b9 q9)
        go_roundw
        case rel => exact ⟨k + 1, out ++ [d.trouble[k].number], A9, c9, by omega, by go_num, by simp, by simpa [ints] using o9, by simp; omega, HN, P3.only h9 (own_not hown (by omega)), K3.trans (b9.mono (by omega))⟩
        case measure => simp [intOf]; omega
      · have HE := Lib.hid (show numsOf d.trouble = out by rw [← HO.out, List.take_of_length_le (by omega)])
        have HF := Lib.hid (show Lib.compact (sortI out) = onceL (numsOf d.trouble) by rw [← HE.out]; exact compact_sort _)
        have hz := PB.lt
        go_wp2_with fail
        refine (Sort_own (w.heap.size + 1) 3 out.length c' A' out _ hown (by omega)).mono ?_
        rintro e w3 ⟨rfl, o3, O3⟩
        have K3 : Below w.heap.size w w3 := hb.trans (O3.below (fun b hb => by have := (own_top hown hb).1; omega) (by omega))
        go_wp2_with fail
        refine (Compact_own (w.heap.size + 1) 3 out.length c' A' (sortI out) _ o3 (by omega)).mono ?_
        rintro e w4 ⟨rfl, o4, O4⟩
        have K4 : Below w.heap.size w w4 := K3.trans (O4.below (fun b hb => by have := (own_top o3 hb).1; omega) (by have := O3.size; omega))
        have o5 := own_low o4 (show w.heap.size ≤ w.heap.size + 1 by omega)
        rw [HF.out] at o5 ⊢
        clear o3 o4
        go_wp2_with fail
        go_ret2
        rw [HR.out]
        exact ⟨A', c', rfl, o5, K4⟩

set_option maxRecDepth 100000 in
set_option maxHeartbeats 2000000 in
theorem specTroubleNumbers_any (h : DeskH) (d : DeskV) (w : World) (hs : SeesDesk w 0 h d) (hn : DeskFit 1048576 h d) (hcap : h.n3 ≤ h.c3) :
    Calls Tryz.prog 31 #[.agg #[.slice h.A0 h.n0 h.c0, .slice h.A1 h.n1 h.c1, .slice h.A2 h.n2 h.c2, .slice h.A3 h.n3 h.c3, .slice h.A4 h.n4 h.c4]] w (GivesInts w (troubleM d)) := by
  have K0 : Below w.heap.size w ((w.alloc (.cells #[.slice h.A0 h.n0 h.c0, .slice h.A1 h.n1 h.c1, .slice h.A2 h.n2 h.c2, .slice h.A3 h.n3 h.c3, .slice h.A4 h.n4 h.c4] 28)).alloc (.cells #[] 3)) := ((Below.refl _ _).alloc (Nat.le_refl _) _).alloc (by simp) _
  have P0 : Blk ((w.alloc (.cells #[.slice h.A0 h.n0 h.c0, .slice h.A1 h.n1 h.c1, .slice h.A2 h.n2 h.c2, .slice h.A3 h.n3 h.c3, .slice h.A4 h.n4 h.c4] 28)).alloc (.cells #[] 3)) w.heap.size 28 [.slice h.A0 h.n0 h.c0, .slice h.A1 h.n1 h.c1, .slice h.A2 h.n2 h.c2, .slice h.A3 h.n3 h.c3, .slice h.A4 h.n4 h.c4] := (Blk.at_ rfl).alloc _
  have o0 := own_empty_at (w := (w.alloc (.cells #[.slice h.A0 h.n0 h.c0, .slice h.A1 h.n1 h.c1, .slice h.A2 h.n2 h.c2, .slice h.A3 h.n3 h.c3, .slice h.A4 h.n4 h.c4] 28))) (g := w.heap.size + 1) 3 1 (by simp)
  have HL4 := Lib.hid hs.f4.count
  have hl4b : h.n4 ≤ d.trouble.length := by rw [HL4.out]; exact Nat.le_refl _
  have hl4a : d.trouble.length ≤ h.n4 := by rw [HL4.out]; exact Nat.le_refl _
  go_enter Tryz.func31, Tryz.ntmps31
  go_wp2_with fail
  refine (l25Good_any h d _ (hs.next K0) hn hcap).mono ?_
  cases g : deskB d
  · rintro e w1 ⟨rfl, b1⟩
    have o1 := own_low (own_below o0 b1) (show w.heap.size ≤ w.heap.size + 1 by omega)
    clear o0
    go_wp2_with fail
    go_ret2
    rw [show troubleM d = none by simp [troubleM, g]]
    exact ⟨_, 0, rfl, o1, bel_then K0 b1⟩
  · rintro e w1 ⟨rfl, b1⟩
    have HR := Lib.hid (show troubleM d = some (onceL (numsOf d.trouble)) by simp [troubleM, g])
    have ht := (deskB_top g).2
    have h10 : h.n4 ≤ 10 := by omega
    have K1 := bel_then K0 b1
    have P1 := P0.next b1
    have o1 := own_below o0 b1
    clear g o0 P0 K0 b1 ht
    go_wp2_with fail
    go_loopw [4, 5] (fun v i wr => ∃ (k : Nat) (out : List Int) (g : Nat) (c' : Nat), k ≤ h.n4 ∧ i = .int .i64 k ∧ v = .slice (some ⟨g, 0, none⟩) out.length c' ∧ wr.ownsRow (w.heap.size + 1) 3 1 (.slice (some ⟨g, 0, none⟩) out.length c') out.length (ints out) ∧ out.length ≤ k ∧ out.length ≤ c' ∧ Hid (onceL (numsOf (d.trouble.take k)) = out) ∧ Blk wr w.heap.size 28 [.slice h.A0 h.n0 h.c0, .slice h.A1 h.n1 h.c1, .slice h.A2 h.n2 h.c2, .slice h.A3 h.n3 h.c3, .slice h.A4 h.n4 h.c4] ∧ Below w.heap.size w wr) (fun _ i _ => h.n4 - (intOf i).toNat)
    case atStart => exact ⟨0, [], _, 0, Nat.zero_le _, rfl, rfl, o1, Nat.le_refl _, Nat.le_refl _, Lib.hid rfl, P1, K1⟩
    case round =>
      obtain ⟨k, out, gb, c', hk, rfl, rfl, hown, hlo, hlc, HO, PB, hb⟩ := hrel
      have cm := PB.cell
      by_cases hlt : k < h.n4
      · obtain ⟨bk, offk, B0, mc, cc0, hA4, hkx, x0, x1, x2, x3, -⟩ := SeesCard.elem (hs.f4.next hb) hlt
        have hN : onceL (numsOf (d.trouble.take (k + 1))) = onceI out d.trouble[k].number := by
          have hq := onceL_next (numsOf d.trouble) (k := k) (by simpa [numsOf] using hkx)
          simp only [numsOf, ← List.map_take, List.getElem_map] at hq ⊢
          rw [hq, show onceL ((d.trouble.take k).map Card.number) = out from HO.out]
        have hblt := World.block_lt_of_cell? wr _ x0
        have hnp : (k : Int) < (h.n4 : Int) := by omega
        have zz := PB.lt
        rw [hA4] at cm
        clear hA4
        go_wp2_with fail
        refine (l1Has_any (some ⟨gb, 0, none⟩) out.length c' out d.trouble[k].number _ ((Sees.of_own hown).less (Nat.zero_le _)) (by omega)).mono ?_
        cases g : hasI out d.trouble[k].number
        · rintro e w3 ⟨rfl, q3⟩
          have b3 := q3.below wr.heap.size
          have HN := Lib.hid (show onceL (numsOf (d.trouble.take (k + 1))) = putI out d.trouble[k].number by rw [hN, onceI, g]; rfl)
          have hno : d.trouble[k].number ∉ out := fun hh => by rw [hasI_iff.2 hh] at g; cases g
          have hpl := putI_len (n := d.trouble[k].number) (l := out)
          have hpp : 0 < (putI out d.trouble[k].number).length := List.length_pos_of_mem (putI_mem.2 (.inr rfl))
          have K3 := bel_then hb b3
          have P3 := PB.next b3
          have ow := own_below hown b3
          have z3 := b3.size
          clear hN g b3
          go_wp2_with fail
          refine (l1Put_any gb 0 out.length c' (w.heap.size + 1) out d.trouble[k].number _ (Sees.of_own ow) (by omega) hlc hno).mono ?_
          generalize putI out d.trouble[k].number = out2 at *
          rintro e w4 ⟨A4, c4, rfl, o4, b4⟩
          rcases own_open o4 with ⟨_, hz, _, _⟩ | ⟨g4, cur4, rfl, _, _, _, hnc4, _, _⟩
          · omega
          have K4 := bel_then K3 b4
          have P4 := P3.next b4
          have o5 := own_low o4 (show w.heap.size + 1 ≤ w3.heap.size by omega)
          clear o4
          go_wp2_with fail
          go_roundw
          case rel => exact ⟨k + 1, out2, g4, c4, by omega, by go_num, rfl, o5, by omega, hnc4, HN, P4, K4⟩
          case measure => simp [intOf]; omega
        · rintro e w3 ⟨rfl, q3⟩
          have b3 := q3.below wr.heap.size
          have HN := Lib.hid (show onceL (numsOf (d.trouble.take (k + 1))) = out by rw [hN, onceI, g]; rfl)
          clear hN g
          go_wp2_with fail
          go_roundw
          case rel => exact ⟨k + 1, out, gb, c', by omega, by go_num, rfl, own_below hown b3, by omega, hlc, HN, PB.next b3, bel_then hb b3⟩
          case measure => simp [intOf]; omega
      · have HE := Lib.hid (show troubleM d = some out by rw [HR.out, ← HO.out, List.take_of_length_le (by omega)])
        go_wp2_with fail
        go_ret2
        rw [HE.out]
        exact ⟨_, c', rfl, own_low hown (by omega), hb⟩

end Go.Proofs.YtkimlajfhepfgaaGreat

namespace Go.Proofs.YtkimlajfhepfgaaGreat
open Go.RowKit

theorem missL_le (c : Card) (cs : List Int) : (missL c cs).length ≤ cs.length := by
  unfold missL missTo
  rw [List.length_map]
  exact Nat.le_trans (List.length_filter_le _ _) (by simp)
theorem checkD_good {d : DeskV} (h : deskB d = true) : deskB (checkD d) = true := by
  unfold checkD
  cases hq : d.queue with
  | nil => exact h
  | cons c q =>
    unfold deskB topB at h
    simp only [Bool.and_eq_true, decide_eq_true_eq, List.all_eq_true] at h
    obtain ⟨⟨⟨⟨⟨⟨h1, h2⟩, h3⟩, h4⟩, h5⟩, h6⟩, h7⟩ := h
    have hc : finB c = true := h4 c (by rw [hq]; exact List.mem_cons_self)
    have hqs : ∀ x ∈ q, finB x = true := fun x hx => h4 x (by rw [hq]; exact List.mem_cons_of_mem _ hx)
    have hql : d.queue.length = q.length + 1 := by rw [hq]; rfl
    by_cases hp : putsB d c = true
    · simp only [if_pos hp]
      unfold deskB topB
      simp only [Bool.and_eq_true, decide_eq_true_eq, List.all_eq_true, List.length_append, List.length_singleton]
      refine ⟨⟨⟨⟨⟨⟨h1, h2⟩, h3⟩, hqs⟩, h5⟩, by omega⟩, ?_⟩
      unfold allTo
      rw [List.all_eq_true]
      intro i hi
      have hi2 : i < d.done.length + 1 := List.mem_range.1 hi
      rw [rowAt_at (by simp only [List.length_append, List.length_singleton]; exact hi2)]
      by_cases hlt : i < d.done.length
      · have h8 := allTo_at h7 hlt
        rw [rowAt_at hlt] at h8
        simp only []
        rw [List.take_append_of_le_length (Nat.le_of_lt hlt), List.getElem_append_left hlt]
        exact h8
      · obtain rfl : i = d.done.length := by omega
        simp only []
        rw [List.take_append_of_le_length (Nat.le_refl _), List.take_length, List.getElem_append_right (Nat.le_refl _)]
        simp only [Nat.sub_self, List.getElem_cons_zero]
        unfold putsB at hp
        unfold rowB rowOf
        have hm := missL_le c d.codes
        unfold codesB at h1
        unfold finB cardB headB at hc
        simp only [Bool.and_eq_true, decide_eq_true_eq, Bool.or_eq_true] at h1 hc hp ⊢
        obtain ⟨⟨⟨⟨⟨c1, c2⟩, c3⟩, c4⟩, c5⟩, c6⟩ := hc
        unfold inB at *
        simp only [Bool.and_eq_true, decide_eq_true_eq] at *
        rcases c3 with c3 | c3
        · exact absurd c3 c6
        · exact ⟨⟨hp, by omega, by omega⟩, by omega, by omega⟩
    · simp only [if_neg hp]
      unfold deskB topB
      simp only [Bool.and_eq_true, decide_eq_true_eq, List.all_eq_true, List.length_append, List.length_singleton]
      refine ⟨⟨⟨⟨⟨⟨h1, h2⟩, h3⟩, hqs⟩, fun x hx => ?_⟩, by omega⟩, h7⟩
      rcases List.mem_append.1 hx with hx | hx
      · exact h5 x hx
      · obtain rfl := List.mem_singleton.1 hx
        exact hc
theorem checkN_good {d : DeskV} (h : deskB d = true) : ∀ k, deskB (checkN k d) = true
  | 0 => h
  | k + 1 => checkD_good (checkN_good h k)
/-- What the first part of the law says of a desk that is checked whole. -/
theorem lists_facts {d : DeskV} (h : (checkAllP d).1.isSome = true) : deskB d = true ∧ deskB ((checkAllP d).1.getD deskZ) = true ∧ ((checkAllP d).1.getD deskZ).queue = [] ∧
    ((waitL d).length : Int) - ((waitL ((checkAllP d).1.getD deskZ)).length : Int) = (checkAllP d).2 ∧ (waitL ((checkAllP d).1.getD deskZ)).length ≤ (waitL d).length := by
  unfold checkAllP checkAllM checkAllC at *
  by_cases g : deskB d = true
  · simp only [if_pos g, Option.getD_some]
    obtain ⟨h1, h2⟩ := checkN_wait (known_nodup g) d.queue.length
    exact ⟨g, checkN_good g _, checkN_empty d, by omega, by omega⟩
  · simp only [if_neg g] at h
    cases h
theorem waitM_good {d : DeskV} (g : deskB d = true) : waitM d = some (waitL d) := by unfold waitM; rw [if_pos g]; rfl
theorem rankM_good {d : DeskV} (g : deskB d = true) : ∃ R, rankM d = some R ∧ R.length = d.done.length ∧ ∀ x ∈ R, x ∉ waitL d := by
  unfold rankM
  rw [if_pos g]
  refine ⟨_, rfl, by rw [List.length_map, (sortR_perm lessR d.done).length_eq], fun x hx => ?_⟩
  obtain ⟨r, hr, rfl⟩ := List.mem_map.1 hx
  exact done_not_waited ((sortR_perm lessR d.done).mem_iff.1 hr)
theorem onceL_mem {zs : List Int} {x : Int} (h : x ∈ onceL zs) : x ∈ zs := by
  have := ((onceL_facts zs [] List.Pairwise.nil).2 x).1 h
  rcases this with h | h
  · cases h
  · exact h
theorem refuse_all {d : DeskV} {x : Int} (h : x ∈ (troubleM d).getD []) : (stepM d ⟨4, x, 0, 0, 0, []⟩).isSome = true := by
  unfold troubleM at h
  by_cases g : deskB d = true
  · rw [if_pos g] at h
    have h1 := onceL_mem h
    unfold numsOf at h1
    obtain ⟨c, hc, rfl⟩ := List.mem_map.1 h1
    have hz : stepB d ⟨4, c.number, 0, 0, 0, []⟩ = true := refuse_ok g rfl rfl (List.length_pos_of_mem (a := c) (List.mem_filter.2 ⟨hc, by unfold isNum; simp⟩))
    unfold stepM
    rw [g, hz]
    rfl
  · rw [if_neg g] at h
    cases h

end Go.Proofs.YtkimlajfhepfgaaGreat
