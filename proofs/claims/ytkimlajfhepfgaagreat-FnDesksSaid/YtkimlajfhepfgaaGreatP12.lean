/- Joined texts of this proof: CurDD, RunDD, DesksP, VDesk, VBig. -/
import Derived.Deep.LoopGhost
import Derived.Deep.CutBlock
import Derived.Test.YtkimlajfhepfgaaGreatP11
import Derived.Test.YtkimlajfhepfgaaGreatP04
import Derived.Test.YtkimlajfhepfgaaGreatP05
import Derived.Test.YtkimlajfhepfgaaGreatP10
import Derived.Test.YtkimlajfhepfgaaGreatP06
import Derived.Test.YtkimlajfhepfgaaGreatP03
import Derived.Test.YtkimlajfhepfgaaGreatP02
import Derived.Test.YtkimlajfhepfgaaGreatP01
namespace Go.Proofs.YtkimlajfhepfgaaGreat
open Go.RowKit

/-- A desk, drawn by a call of its own. -/
def DrawnID (w : World) (e : Ending) (w' : World) : Prop := ∃ (H : DeskH) (d : DeskV), e = .returned (.agg #[.slice H.A0 H.n0 H.c0, .slice H.A1 H.n1 H.c1, .slice H.A2 H.n2 H.c2, .slice H.A3 H.n3 H.c3, .slice H.A4 H.n4 H.c4]) ∧ SeesDesk w' w.heap.size H d ∧ DeskFit 2000 H d ∧ H.n3 ≤ H.c3 ∧ Below w.heap.size w w'
/-- A desk and a step, drawn. -/
def DrawnSD (w : World) (e : Ending) (w' : World) : Prop := ∃ (H : DeskH) (d : DeskV) (A : Option Addr) (k c : Nat) (s : DeskStep), e = .returned (.tuple #[.agg #[.slice H.A0 H.n0 H.c0, .slice H.A1 H.n1 H.c1, .slice H.A2 H.n2 H.c2, .slice H.A3 H.n3 H.c3, .slice H.A4 H.n4 H.c4], .agg #[.int .i64 s.kind, .int .i64 s.number, .int .i64 s.cnumber, .int .i64 s.cstart, .int .i64 s.cfinish, .slice A k c]]) ∧ SeesDesk w' w.heap.size H d ∧ DeskFit 2000 H d ∧ H.n3 ≤ H.c3 ∧ Sees w' w.heap.size 2 A k (s.punches.flatMap Punch.enc) ∧ k ≤ 12 ∧ Below w.heap.size w w'
/-- A desk and steps, drawn. -/
def DrawnRD (w : World) (e : Ending) (w' : World) : Prop := ∃ (H : DeskH) (d : DeskV) (A : Option Addr) (k c : Nat) (ss : List DeskStep), e = .returned (.tuple #[.agg #[.slice H.A0 H.n0 H.c0, .slice H.A1 H.n1 H.c1, .slice H.A2 H.n2 H.c2, .slice H.A3 H.n3 H.c3, .slice H.A4 H.n4 H.c4], .slice A k c]) ∧ SeesDesk w' w.heap.size H d ∧ DeskFit 2000 H d ∧ H.n3 ≤ H.c3 ∧ SeesN deskStepSh w' w.heap.size A k ss ∧ k ≤ 40 ∧ (∀ x ∈ ss, x.cnt ≤ 12) ∧ Below w.heap.size w w'

set_option maxRecDepth 100000 in
set_option maxHeartbeats 4000000 in
theorem DrawStepDesk_any (A0 : Option Addr) (m0 c0 : Nat) (w : World) (h : CodeIn w A0 m0) (hm : m0 ≤ 1000000) :
    Calls Tryz.prog 6 #[.slice A0 m0 c0] w (DrawnSD w) := by
  have U : Below w.heap.size w (((w.alloc (.cells #[.slice none 0 0, .slice none 0 0, .slice none 0 0, .slice none 0 0, .slice none 0 0] 28)).alloc (.cells #[.int .i64 0, .int .i64 0, .int .i64 0, .int .i64 0, .int .i64 0, .slice none 0 0] 33)).alloc (.cells #[.slice A0 m0 c0, .int .i64 0, .int .u64 0] 59)) := (((Below.refl _ _).alloc (Nat.le_refl _) _).alloc (by simp) _).alloc (by simp; omega) _
  have R : Blk (((w.alloc (.cells #[.slice none 0 0, .slice none 0 0, .slice none 0 0, .slice none 0 0, .slice none 0 0] 28)).alloc (.cells #[.int .i64 0, .int .i64 0, .int .i64 0, .int .i64 0, .int .i64 0, .slice none 0 0] 33)).alloc (.cells #[.slice A0 m0 c0, .int .i64 0, .int .u64 0] 59)) w.heap.size 28 [.slice none 0 0, .slice none 0 0, .slice none 0 0, .slice none 0 0, .slice none 0 0] := ((Blk.at_ rfl : Blk (w.alloc (.cells #[.slice none 0 0, .slice none 0 0, .slice none 0 0, .slice none 0 0, .slice none 0 0] 28)) w.heap.size 28 [.slice none 0 0, .slice none 0 0, .slice none 0 0, .slice none 0 0, .slice none 0 0]).alloc _).alloc _
  have T : Blk (((w.alloc (.cells #[.slice none 0 0, .slice none 0 0, .slice none 0 0, .slice none 0 0, .slice none 0 0] 28)).alloc (.cells #[.int .i64 0, .int .i64 0, .int .i64 0, .int .i64 0, .int .i64 0, .slice none 0 0] 33)).alloc (.cells #[.slice A0 m0 c0, .int .i64 0, .int .u64 0] 59)) (w.heap.size + 1) 33 [.int .i64 0, .int .i64 0, .int .i64 0, .int .i64 0, .int .i64 0, .slice none 0 0] := (Blk.at_ (by simp) : Blk ((w.alloc (.cells #[.slice none 0 0, .slice none 0 0, .slice none 0 0, .slice none 0 0, .slice none 0 0] 28)).alloc (.cells #[.int .i64 0, .int .i64 0, .int .i64 0, .int .i64 0, .int .i64 0, .slice none 0 0] 33)) (w.heap.size + 1) 33 [.int .i64 0, .int .i64 0, .int .i64 0, .int .i64 0, .int .i64 0, .slice none 0 0]).alloc _
  have z1 : (((w.alloc (.cells #[.slice none 0 0, .slice none 0 0, .slice none 0 0, .slice none 0 0, .slice none 0 0] 28)).alloc (.cells #[.int .i64 0, .int .i64 0, .int .i64 0, .int .i64 0, .int .i64 0, .slice none 0 0] 33)).alloc (.cells #[.slice A0 m0 c0, .int .i64 0, .int .u64 0] 59)).heap.size = w.heap.size + 3 := by simp
  have hc := cur_new h hm U (show w.heap.size ≤ w.heap.size + 1 + 1 by omega) (Blk.at_ (by simp) : Blk (((w.alloc (.cells #[.slice none 0 0, .slice none 0 0, .slice none 0 0, .slice none 0 0, .slice none 0 0] 28)).alloc (.cells #[.int .i64 0, .int .i64 0, .int .i64 0, .int .i64 0, .int .i64 0, .slice none 0 0] 33)).alloc (.cells #[.slice A0 m0 c0, .int .i64 0, .int .u64 0] 59)) (w.heap.size + 1 + 1) 59 [.slice A0 m0 c0, .int .i64 0, .int .u64 0])
  go_enter Tryz.func6, Tryz.ntmps6
  go_wp2_with fail
  generalize (((w.alloc (.cells #[.slice none 0 0, .slice none 0 0, .slice none 0 0, .slice none 0 0, .slice none 0 0] 28)).alloc (.cells #[.int .i64 0, .int .i64 0, .int .i64 0, .int .i64 0, .int .i64 0, .slice none 0 0] 33)).alloc (.cells #[.slice A0 m0 c0, .int .i64 0, .int .u64 0] 59)) = w1 at *
  refine (desk_any (w.heap.size + 1 + 1) 0 w1 hc (by omega)).mono ?_
  rintro e w2 ⟨H, d, rfl, s2, f2, n2, p2, c2, o2⟩
  have R2 := R.only o2 (fun (e : _ = _) => by omega)
  have T2 := T.only o2 (fun (e : _ = _) => by omega)
  have K2 := U.trans (o2.below (fun b (hb : b = _) => by omega) (by omega))
  have zz := o2.size
  have U4 : Below w2.heap.size w2 (w2.alloc (.cells #[.slice H.A0 H.n0 H.c0, .slice H.A1 H.n1 H.c1, .slice H.A2 H.n2 H.c2, .slice H.A3 H.n3 H.c3, .slice H.A4 H.n4 H.c4] 28)) := (Below.refl _ _).alloc (Nat.le_refl _) _
  have G4 : Blk (w2.alloc (.cells #[.slice H.A0 H.n0 H.c0, .slice H.A1 H.n1 H.c1, .slice H.A2 H.n2 H.c2, .slice H.A3 H.n3 H.c3, .slice H.A4 H.n4 H.c4] 28)) w2.heap.size 28 [.slice H.A0 H.n0 H.c0, .slice H.A1 H.n1 H.c1, .slice H.A2 H.n2 H.c2, .slice H.A3 H.n3 H.c3, .slice H.A4 H.n4 H.c4] := Blk.at_ rfl
  have R4 := R2.next U4
  have T4 := T2.next U4
  have s4 := s2.next U4
  have c4 := c2.next U4
  have K4 := bel_then K2 U4
  clear R T U h hc o2 R2 T2 s2 c2 U4 K2
  go_upto_region 3 with fail
  generalize (w2.alloc (.cells #[.slice H.A0 H.n0 H.c0, .slice H.A1 H.n1 H.c1, .slice H.A2 H.n2 H.c2, .slice H.A3 H.n3 H.c3, .slice H.A4 H.n4 H.c4] 28)) = w4 at *
  generalize w2.heap.size = gd at *
  have z4 := K4.size
  have zg := G4.lt
  have gcq := (G4.next ((Quiet.one w4).below _)).cell
  refine wp_region_held_drew (S := fun w' => w'.cell? ⟨gd, 0, none⟩ = some (.slice H.A0 H.n0 H.c0) ∧ w'.cell? ⟨gd, 1, none⟩ = some (.slice H.A1 H.n1 H.c1) ∧ w'.cell? ⟨gd, 2, none⟩ = some (.slice H.A2 H.n2 H.c2) ∧ w'.cell? ⟨gd, 3, none⟩ = some (.slice H.A3 H.n3 H.c3) ∧ w'.cell? ⟨gd, 4, none⟩ = some (.slice H.A4 H.n4 H.c4)) (by kernel_rfl) (by (try dsimp only); first | exact ⟨gcq 0, gcq 1, gcq 2, gcq 3, gcq 4⟩ | exact ⟨gc5 0, gc5 1, gc5 2, gc5 3, gc5 4⟩) (fun hHeld => ?_)
  refine wpAnyH_take (i := 0) (v := ?_) rfl (by kernel_rfl) (by kernel_rfl) (by kernel_rfl) (fun _ _ _ h => h) (Or.inl ⟨by rfl, ?_⟩) (by assumption) ?_
  rotate_left 1
  · (intro w hSw; (try dsimp only at hSw); go_simp; try with_reducible rfl)
  simp only [Act.put, pA, pB, pC, pD, pE]
  refine wpAnyH_take (i := 1) (v := ?_) rfl (by kernel_rfl) (by kernel_rfl) (by kernel_rfl) (fun _ _ _ h => h) (Or.inl ⟨by rfl, ?_⟩) (by assumption) ?_
  rotate_left 1
  · (intro w hSw; (try dsimp only at hSw); go_simp; try with_reducible rfl)
  simp only [Act.put, pA, pB, pC, pD, pE, pF]
  refine wpAnyH_take (i := 2) (v := ?_) rfl (by kernel_rfl) (by kernel_rfl) (by kernel_rfl) (fun _ _ _ h => h) (Or.inl ⟨by rfl, ?_⟩) (by assumption) ?_
  rotate_left 1
  · (intro w hSw; (try dsimp only at hSw); go_simp; try with_reducible rfl)
  simp only [Act.put, pA, pB, pC, pD, pE, pF]
  refine wpAnyH_ready (rs := [3]) (by kernel_rfl) (by simp) ?_
  refine AllReadyH.cons rfl (fun K hK => ?_) AllReadyH.nil
  go_simp
  refine (deskStep_any (w.heap.size + 1 + 1) _ (w1.heap.size + 1) H d w4.drew (c4.next ((Quiet.one w4).below _)) (by omega) (s4.next ((Quiet.one w4).below _)) (by omega) n2 (by have := f2.n4; omega)).mono ?_
  rintro e w5 ⟨A, k, c, s, rfl, ow, hk, c5, o5⟩
  have s5 := (s4.next ((Quiet.one w4).below _)).draw o5 (by omega)
  have G5 := (G4.next ((Quiet.one w4).below _)).only o5 (fun (e : _ = _) => by omega)
  have R5 := (R4.next ((Quiet.one w4).below _)).only o5 (fun (e : _ = _) => by omega)
  have T5 := (T4.next ((Quiet.one w4).below _)).only o5 (fun (e : _ = _) => by omega)
  have x5 : Sees w5 w4.heap.size 2 A k (s.punches.flatMap Punch.enc) := Sees.of_own ow
  have gc5 := G5.cell
  have rc5 := R5.cell
  have rf5 := R5.frozen
  have hS : Only (fun b => b = w.heap.size) w5 (((((w5.setCell ⟨w.heap.size, 0, none⟩ (.slice H.A0 H.n0 H.c0)).setCell ⟨w.heap.size, 1, none⟩ (.slice H.A1 H.n1 H.c1)).setCell ⟨w.heap.size, 2, none⟩ (.slice H.A2 H.n2 H.c2)).setCell ⟨w.heap.size, 3, none⟩ (.slice H.A3 H.n3 H.c3)).setCell ⟨w.heap.size, 4, none⟩ (.slice H.A4 H.n4 H.c4)) := (only_set (only_set (only_set (only_set (only_set (Only.refl _ _) 0 _) 1 _) 2 _) 3 _) 4 _)
  have T6 := T5.only hS (fun (e : _ = _) => by omega)
  have G6 := G5.only hS (fun (e : _ = _) => by omega)
  have gc6 := G6.cell
  have tc6 := T6.cell
  have tf6 := T6.frozen
  have hT : Only (fun b => b = w.heap.size + 1) (((((w5.setCell ⟨w.heap.size, 0, none⟩ (.slice H.A0 H.n0 H.c0)).setCell ⟨w.heap.size, 1, none⟩ (.slice H.A1 H.n1 H.c1)).setCell ⟨w.heap.size, 2, none⟩ (.slice H.A2 H.n2 H.c2)).setCell ⟨w.heap.size, 3, none⟩ (.slice H.A3 H.n3 H.c3)).setCell ⟨w.heap.size, 4, none⟩ (.slice H.A4 H.n4 H.c4)) (((((((((((w5.setCell ⟨w.heap.size, 0, none⟩ (.slice H.A0 H.n0 H.c0)).setCell ⟨w.heap.size, 1, none⟩ (.slice H.A1 H.n1 H.c1)).setCell ⟨w.heap.size, 2, none⟩ (.slice H.A2 H.n2 H.c2)).setCell ⟨w.heap.size, 3, none⟩ (.slice H.A3 H.n3 H.c3)).setCell ⟨w.heap.size, 4, none⟩ (.slice H.A4 H.n4 H.c4)).setCell ⟨w.heap.size + 1, 0, none⟩ (.int .i64 s.kind)).setCell ⟨w.heap.size + 1, 1, none⟩ (.int .i64 s.number)).setCell ⟨w.heap.size + 1, 2, none⟩ (.int .i64 s.cnumber)).setCell ⟨w.heap.size + 1, 3, none⟩ (.int .i64 s.cstart)).setCell ⟨w.heap.size + 1, 4, none⟩ (.int .i64 s.cfinish)).setCell ⟨w.heap.size + 1, 5, none⟩ (.slice A k c)) := (only_set (only_set (only_set (only_set (only_set (only_set (Only.refl _ _) 0 _) 1 _) 2 _) 3 _) 4 _) 5 _)
  have gc7 := (G6.only hT (fun (e : _ = _) => by omega)).cell
  have rc7 := ((((((R5.set_ 0 (.slice H.A0 H.n0 H.c0)).set_ 1 (.slice H.A1 H.n1 H.c1)).set_ 2 (.slice H.A2 H.n2 H.c2)).set_ 3 (.slice H.A3 H.n3 H.c3)).set_ 4 (.slice H.A4 H.n4 H.c4)).only hT (fun (e : _ = _) => by omega)).cell
  have tc7 := ((((((T6.set_ 0 (.int .i64 s.kind)).set_ 1 (.int .i64 s.number)).set_ 2 (.int .i64 s.cnumber)).set_ 3 (.int .i64 s.cstart)).set_ 4 (.int .i64 s.cfinish)).set_ 5 (.slice A k c)).cell
  clear ow c5
  go_wp2_with fail
  refine hK.out _ _ (by (try dsimp only); first | exact ⟨gcq 0, gcq 1, gcq 2, gcq 3, gcq 4⟩ | exact ⟨gc5 0, gc5 1, gc5 2, gc5 3, gc5 4⟩) (fun hHeld => ?_)
  clear hK K
  refine wpAnyH_ready (rs := [4]) (by kernel_rfl) (by simp) ?_
  refine AllReadyH.cons rfl (fun K hK => ?_) AllReadyH.nil
  go_simp
  refine hK.out _ _ (by (try dsimp only); exact ⟨gc6 0, gc6 1, gc6 2, gc6 3, gc6 4⟩) (fun hHeld => ?_)
  clear hK K
  try simp only [Act.put, pA, pB, pC, pD, pE, pF]
  refine wpAnyH_ready (rs := [5]) (by kernel_rfl) (by simp) ?_
  refine AllReadyH.cons rfl (fun K hK => ?_) AllReadyH.nil
  go_simp
  refine hK.out _ _ (by (try dsimp only); exact ⟨gc7 0, gc7 1, gc7 2, gc7 3, gc7 4⟩) (fun hHeld => ?_)
  clear hK K
  try simp only [Act.put, pA, pB, pC, pD, pE, pF]
  refine wpAnyH_done (by kernel_rfl) ?_ _
  have Kf := (bel_drewN K4 1).trans (o5.below (fun b (hb : b = _) => by omega) (Nat.le_trans K4.size (Nat.le_refl _)))
  have z5 := o5.size
  have z6 : w4.drew.heap.size = w4.heap.size := rfl
  have hS2 := hS.size
  go_wp2_with fail
  refine bodyPost_ret (v := .tuple #[.agg #[.slice H.A0 H.n0 H.c0, .slice H.A1 H.n1 H.c1, .slice H.A2 H.n2 H.c2, .slice H.A3 H.n3 H.c3, .slice H.A4 H.n4 H.c4], .agg #[.int .i64 s.kind, .int .i64 s.number, .int .i64 s.cnumber, .int .i64 s.cstart, .int .i64 s.cfinish, .slice A k c]]) (by simp [results, Tryz.results6, go_sem, rc7, tc7]) rfl ?_
  exact ⟨H, d, A, k, c, s, rfl, ((s5.draw hS (by omega)).draw hT (by omega)).less (by omega), f2, p2, ((x5.draw hS (by omega)).draw hT (by omega)).less (by omega), hk, (Kf.trans (hS.below (fun b hb => Nat.le_of_eq hb.symm) Kf.size)).trans (hT.below (fun b (hb : b = _) => by omega) (Nat.le_trans Kf.size hS2))⟩

/-- Steps under way: in memory of the call's own, later than w0. -/
structure RunQ (w0 wr : World) (g m : Nat) (A : Option Addr) (k c : Nat) (rs : List (Hd DeskStep)) : Prop where
  steps : MineR deskStepSh wr (In w0.heap.size wr.heap.size) 33 109 A k c rs
  cnt : ∀ r ∈ rs, r.x.cnt ≤ 12
  cur : Cur wr g m
  only : Only (fun b => b = g) w0 wr
theorem RunQ.more {w0 wr : World} {g m m' : Nat} {A : Option Addr} {k c : Nat} {rs : List (Hd DeskStep)} (q : RunQ w0 wr g m A k c rs) (hm : m ≤ m') : RunQ w0 wr g m' A k c rs := { q with cur := q.cur.more hm }
theorem RunQ.drawn {w0 wr wv : World} {g m m' : Nat} {A : Option Addr} {k c : Nat} {rs : List (Hd DeskStep)} (q : RunQ w0 wr g m A k c rs) (hg : g < w0.heap.size) (hc : Cur wv g m') (ho : Only (fun b => b = g) wr wv) : RunQ w0 wv g m' A k c rs :=
  ⟨(q.steps.only ho (fun b h1 (e : _ = _) => by have := h1.1; omega)).wide (fun b hb => ⟨hb.1, Nat.lt_of_lt_of_le hb.2 ho.size⟩), q.cnt, hc, q.only.trans ho⟩
/-- One step more. -/
theorem RunQ.push {w0 wr w1 w2 w3 : World} {g m m' : Nat} {A A2 PA : Option Addr} {k c c2 pk pc : Nat} {rs : List (Hd DeskStep)} {s : DeskStep} (q : RunQ w0 wr g m A k c rs) (hg : g < w0.heap.size) (o1 : Only (fun b => b = g) wr w1) (c1 : Cur w1 g m')
    (ow : w1.ownsRow wr.heap.size 109 2 (.slice PA pk pc) pk (s.punches.flatMap Punch.enc)) (hk : pk ≤ 12) (h2 : Below w1.heap.size w1 w2) (h3 : Only (OwnB A) w2 w3)
    (o3 : w3.ownsRow 0 33 6 (.slice A2 (k + 1) c2) (k + 1) (rs.flatMap deskStepSh.enc ++ deskStepSh.enc ⟨s, PA, pk, pc⟩)) (hat : ∀ b, OwnB A2 b → OwnB A b ∨ w2.heap.size ≤ b) : RunQ w0 w3 g m' A2 (k + 1) c2 (rs ++ [⟨s, PA, pk, pc⟩]) := by
  have z0 := q.only.size
  have z1 := o1.size
  have z2 := h2.size
  have hA : ∀ b, OwnB A b → w0.heap.size ≤ b ∧ b < wr.heap.size := fun b hb => q.steps.outer.top b hb
  have i1 := q.steps.inners.only o1 (fun b h1 (e : _ = _) => by have := h1.1; omega)
  obtain ⟨hin, hap⟩ := nest_snoc (sh := deskStepSh) (B := w0.heap.size) (D := fun _ => False) i1 q.steps.apart (fun b hb => (hA b hb).2) ow (fun _ h => h.elim) (Nat.le_refl _) (Only.of_below h2) h3 hat z0 z1
  have hcnt : s.punches.length = pk := by
    have := (Sees.of_own ow).count (by decide) (fun _ => rfl)
    exact this
  refine ⟨⟨⟨by rw [List.flatMap_append, List.flatMap_singleton]; exact o3, fun b hb => ?_⟩, hin, hap⟩, fun r hr => ?_, (c1.next h2).keep h3 (fun hb => by have := (hA _ hb).1; omega) (fun b hb => by have := (hA _ hb).1; omega), ?_⟩
  · refine ⟨?_, (own_top o3 hb).2⟩
    rcases hat b hb with h5 | h5
    · exact (hA b h5).1
    · omega
  · rcases List.mem_append.1 hr with hr | hr
    · exact q.cnt r hr
    · obtain rfl := List.mem_singleton.1 hr
      show s.punches.length ≤ 12
      omega
  · have o2 := (q.only.trans o1).then_ h2
    exact ⟨h3.os.trans o2.os, h3.tape.trans o2.tape, h3.output.trans o2.output, Nat.le_trans o2.size h3.size, fun i hi hS => (h3.block i (Nat.lt_of_lt_of_le hi o2.size) (fun hb => by have := (hA _ hb).1; omega)).trans (o2.block i hi hS)⟩

set_option maxRecDepth 100000 in
set_option maxHeartbeats 8000000 in
theorem DrawRunDesk_any (A0 : Option Addr) (m0 c0 : Nat) (w : World) (h : CodeIn w A0 m0) (hm : m0 ≤ 1000000) :
    Calls Tryz.prog 12 #[.slice A0 m0 c0] w (DrawnRD w) := by
  have U : Below w.heap.size w ((w.alloc (.cells #[.slice none 0 0, .slice none 0 0, .slice none 0 0, .slice none 0 0, .slice none 0 0] 28)).alloc (.cells #[.slice A0 m0 c0, .int .i64 0, .int .u64 0] 59)) := ((Below.refl _ _).alloc (Nat.le_refl _) _).alloc (by simp) _
  have R : Blk ((w.alloc (.cells #[.slice none 0 0, .slice none 0 0, .slice none 0 0, .slice none 0 0, .slice none 0 0] 28)).alloc (.cells #[.slice A0 m0 c0, .int .i64 0, .int .u64 0] 59)) w.heap.size 28 [.slice none 0 0, .slice none 0 0, .slice none 0 0, .slice none 0 0, .slice none 0 0] := (Blk.at_ rfl : Blk (w.alloc (.cells #[.slice none 0 0, .slice none 0 0, .slice none 0 0, .slice none 0 0, .slice none 0 0] 28)) w.heap.size 28 [.slice none 0 0, .slice none 0 0, .slice none 0 0, .slice none 0 0, .slice none 0 0]).alloc _
  have z1 : ((w.alloc (.cells #[.slice none 0 0, .slice none 0 0, .slice none 0 0, .slice none 0 0, .slice none 0 0] 28)).alloc (.cells #[.slice A0 m0 c0, .int .i64 0, .int .u64 0] 59)).heap.size = w.heap.size + 2 := by simp
  have hc := cur_new h hm U (Nat.le_succ _) (Blk.at_ (by simp) : Blk ((w.alloc (.cells #[.slice none 0 0, .slice none 0 0, .slice none 0 0, .slice none 0 0, .slice none 0 0] 28)).alloc (.cells #[.slice A0 m0 c0, .int .i64 0, .int .u64 0] 59)) (w.heap.size + 1) 59 [.slice A0 m0 c0, .int .i64 0, .int .u64 0])
  go_enter Tryz.func12, Tryz.ntmps12
  go_wp2_with fail
  generalize ((w.alloc (.cells #[.slice none 0 0, .slice none 0 0, .slice none 0 0, .slice none 0 0, .slice none 0 0] 28)).alloc (.cells #[.slice A0 m0 c0, .int .i64 0, .int .u64 0] 59)) = w1 at *
  refine (desk_any (w.heap.size + 1) 0 w1 hc (by omega)).mono ?_
  rintro e w2 ⟨H, d, rfl, s2, f2, n2, p2, c2, o2⟩
  have R2 := R.only o2 (fun (e : _ = _) => by omega)
  have K2 := U.trans (o2.below (fun b (hb : b = _) => by omega) (by omega))
  have zz := o2.size
  have U4 : Below w2.heap.size w2 (w2.alloc (.cells #[.slice H.A0 H.n0 H.c0, .slice H.A1 H.n1 H.c1, .slice H.A2 H.n2 H.c2, .slice H.A3 H.n3 H.c3, .slice H.A4 H.n4 H.c4] 28)) := (Below.refl _ _).alloc (Nat.le_refl _) _
  have G : Blk (w2.alloc (.cells #[.slice H.A0 H.n0 H.c0, .slice H.A1 H.n1 H.c1, .slice H.A2 H.n2 H.c2, .slice H.A3 H.n3 H.c3, .slice H.A4 H.n4 H.c4] 28)) w2.heap.size 28 [.slice H.A0 H.n0 H.c0, .slice H.A1 H.n1 H.c1, .slice H.A2 H.n2 H.c2, .slice H.A3 H.n3 H.c3, .slice H.A4 H.n4 H.c4] := Blk.at_ rfl
  have s := s2.next U4
  have c4 := c2.next U4
  have K := bel_then K2 U4
  replace R := R2.next U4
  clear U h hc o2 R2 s2 c2 U4 K2
  go_upto_region 3 with fail
  generalize (w2.alloc (.cells #[.slice H.A0 H.n0 H.c0, .slice H.A1 H.n1 H.c1, .slice H.A2 H.n2 H.c2, .slice H.A3 H.n3 H.c3, .slice H.A4 H.n4 H.c4] 28)) = w0 at *
  generalize w2.heap.size = gd at *
  have gl := G.lt
  generalize hgg : w.heap.size + 1 = g at *
  have hg : g < w0.heap.size := by omega
  have UE : Below w0.heap.size w0 (w0.alloc (.cells #[] 33)) := (Below.refl _ _).alloc (Nat.le_refl _) _
  have Q0 : RunQ w0 (w0.alloc (.cells #[] 33)) g 2500 (some ⟨w0.heap.size, 0, none⟩) 0 0 [] := ⟨⟨Mine.of (own_empty w0 33 6), Inners.nil _, by simp⟩, by simp, c4.next UE, .of_below UE⟩
  clear c4 UE
  go_wp2_with fail
  refine (pick_any 9 g _ _ Q0.cur (by omega) (by decide) (by decide)).mono ?_
  rintro e w3 ⟨r, rfl, hr, c3, o3⟩
  have Q3 := Q0.drawn hg c3 o3
  have hr8 : r ≤ 8 := hr
  clear Q0 c3 o3 hr
  go_wp2_with fail
  go_loopw [6, 7] (fun v i wr => ∃ (j k c : Nat) (A : Option Addr) (rs : List (Hd DeskStep)), i = .int .i64 (j : Int) ∧ j + k ≤ 8 ∧ v = .slice A k c ∧ RunQ w0 wr g (2600 + 120 * k) A k c rs) (fun _ i _ => (intOf i).toNat)
  case atStart => exact ⟨r, 0, _, _, [], rfl, by omega, rfl, Q3.more (by omega)⟩
  case round =>
    clear Q3
    obtain ⟨j, k, c, A, rs, rfl, hjk, rfl, Q⟩ := hrel
    by_cases hpos : 0 < j
    · obtain ⟨j, rfl⟩ : ∃ i, j = i + 1 := ⟨j - 1, by omega⟩
      have hpi : (0 : Int) < ((j + 1 : Nat) : Int) := by omega
      have gc := (G.only Q.only (fun (e : _ = _) => by omega)).cell
      have sr := s.draw Q.only (by omega)
      go_wp2_with fail
      refine (deskStep_any g _ (w1.heap.size + 1) H d wr Q.cur (by omega) sr (by omega) n2 (by have := f2.n4; omega)).mono ?_
      rintro e w5 ⟨PA, pk, pc, st, rfl, ow, hpk, c5, o5⟩
      have UB : Below w5.heap.size w5 (w5.alloc (.cells #[.int .i64 st.kind, .int .i64 st.number, .int .i64 st.cnumber, .int .i64 st.cstart, .int .i64 st.cfinish, .slice PA pk pc] 33)) := (Below.refl _ _).alloc (Nat.le_refl _) _
      have BX : Blk (w5.alloc (.cells #[.int .i64 st.kind, .int .i64 st.number, .int .i64 st.cnumber, .int .i64 st.cstart, .int .i64 st.cfinish, .slice PA pk pc] 33)) w5.heap.size 33 [.int .i64 st.kind, .int .i64 st.number, .int .i64 st.cnumber, .int .i64 st.cstart, .int .i64 st.cfinish, .slice PA pk pc] := Blk.at_ rfl
      clear gc sr
      go_wp2_with (at_builtin; go_loud (refine wpList_cat rfl _ _ _ rfl Tryz.underlying42 info_impl_DeskStep rfl (by decide) rfl (own_below (own_only Q.steps.outer.own o5 (fun b hb (e : b = g) => by have := (Q.steps.outer.top b hb).1; omega)) UB) rfl (m := 1) (BX.sees (s := 6) (Nat.zero_le _) rfl) rfl (by omega) (by omega) (by decide) (Nat.zero_le _) ?_); intro A6 c6 w6 o6 h6 b6 q6)
      have QN := Q.push (s := st) hg o5 c5 ow hpk UB h6 o6 q6
      go_roundw
      case rel => exact ⟨j, k + 1, c6, A6, _, by go_num, by omega, rfl, QN.more (by omega)⟩
      case measure => simp [intOf]
    · obtain rfl : j = 0 := by omega
      have hpi : ¬ (0 : Int) < ((0 : Nat) : Int) := by omega
      go_wp2_with fail
      refine (one_any 24 g _ _ Q.cur (by omega) (by decide) (by decide)).mono ?_
      rintro e w5 ⟨yes, rfl, c5, o5⟩
      replace Q := Q.drawn hg c5 o5
      clear c5 o5
      cases yes
      · have R9 := R.only Q.only (fun (e : _ = _) => by omega)
        have G9 := G.only Q.only (fun (e : _ = _) => by omega)
        have s9 := s.draw Q.only (by omega)
        have gc := G9.cell
        have rc := R9.cell
        have rf := R9.frozen
        have K9 := K.trans (Q.only.below (fun b (hb : b = _) => by omega) K.size)
        have z9 := Q.only.size
        have hS : Only (fun b => b = w.heap.size) w5 (((((w5.setCell ⟨w.heap.size, 0, none⟩ (.slice H.A0 H.n0 H.c0)).setCell ⟨w.heap.size, 1, none⟩ (.slice H.A1 H.n1 H.c1)).setCell ⟨w.heap.size, 2, none⟩ (.slice H.A2 H.n2 H.c2)).setCell ⟨w.heap.size, 3, none⟩ (.slice H.A3 H.n3 H.c3)).setCell ⟨w.heap.size, 4, none⟩ (.slice H.A4 H.n4 H.c4)) := (only_set (only_set (only_set (only_set (only_set (Only.refl _ _) 0 _) 1 _) 2 _) 3 _) 4 _)
        go_wp2_with fail
        refine bodyPost_ret (v := .tuple #[.agg #[.slice H.A0 H.n0 H.c0, .slice H.A1 H.n1 H.c1, .slice H.A2 H.n2 H.c2, .slice H.A3 H.n3 H.c3, .slice H.A4 H.n4 H.c4], .slice A k c]) (by simp [results, Tryz.results12, go_sem, rc]) rfl ?_
        exact ⟨H, d, A, k, c, rs.map Hd.x, rfl, (s9.draw hS (by omega)).less (by omega), f2, p2, ⟨rs, rfl, ((Q.steps.outer.seesB (lo := w0.heap.size) (fun b hb => hb.1)).draw hS (by omega)).less (by omega), fun r hr => (((Q.steps.inners.each r hr).seesB (lo := w0.heap.size) (fun b hb => hb.1)).draw hS (by omega)).less (by omega)⟩, by omega, (fun x hx => by
          obtain ⟨r, hr, rfl⟩ := List.mem_map.1 hx
          exact Q.cnt r hr), K9.trans (hS.below (fun b hb => Nat.le_of_eq hb.symm) K9.size)⟩
      · have Q5 := Q
        clear Q
        go_wp2_with fail
        go_loopw [6] (fun v wr => ∃ (k c : Nat) (A : Option Addr) (rs : List (Hd DeskStep)), v = .slice A k c ∧ k ≤ 31 ∧ RunQ w0 wr g (3700 + 2 * k) A k c rs) (fun v _ => 32 - (match v with | .slice _ k _ => k | _ => 0))
        case atStart => exact ⟨k, c, A, rs, rfl, by omega, Q5.more (by omega)⟩
        case round =>
          clear Q5
          obtain ⟨k, c, A, rs, rfl, hk31, Q⟩ := hrel
          go_wp2_with fail
          refine (pick_any 2 g _ _ Q.cur (by omega) (by decide) (by decide)).mono ?_
          rintro e w5 ⟨q, rfl, hq, c5, o5⟩
          have hq1 : q ≤ 1 := hq
          by_cases hlt : (k : Int) < 30 + (q : Int)
          · have UB : Below w5.heap.size w5 (w5.alloc (.cells #[.int .i64 2, .int .i64 0, .int .i64 0, .int .i64 0, .int .i64 0, .slice none 0 0] 33)) := (Below.refl _ _).alloc (Nat.le_refl _) _
            have BX : Blk (w5.alloc (.cells #[.int .i64 2, .int .i64 0, .int .i64 0, .int .i64 0, .int .i64 0, .slice none 0 0] 33)) w5.heap.size 33 [.int .i64 2, .int .i64 0, .int .i64 0, .int .i64 0, .int .i64 0, .slice none 0 0] := Blk.at_ rfl
            go_wp2_with (at_builtin; go_loud (refine wpList_cat rfl _ _ _ rfl Tryz.underlying42 info_impl_DeskStep rfl (by decide) rfl (own_below (own_only Q.steps.outer.own o5 (fun b hb (e : b = g) => by have := (Q.steps.outer.top b hb).1; omega)) UB) rfl (m := 1) (BX.sees (s := 6) (Nat.zero_le _) rfl) rfl (by omega) (by omega) (by decide) (Nat.zero_le _) ?_); intro A6 c6 w6 o6 h6 b6 q6)
            have QN := Q.push (s := ⟨2, 0, 0, 0, 0, []⟩) (PA := none) (pk := 0) (pc := 0) hg o5 c5 (World.ownsRow_nil _ _ _ _) (by omega) UB h6 o6 q6
            go_roundw
            case rel => exact ⟨k + 1, c6, A6, _, rfl, by omega, QN.more (by omega)⟩
            case measure => simp; omega
          · replace Q := Q.drawn hg c5 o5
            clear c5 o5
            have R9 := R.only Q.only (fun (e : _ = _) => by omega)
            have G9 := G.only Q.only (fun (e : _ = _) => by omega)
            have s9 := s.draw Q.only (by omega)
            have gc := G9.cell
            have rc := R9.cell
            have rf := R9.frozen
            have K9 := K.trans (Q.only.below (fun b (hb : b = _) => by omega) K.size)
            have z9 := Q.only.size
            have hS : Only (fun b => b = w.heap.size) w5 (((((w5.setCell ⟨w.heap.size, 0, none⟩ (.slice H.A0 H.n0 H.c0)).setCell ⟨w.heap.size, 1, none⟩ (.slice H.A1 H.n1 H.c1)).setCell ⟨w.heap.size, 2, none⟩ (.slice H.A2 H.n2 H.c2)).setCell ⟨w.heap.size, 3, none⟩ (.slice H.A3 H.n3 H.c3)).setCell ⟨w.heap.size, 4, none⟩ (.slice H.A4 H.n4 H.c4)) := (only_set (only_set (only_set (only_set (only_set (Only.refl _ _) 0 _) 1 _) 2 _) 3 _) 4 _)
            go_wp2_with fail
            refine bodyPost_ret (v := .tuple #[.agg #[.slice H.A0 H.n0 H.c0, .slice H.A1 H.n1 H.c1, .slice H.A2 H.n2 H.c2, .slice H.A3 H.n3 H.c3, .slice H.A4 H.n4 H.c4], .slice A k c]) (by simp [results, Tryz.results12, go_sem, rc]) rfl ?_
            exact ⟨H, d, A, k, c, rs.map Hd.x, rfl, (s9.draw hS (by omega)).less (by omega), f2, p2, ⟨rs, rfl, ((Q.steps.outer.seesB (lo := w0.heap.size) (fun b hb => hb.1)).draw hS (by omega)).less (by omega), fun r hr => (((Q.steps.inners.each r hr).seesB (lo := w0.heap.size) (fun b hb => hb.1)).draw hS (by omega)).less (by omega)⟩, by omega, (fun x hx => by
              obtain ⟨r, hr, rfl⟩ := List.mem_map.1 hx
              exact Q.cnt r hr), K9.trans (hS.below (fun b hb => Nat.le_of_eq hb.symm) K9.size)⟩

end Go.Proofs.YtkimlajfhepfgaaGreat

namespace Go.Proofs.YtkimlajfhepfgaaGreat
open Go.RowKit

/-- A desk in memory of the call's own, or none; and a number. -/
def GivesDeskIO (w : World) (R : Option DeskV) (c : Int) (e : Ending) (w' : World) : Prop :=
  ∃ H : DeskH, e = .returned (.tuple #[.agg #[.slice H.A0 H.n0 H.c0, .slice H.A1 H.n1 H.c1, .slice H.A2 H.n2 H.c2, .slice H.A3 H.n3 H.c3, .slice H.A4 H.n4 H.c4], .int .i64 c, .bool R.isSome]) ∧ MineDesk w' (In w.heap.size w'.heap.size) H (R.getD deskZ) ∧ DeskFit 1048576 H (R.getD deskZ) ∧ H.n3 ≤ H.c3 ∧ Below w.heap.size w w'
theorem givesDIO_none {w w' : World} (h : Below w.heap.size w w') : GivesDeskIO w none 0 (.returned (.tuple #[.agg #[.slice none 0 0, .slice none 0 0, .slice none 0 0, .slice none 0 0, .slice none 0 0], .int .i64 0, .bool false])) w' :=
  ⟨⟨none, 0, 0, none, 0, 0, none, 0, 0, none, 0, 0, none, 0, 0⟩, rfl, deskZ_mine _ _, deskZ_fit, Nat.le_refl _, h⟩
end Go.Proofs.YtkimlajfhepfgaaGreat

namespace Go.Proofs.YtkimlajfhepfgaaGreat
open Go.RowKit

def stepAcc (x : DeskV × Nat) (s : DeskStep) : DeskV × Nat := if stepB x.1 s then (stepOut x.1 s, x.2 + 1) else x
def runK (d : DeskV) (ss : List DeskStep) : Nat → DeskV × Nat
  | 0 => (d, 0)
  | k + 1 => match ss[k]? with | some s => stepAcc (runK d ss k) s | none => runK d ss k
theorem runK_next {d : DeskV} {ss : List DeskStep} {k : Nat} (hk : k < ss.length) : runK d ss (k + 1) = stepAcc (runK d ss k) ss[k] := by
  simp only [runK, List.getElem?_eq_getElem hk]
theorem stepAcc_good {x : DeskV × Nat} {s : DeskStep} (h : deskB x.1 = true) : deskB (stepAcc x s).1 = true := by
  unfold stepAcc
  split
  · rename_i hb
    unfold stepB at hb
    simp only [Bool.and_eq_true] at hb
    exact hb.2
  · exact h
theorem runK_good {d : DeskV} {ss : List DeskStep} (h : deskB d = true) : ∀ k, deskB (runK d ss k).1 = true
  | 0 => h
  | k + 1 => by
    unfold runK
    split
    · exact stepAcc_good (runK_good h k)
    · exact runK_good h k
theorem runK_count (d : DeskV) (ss : List DeskStep) : ∀ k, (runK d ss k).2 ≤ k
  | 0 => Nat.le_refl _
  | k + 1 => by
    have h := runK_count d ss k
    unfold runK
    split
    · unfold stepAcc
      split
      · exact Nat.succ_le_succ h
      · omega
    · omega
def runP (d : DeskV) (ss : List DeskStep) : Option DeskV × Int :=
  if deskB d && decide (ss.length ≤ 30) then (some (runK d ss ss.length).1, ((runK d ss ss.length).2 : Int)) else (none, 0)
theorem runP_none {d : DeskV} {ss : List DeskStep} (h : (deskB d && decide (ss.length ≤ 30)) = false) : runP d ss = (none, 0) := by
  unfold runP
  rw [h]
  rfl
theorem runP_some {d : DeskV} {ss : List DeskStep} (h : (deskB d && decide (ss.length ≤ 30)) = true) : runP d ss = (some (runK d ss ss.length).1, ((runK d ss ss.length).2 : Int)) := by
  unfold runP
  rw [h]
  rfl
def GivesRun (w : World) (R : Option DeskV × Int) : Ending → World → Prop := GivesDeskIO w R.1 R.2

end Go.Proofs.YtkimlajfhepfgaaGreat

namespace Go.Proofs.YtkimlajfhepfgaaGreat
open Go.RowKit

set_option maxRecDepth 100000 in
set_option maxHeartbeats 8000000 in
theorem RunDesk_any (h : DeskH) (d : DeskV) (A : Option Addr) (n c : Nat) (ss : List DeskStep) (w : World) (hs : SeesDesk w 0 h d) (hf : DeskFit 1048576 h d) (hc : h.n3 ≤ h.c3) (hx : SeesN deskStepSh w 0 A n ss) (hn : n ≤ 1048576) (hi : ∀ x ∈ ss, x.cnt ≤ 1048576) :
    Calls Tryz.prog 13 #[.agg #[.slice h.A0 h.n0 h.c0, .slice h.A1 h.n1 h.c1, .slice h.A2 h.n2 h.c2, .slice h.A3 h.n3 h.c3, .slice h.A4 h.n4 h.c4], .slice A n c] w (GivesRun w (runP d ss)) := by
  have K0 : Below w.heap.size w ((w.alloc (.cells #[.slice h.A0 h.n0 h.c0, .slice h.A1 h.n1 h.c1, .slice h.A2 h.n2 h.c2, .slice h.A3 h.n3 h.c3, .slice h.A4 h.n4 h.c4] 28)).alloc (.cells #[.slice none 0 0, .slice none 0 0, .slice none 0 0, .slice none 0 0, .slice none 0 0] 28)) := ((Below.refl w.heap.size w).alloc (Nat.le_refl _) _).alloc (by simp) _
  have P : Blk ((w.alloc (.cells #[.slice h.A0 h.n0 h.c0, .slice h.A1 h.n1 h.c1, .slice h.A2 h.n2 h.c2, .slice h.A3 h.n3 h.c3, .slice h.A4 h.n4 h.c4] 28)).alloc (.cells #[.slice none 0 0, .slice none 0 0, .slice none 0 0, .slice none 0 0, .slice none 0 0] 28)) w.heap.size 28 [.slice h.A0 h.n0 h.c0, .slice h.A1 h.n1 h.c1, .slice h.A2 h.n2 h.c2, .slice h.A3 h.n3 h.c3, .slice h.A4 h.n4 h.c4] := (Blk.at_ rfl).alloc _
  have R : Blk ((w.alloc (.cells #[.slice h.A0 h.n0 h.c0, .slice h.A1 h.n1 h.c1, .slice h.A2 h.n2 h.c2, .slice h.A3 h.n3 h.c3, .slice h.A4 h.n4 h.c4] 28)).alloc (.cells #[.slice none 0 0, .slice none 0 0, .slice none 0 0, .slice none 0 0, .slice none 0 0] 28)) (w.heap.size + 1) 28 [.slice none 0 0, .slice none 0 0, .slice none 0 0, .slice none 0 0, .slice none 0 0] := Blk.at_ (by simp)
  have z0 : w.heap.size + 2 ≤ (((w.alloc (.cells #[.slice h.A0 h.n0 h.c0, .slice h.A1 h.n1 h.c1, .slice h.A2 h.n2 h.c2, .slice h.A3 h.n3 h.c3, .slice h.A4 h.n4 h.c4] 28)).alloc (.cells #[.slice none 0 0, .slice none 0 0, .slice none 0 0, .slice none 0 0, .slice none 0 0] 28))).heap.size := by simp
  have HL := Lib.hid hx.count
  go_enter Tryz.func13, Tryz.ntmps13
  go_wp2_with fail
  generalize ((w.alloc (.cells #[.slice h.A0 h.n0 h.c0, .slice h.A1 h.n1 h.c1, .slice h.A2 h.n2 h.c2, .slice h.A3 h.n3 h.c3, .slice h.A4 h.n4 h.c4] 28)).alloc (.cells #[.slice none 0 0, .slice none 0 0, .slice none 0 0, .slice none 0 0, .slice none 0 0] 28)) = w0 at *
  refine (IsDesk_any h d _ (hs.below K0 (Nat.le_refl _)) hf hc).mono ?_
  cases g : deskB d
  · rintro x w1 ⟨rfl, b1⟩
    have K1 := bel_then K0 b1
    have R1 := R.next b1
    have rc := R1.cell
    have rf := R1.frozen
    have HR := Lib.hid (runP_none (d := d) (ss := ss) (by rw [g]; rfl))
    clear g
    go_wp2_with fail
    refine bodyPost_ret (v := .tuple #[.agg #[.slice none 0 0, .slice none 0 0, .slice none 0 0, .slice none 0 0, .slice none 0 0], .int .i64 0, .bool false]) (by simp [results, Tryz.results13, go_sem, rc]) rfl ?_
    rw [HR.out]
    exact givesDIO_none (K1.trans ((((((((Only.refl (fun b => b = w.heap.size + 1) w1).setCell (p := ⟨w.heap.size + 1, 0, none⟩) rfl (.slice none 0 0)).setCell (p := ⟨w.heap.size + 1, 1, none⟩) rfl (.slice none 0 0)).setCell (p := ⟨w.heap.size + 1, 2, none⟩) rfl (.slice none 0 0)).setCell (p := ⟨w.heap.size + 1, 3, none⟩) rfl (.slice none 0 0)).setCell (p := ⟨w.heap.size + 1, 4, none⟩) rfl (.slice none 0 0))).below (fun k hk => by omega) K1.size))
  rintro x w1 ⟨rfl, b1⟩
  have K1 := bel_then K0 b1
  have R1 := R.next b1
  have P1 := P.next b1
  have z1 := b1.size
  clear P R K0 b1
  rcases Nat.lt_or_ge 30 n with h30 | h30
  · have rc := R1.cell
    have rf := R1.frozen
    have HR := Lib.hid (runP_none (d := d) (ss := ss) (by rw [g, HL.out]; exact decide_eq_false (by omega)))
    have hgt : (30 : Int) < (n : Int) := by omega
    have hgn : decide (30 < n) = true := decide_eq_true h30
    clear g
    go_wp2_with fail
    refine bodyPost_ret (v := .tuple #[.agg #[.slice none 0 0, .slice none 0 0, .slice none 0 0, .slice none 0 0, .slice none 0 0], .int .i64 0, .bool false]) (by simp [results, Tryz.results13, go_sem, rc]) rfl ?_
    rw [HR.out]
    exact givesDIO_none (K1.trans ((((((((Only.refl (fun b => b = w.heap.size + 1) w1).setCell (p := ⟨w.heap.size + 1, 0, none⟩) rfl (.slice none 0 0)).setCell (p := ⟨w.heap.size + 1, 1, none⟩) rfl (.slice none 0 0)).setCell (p := ⟨w.heap.size + 1, 2, none⟩) rfl (.slice none 0 0)).setCell (p := ⟨w.heap.size + 1, 3, none⟩) rfl (.slice none 0 0)).setCell (p := ⟨w.heap.size + 1, 4, none⟩) rfl (.slice none 0 0))).below (fun k hk => by omega) K1.size))
  have HR := Lib.hid (runP_some (d := d) (ss := ss) (by rw [g, HL.out]; exact decide_eq_true (by omega)))
  have hgt : ¬ (30 : Int) < (n : Int) := by omega
  have hgn : decide (30 < n) = false := decide_eq_false (by omega)
  have G := Lib.hid g
  have SM := deskB_small g
  have pc := P1.cell
  clear g
  go_wp2_with fail
  refine (newDeskW_any h d _ (hs.below K1 (Nat.le_refl _)) hf).mono ?_
  rintro x w2 ⟨H, rfl, M, F, C3, C2, b2⟩
  have K2 := bel_then K1 b2
  have R2 := R1.next b2
  have z2 := b2.size
  have U : Below w2.heap.size w2 (w2.alloc (.cells #[.slice H.A0 H.n0 H.c0, .slice H.A1 H.n1 H.c1, .slice H.A2 H.n2 H.c2, .slice H.A3 H.n3 H.c3, .slice H.A4 H.n4 H.c4] 28)) := (Below.refl _ _).alloc (Nat.le_refl _) _
  have B3 : Blk (w2.alloc (.cells #[.slice H.A0 H.n0 H.c0, .slice H.A1 H.n1 H.c1, .slice H.A2 H.n2 H.c2, .slice H.A3 H.n3 H.c3, .slice H.A4 H.n4 H.c4] 28)) w2.heap.size 28 [.slice H.A0 H.n0 H.c0, .slice H.A1 H.n1 H.c1, .slice H.A2 H.n2 H.c2, .slice H.A3 H.n3 H.c3, .slice H.A4 H.n4 H.c4] := Blk.at_ rfl
  have K3 := bel_then K2 U
  have R3 := R2.next U
  have M3 := (M.next U).wide (T := fun b => b ≠ w2.heap.size ∧ w.heap.size + 2 ≤ b ∧ b < (w2.alloc (.cells #[.slice H.A0 H.n0 H.c0, .slice H.A1 H.n1 H.c1, .slice H.A2 H.n2 H.c2, .slice H.A3 H.n3 H.c3, .slice H.A4 H.n4 H.c4] 28)).heap.size) (fun b hb => ⟨by have := hb.2; omega, by have := hb.1; omega, Nat.lt_of_lt_of_le hb.2 U.size⟩)
  clear pc P1 K1 R1 M K2 R2 U b2 F hgt hgn
  have hg5 : w.heap.size + 2 ≤ w2.heap.size := by omega
  go_wp2_with fail
  generalize w2.alloc (.cells #[.slice H.A0 H.n0 H.c0, .slice H.A1 H.n1 H.c1, .slice H.A2 H.n2 H.c2, .slice H.A3 H.n3 H.c3, .slice H.A4 H.n4 H.c4] 28) = w3 at *
  generalize w2.heap.size = g5 at *
  go_loopw [8, 26] (fun cv iv wr => ∃ (h' : DeskH) (k c : Nat), k ≤ n ∧ iv = .int .i64 (k : Int) ∧ cv = .int .i64 (c : Int) ∧ c ≤ k ∧ Hid (c = (runK d ss k).2) ∧ Blk wr g5 28 [.slice h'.A0 h'.n0 h'.c0, .slice h'.A1 h'.n1 h'.c1, .slice h'.A2 h'.n2 h'.c2, .slice h'.A3 h'.n3 h'.c3, .slice h'.A4 h'.n4 h'.c4] ∧ MineW wr (fun b => b ≠ g5 ∧ w.heap.size + 2 ≤ b ∧ b < wr.heap.size) h' (runK d ss k).1 ∧ Blk wr (w.heap.size + 1) 28 [.slice none 0 0, .slice none 0 0, .slice none 0 0, .slice none 0 0, .slice none 0 0] ∧ Below w.heap.size w wr) (fun _ iv _ => n - (intOf iv).toNat)
  case atStart => exact ⟨H, 0, 0, Nat.zero_le _, rfl, rfl, Nat.le_refl _, Lib.hid rfl, B3, M3, R3, K3⟩
  case round =>
    obtain ⟨h', k, cn, hk, rfl, rfl, hck, HC, B, M, R, Kq⟩ := hrel
    clear B3 M3 R3 K3
    have bc := B.cell
    have hgl := B.lt
    by_cases hlt : k < n
    · obtain ⟨b4, off, B4a, m, e, hA, hkx, x0, x1, x2, x3, x4, x5, hin⟩ := SeesDeskStep.elem (hx.next Kq) hlt
      subst hA
      have hblt := World.block_lt_of_cell? wr _ x0
      have HN := Lib.hid (runK_next (d := d) hkx)
      have hm : m ≤ 1048576 := by
        have h1 := hin.count (by decide) (fun _ => rfl)
        have h2 := hi _ (List.getElem_mem hkx)
        unfold DeskStep.cnt at h2
        omega
      have hnp : (k : Int) < (n : Int) := by omega
      have GK := Lib.hid (runK_good (d := d) (ss := ss) G.out k)
      have SMK := Lib.hid (deskB_small GK.out)
      generalize ss[k] = s at *
      generalize B4a = B5 at *
      have b0 : Below wr.heap.size wr (wr.alloc (.cells #[.int .i64 s.kind, .int .i64 s.number, .int .i64 s.cnumber, .int .i64 s.cstart, .int .i64 s.cfinish, .slice B5 m e] 33)) := (Below.refl _ _).alloc (Nat.le_refl _) _
      have zb0 := b0.size
      go_wp2_with fail
      refine (stepDesk_any h' (runK d ss k).1 B5 m e s _ (M.desk.sees.next b0) GK.out (hin.next b0) hm).mono ?_
      rintro x w5 ⟨h2, rfl, M2, C5, b9⟩
      have b2 := bel_then b0 b9
      have zw := b9.size
      clear b0 b9
      have hz := b2.size
      have Bn := B.next b2
      have Rn := R.next b2
      have Mn := M.next b2
      have Kn := bel_then Kq b2
      have bA : Below w5.heap.size w5 (w5.alloc (.cells #[.slice h2.A0 h2.n0 h2.c0, .slice h2.A1 h2.n1 h2.c1, .slice h2.A2 h2.n2 h2.c2, .slice h2.A3 h2.n3 h2.c3, .slice h2.A4 h2.n4 h2.c4] 28)) := (Below.refl _ _).alloc (Nat.le_refl _) _
      have zA := bA.size
      cases hb : stepB (runK d ss k).1 s
      · have HE := Lib.hid (show runK d ss (k + 1) = runK d ss k by rw [HN.out]; unfold stepAcc; rw [hb]; rfl)
        have HB := Lib.hid hb
        clear hb bc x0 x1 x2 x3 x4 x5
        go_wp2_with fail
        go_roundw
        case rel => exact ⟨h', k + 1, cn, by omega, by go_num, rfl, by omega, Lib.hid (by rw [HE.out]; exact HC.out), Bn.next bA, by rw [HE.out]; exact (Mn.next bA).wide (fun b hb => ⟨hb.1, hb.2.1, by have := hb.2.2; omega⟩), Rn.next bA, bel_then Kn bA⟩
        case measure => simp [intOf]; omega
      have HE := Lib.hid (show runK d ss (k + 1) = (stepOut (runK d ss k).1 s, (runK d ss k).2 + 1) by rw [HN.out]; unfold stepAcc; rw [hb]; rfl)
      have HB := Lib.hid hb
      clear hb bc x0 x1 x2 x3 x4 x5
      have bn := Bn.cell
      have bf := Bn.frozen
      have hgn := Bn.lt
      have E := ((((((Only.refl (fun b => b = g5) w5).setCell (p := ⟨g5, 0, none⟩) rfl (.slice h2.A0 h2.n0 h2.c0)).setCell (p := ⟨g5, 1, none⟩) rfl (.slice h2.A1 h2.n1 h2.c1)).setCell (p := ⟨g5, 2, none⟩) rfl (.slice h2.A2 h2.n2 h2.c2)).setCell (p := ⟨g5, 3, none⟩) rfl (.slice h2.A3 h2.n3 h2.c3)).setCell (p := ⟨g5, 4, none⟩) rfl (.slice h2.A4 h2.n4 h2.c4))
      have bB : Below ((((((w5.setCell ⟨g5, 0, none⟩ (.slice h2.A0 h2.n0 h2.c0)).setCell ⟨g5, 1, none⟩ (.slice h2.A1 h2.n1 h2.c1)).setCell ⟨g5, 2, none⟩ (.slice h2.A2 h2.n2 h2.c2)).setCell ⟨g5, 3, none⟩ (.slice h2.A3 h2.n3 h2.c3)).setCell ⟨g5, 4, none⟩ (.slice h2.A4 h2.n4 h2.c4))).heap.size (((((w5.setCell ⟨g5, 0, none⟩ (.slice h2.A0 h2.n0 h2.c0)).setCell ⟨g5, 1, none⟩ (.slice h2.A1 h2.n1 h2.c1)).setCell ⟨g5, 2, none⟩ (.slice h2.A2 h2.n2 h2.c2)).setCell ⟨g5, 3, none⟩ (.slice h2.A3 h2.n3 h2.c3)).setCell ⟨g5, 4, none⟩ (.slice h2.A4 h2.n4 h2.c4)) (((((((w5.setCell ⟨g5, 0, none⟩ (.slice h2.A0 h2.n0 h2.c0)).setCell ⟨g5, 1, none⟩ (.slice h2.A1 h2.n1 h2.c1)).setCell ⟨g5, 2, none⟩ (.slice h2.A2 h2.n2 h2.c2)).setCell ⟨g5, 3, none⟩ (.slice h2.A3 h2.n3 h2.c3)).setCell ⟨g5, 4, none⟩ (.slice h2.A4 h2.n4 h2.c4))).alloc (.cells #[.slice h2.A0 h2.n0 h2.c0, .slice h2.A1 h2.n1 h2.c1, .slice h2.A2 h2.n2 h2.c2, .slice h2.A3 h2.n3 h2.c3, .slice h2.A4 h2.n4 h2.c4] 28)) := (Below.refl _ _).alloc (Nat.le_refl _) _
      have zE := E.size
      have zB := bB.size
      have Bz : Blk (((((w5.setCell ⟨g5, 0, none⟩ (.slice h2.A0 h2.n0 h2.c0)).setCell ⟨g5, 1, none⟩ (.slice h2.A1 h2.n1 h2.c1)).setCell ⟨g5, 2, none⟩ (.slice h2.A2 h2.n2 h2.c2)).setCell ⟨g5, 3, none⟩ (.slice h2.A3 h2.n3 h2.c3)).setCell ⟨g5, 4, none⟩ (.slice h2.A4 h2.n4 h2.c4)) g5 28 [.slice h2.A0 h2.n0 h2.c0, .slice h2.A1 h2.n1 h2.c1, .slice h2.A2 h2.n2 h2.c2, .slice h2.A3 h2.n3 h2.c3, .slice h2.A4 h2.n4 h2.c4] := (((((Bn.set_ 0 (.slice h2.A0 h2.n0 h2.c0)).set_ 1 (.slice h2.A1 h2.n1 h2.c1)).set_ 2 (.slice h2.A2 h2.n2 h2.c2)).set_ 3 (.slice h2.A3 h2.n3 h2.c3)).set_ 4 (.slice h2.A4 h2.n4 h2.c4))
      have Mz := M2.only E (fun b h1 (h2 : b = g5) => by have := h1.1; omega)
      have Rz := Rn.only E (fun h => by omega)
      have Kz := Kn.trans (E.below (fun b hb => by omega) Kn.size)
      have hc1 : (cn : Int) + 1 ≤ 1000000000 := by omega
      go_wp2_with fail
      go_roundw
      case rel => exact ⟨h2, k + 1, cn + 1, by omega, by go_num, by go_num, by omega, Lib.hid (by rw [HE.out, HC.out]), Bz.next bB, by rw [HE.out]; exact (Mz.next bB).wide (fun b hb => ⟨by have := hb.1; omega, by have := hb.1; have := Kn.size; omega, by have := hb.2; omega⟩), Rz.next bB, bel_then Kz bB⟩
      case measure => simp [intOf]; omega
    · obtain rfl : k = n := by omega
      have rc := R.cell
      have rf := R.frozen
      have hnp : ¬ (k : Int) < (k : Int) := by omega
      have HM := Lib.hid (show runP d ss = (some (runK d ss k).1, (cn : Int)) by rw [HR.out, HL.out, HC.out])
      clear hx hi
      go_wp2_with fail
      refine bodyPost_ret (v := .tuple #[.agg #[.slice h'.A0 h'.n0 h'.c0, .slice h'.A1 h'.n1 h'.c1, .slice h'.A2 h'.n2 h'.c2, .slice h'.A3 h'.n3 h'.c3, .slice h'.A4 h'.n4 h'.c4], .int .i64 (cn : Int), .bool true]) (by simp [results, Tryz.results13, go_sem, rc]) rfl ?_
      rw [HM.out]
      have E := ((((((Only.refl (fun b => b = w.heap.size + 1) wr).setCell (p := ⟨w.heap.size + 1, 0, none⟩) rfl (.slice h'.A0 h'.n0 h'.c0)).setCell (p := ⟨w.heap.size + 1, 1, none⟩) rfl (.slice h'.A1 h'.n1 h'.c1)).setCell (p := ⟨w.heap.size + 1, 2, none⟩) rfl (.slice h'.A2 h'.n2 h'.c2)).setCell (p := ⟨w.heap.size + 1, 3, none⟩) rfl (.slice h'.A3 h'.n3 h'.c3)).setCell (p := ⟨w.heap.size + 1, 4, none⟩) rfl (.slice h'.A4 h'.n4 h'.c4))
      have zF := E.size
      have M4 := M.only E (fun b h1 h2 => by have := h1.2.1; omega)
      exact ⟨h', rfl, (M4.wide (fun b hb => by have := hb.2.1; have := hb.2.2; exact ⟨by omega, by omega⟩)).desk, (deskB_small (runK_good G.out _)).fit M.desk.sees (by decide) (by decide), M.cap3, Kq.trans (E.below (fun k hk => by omega) Kq.size)⟩

end Go.Proofs.YtkimlajfhepfgaaGreat

namespace Go.Proofs.YtkimlajfhepfgaaGreat
open Go.RowKit

set_option maxRecDepth 100000 in
set_option maxHeartbeats 8000000 in
theorem specRunDesk_any (h : DeskH) (d : DeskV) (A : Option Addr) (n c : Nat) (ss : List DeskStep) (w : World) (hs : SeesDesk w 0 h d) (hf : DeskFit 1048576 h d) (hc : h.n3 ≤ h.c3) (hx : SeesN deskStepSh w 0 A n ss) (hn : n ≤ 1048576) (hi : ∀ x ∈ ss, x.cnt ≤ 1048576) :
    Calls Tryz.prog 14 #[.agg #[.slice h.A0 h.n0 h.c0, .slice h.A1 h.n1 h.c1, .slice h.A2 h.n2 h.c2, .slice h.A3 h.n3 h.c3, .slice h.A4 h.n4 h.c4], .slice A n c] w (GivesRun w (runP d ss)) := by
  have K0 : Below w.heap.size w ((w.alloc (.cells #[.slice h.A0 h.n0 h.c0, .slice h.A1 h.n1 h.c1, .slice h.A2 h.n2 h.c2, .slice h.A3 h.n3 h.c3, .slice h.A4 h.n4 h.c4] 28)).alloc (.cells #[.slice none 0 0, .slice none 0 0, .slice none 0 0, .slice none 0 0, .slice none 0 0] 28)) := ((Below.refl w.heap.size w).alloc (Nat.le_refl _) _).alloc (by simp) _
  have P : Blk ((w.alloc (.cells #[.slice h.A0 h.n0 h.c0, .slice h.A1 h.n1 h.c1, .slice h.A2 h.n2 h.c2, .slice h.A3 h.n3 h.c3, .slice h.A4 h.n4 h.c4] 28)).alloc (.cells #[.slice none 0 0, .slice none 0 0, .slice none 0 0, .slice none 0 0, .slice none 0 0] 28)) w.heap.size 28 [.slice h.A0 h.n0 h.c0, .slice h.A1 h.n1 h.c1, .slice h.A2 h.n2 h.c2, .slice h.A3 h.n3 h.c3, .slice h.A4 h.n4 h.c4] := (Blk.at_ rfl).alloc _
  have R : Blk ((w.alloc (.cells #[.slice h.A0 h.n0 h.c0, .slice h.A1 h.n1 h.c1, .slice h.A2 h.n2 h.c2, .slice h.A3 h.n3 h.c3, .slice h.A4 h.n4 h.c4] 28)).alloc (.cells #[.slice none 0 0, .slice none 0 0, .slice none 0 0, .slice none 0 0, .slice none 0 0] 28)) (w.heap.size + 1) 28 [.slice none 0 0, .slice none 0 0, .slice none 0 0, .slice none 0 0, .slice none 0 0] := Blk.at_ (by simp)
  have z0 : w.heap.size + 2 ≤ (((w.alloc (.cells #[.slice h.A0 h.n0 h.c0, .slice h.A1 h.n1 h.c1, .slice h.A2 h.n2 h.c2, .slice h.A3 h.n3 h.c3, .slice h.A4 h.n4 h.c4] 28)).alloc (.cells #[.slice none 0 0, .slice none 0 0, .slice none 0 0, .slice none 0 0, .slice none 0 0] 28))).heap.size := by simp
  have HL := Lib.hid hx.count
  go_enter Tryz.func14, Tryz.ntmps14
  go_wp2_with fail
  generalize ((w.alloc (.cells #[.slice h.A0 h.n0 h.c0, .slice h.A1 h.n1 h.c1, .slice h.A2 h.n2 h.c2, .slice h.A3 h.n3 h.c3, .slice h.A4 h.n4 h.c4] 28)).alloc (.cells #[.slice none 0 0, .slice none 0 0, .slice none 0 0, .slice none 0 0, .slice none 0 0] 28)) = w0 at *
  refine (l25Good_any h d _ (hs.below K0 (Nat.le_refl _)) hf hc).mono ?_
  cases g : deskB d
  · rintro x w1 ⟨rfl, b1⟩
    have K1 := bel_then K0 b1
    have R1 := R.next b1
    have rc := R1.cell
    have rf := R1.frozen
    have HR := Lib.hid (runP_none (d := d) (ss := ss) (by rw [g]; rfl))
    clear g
    go_wp2_with fail
    refine bodyPost_ret (v := .tuple #[.agg #[.slice none 0 0, .slice none 0 0, .slice none 0 0, .slice none 0 0, .slice none 0 0], .int .i64 0, .bool false]) (by simp [results, Tryz.results14, go_sem, rc]) rfl ?_
    rw [HR.out]
    exact givesDIO_none (K1.trans ((((((((Only.refl (fun b => b = w.heap.size + 1) w1).setCell (p := ⟨w.heap.size + 1, 0, none⟩) rfl (.slice none 0 0)).setCell (p := ⟨w.heap.size + 1, 1, none⟩) rfl (.slice none 0 0)).setCell (p := ⟨w.heap.size + 1, 2, none⟩) rfl (.slice none 0 0)).setCell (p := ⟨w.heap.size + 1, 3, none⟩) rfl (.slice none 0 0)).setCell (p := ⟨w.heap.size + 1, 4, none⟩) rfl (.slice none 0 0))).below (fun k hk => by omega) K1.size))
  rintro x w1 ⟨rfl, b1⟩
  have K1 := bel_then K0 b1
  have R1 := R.next b1
  have P1 := P.next b1
  have z1 := b1.size
  clear P R K0 b1
  rcases Nat.lt_or_ge 30 n with h30 | h30
  · have rc := R1.cell
    have rf := R1.frozen
    have HR := Lib.hid (runP_none (d := d) (ss := ss) (by rw [g, HL.out]; exact decide_eq_false (by omega)))
    have hgt : (30 : Int) < (n : Int) := by omega
    have hgn : decide (30 < n) = true := decide_eq_true h30
    clear g
    go_wp2_with fail
    refine bodyPost_ret (v := .tuple #[.agg #[.slice none 0 0, .slice none 0 0, .slice none 0 0, .slice none 0 0, .slice none 0 0], .int .i64 0, .bool false]) (by simp [results, Tryz.results14, go_sem, rc]) rfl ?_
    rw [HR.out]
    exact givesDIO_none (K1.trans ((((((((Only.refl (fun b => b = w.heap.size + 1) w1).setCell (p := ⟨w.heap.size + 1, 0, none⟩) rfl (.slice none 0 0)).setCell (p := ⟨w.heap.size + 1, 1, none⟩) rfl (.slice none 0 0)).setCell (p := ⟨w.heap.size + 1, 2, none⟩) rfl (.slice none 0 0)).setCell (p := ⟨w.heap.size + 1, 3, none⟩) rfl (.slice none 0 0)).setCell (p := ⟨w.heap.size + 1, 4, none⟩) rfl (.slice none 0 0))).below (fun k hk => by omega) K1.size))
  have HR := Lib.hid (runP_some (d := d) (ss := ss) (by rw [g, HL.out]; exact decide_eq_true (by omega)))
  have hgt : ¬ (30 : Int) < (n : Int) := by omega
  have hgn : decide (30 < n) = false := decide_eq_false (by omega)
  have G := Lib.hid g
  have SM := deskB_small g
  have pc := P1.cell
  clear g
  go_wp2_with fail
  refine (l25OwnW_any h d _ (hs.below K1 (Nat.le_refl _)) hf).mono ?_
  rintro x w2 ⟨H, rfl, M, F, C3, C2, b2⟩
  have K2 := bel_then K1 b2
  have R2 := R1.next b2
  have z2 := b2.size
  have U : Below w2.heap.size w2 (w2.alloc (.cells #[.slice H.A0 H.n0 H.c0, .slice H.A1 H.n1 H.c1, .slice H.A2 H.n2 H.c2, .slice H.A3 H.n3 H.c3, .slice H.A4 H.n4 H.c4] 28)) := (Below.refl _ _).alloc (Nat.le_refl _) _
  have B3 : Blk (w2.alloc (.cells #[.slice H.A0 H.n0 H.c0, .slice H.A1 H.n1 H.c1, .slice H.A2 H.n2 H.c2, .slice H.A3 H.n3 H.c3, .slice H.A4 H.n4 H.c4] 28)) w2.heap.size 28 [.slice H.A0 H.n0 H.c0, .slice H.A1 H.n1 H.c1, .slice H.A2 H.n2 H.c2, .slice H.A3 H.n3 H.c3, .slice H.A4 H.n4 H.c4] := Blk.at_ rfl
  have K3 := bel_then K2 U
  have R3 := R2.next U
  have M3 := (M.next U).wide (T := fun b => b ≠ w2.heap.size ∧ w.heap.size + 2 ≤ b ∧ b < (w2.alloc (.cells #[.slice H.A0 H.n0 H.c0, .slice H.A1 H.n1 H.c1, .slice H.A2 H.n2 H.c2, .slice H.A3 H.n3 H.c3, .slice H.A4 H.n4 H.c4] 28)).heap.size) (fun b hb => ⟨by have := hb.2; omega, by have := hb.1; omega, Nat.lt_of_lt_of_le hb.2 U.size⟩)
  clear pc P1 K1 R1 M K2 R2 U b2 F hgt hgn
  have hg5 : w.heap.size + 2 ≤ w2.heap.size := by omega
  go_wp2_with fail
  generalize w2.alloc (.cells #[.slice H.A0 H.n0 H.c0, .slice H.A1 H.n1 H.c1, .slice H.A2 H.n2 H.c2, .slice H.A3 H.n3 H.c3, .slice H.A4 H.n4 H.c4] 28) = w3 at *
  generalize w2.heap.size = g5 at *
  go_loopw [8, 9] (fun cv iv wr => ∃ (h' : DeskH) (k c : Nat), k ≤ n ∧ iv = .int .i64 (k : Int) ∧ cv = .int .i64 (c : Int) ∧ c ≤ k ∧ Hid (c = (runK d ss k).2) ∧ Blk wr g5 28 [.slice h'.A0 h'.n0 h'.c0, .slice h'.A1 h'.n1 h'.c1, .slice h'.A2 h'.n2 h'.c2, .slice h'.A3 h'.n3 h'.c3, .slice h'.A4 h'.n4 h'.c4] ∧ MineW wr (fun b => b ≠ g5 ∧ w.heap.size + 2 ≤ b ∧ b < wr.heap.size) h' (runK d ss k).1 ∧ Blk wr (w.heap.size + 1) 28 [.slice none 0 0, .slice none 0 0, .slice none 0 0, .slice none 0 0, .slice none 0 0] ∧ Below w.heap.size w wr) (fun _ iv _ => n - (intOf iv).toNat)
  case atStart => exact ⟨H, 0, 0, Nat.zero_le _, rfl, rfl, Nat.le_refl _, Lib.hid rfl, B3, M3, R3, K3⟩
  case round =>
    obtain ⟨h', k, cn, hk, rfl, rfl, hck, HC, B, M, R, Kq⟩ := hrel
    clear B3 M3 R3 K3
    have bc := B.cell
    have hgl := B.lt
    by_cases hlt : k < n
    · obtain ⟨b4, off, B4a, m, e, hA, hkx, x0, x1, x2, x3, x4, x5, hin⟩ := SeesDeskStep.elem (hx.next Kq) hlt
      subst hA
      have hblt := World.block_lt_of_cell? wr _ x0
      have HN := Lib.hid (runK_next (d := d) hkx)
      have hm : m ≤ 1048576 := by
        have h1 := hin.count (by decide) (fun _ => rfl)
        have h2 := hi _ (List.getElem_mem hkx)
        unfold DeskStep.cnt at h2
        omega
      have hnp : (k : Int) < (n : Int) := by omega
      have GK := Lib.hid (runK_good (d := d) (ss := ss) G.out k)
      have SMK := Lib.hid (deskB_small GK.out)
      generalize ss[k] = s at *
      generalize B4a = B5 at *
      obtain ⟨hst1, hst2⟩ := step_same GK.out s
      have HS1 := Lib.hid hst1
      have HS2 := Lib.hid (fun (hb : stepB (runK d ss k).1 s = true) => hst2 hb)
      clear hst1 hst2
      go_wp2_with fail
      refine (l25Step_any B5 m e s _ hin hm).mono ?_
      cases hv : validS s
      · rintro x w4 ⟨rfl, b⟩
        have HE := Lib.hid (show runK d ss (k + 1) = runK d ss k by rw [HN.out]; unfold stepAcc; rw [HS1.out, hv]; rfl)
        have HV := Lib.hid hv
        have z4 := b.size
        clear hv bc x0 x1 x2 x3 x4 x5
        go_wp2_with fail
        go_roundw
        case rel => exact ⟨h', k + 1, cn, by omega, by go_num, rfl, by omega, Lib.hid (by rw [HE.out]; exact HC.out), B.next b, by rw [HE.out]; exact (M.next b).wide (fun b hb => ⟨hb.1, hb.2.1, by have := hb.2.2; omega⟩), R.next b, bel_then Kq b⟩
        case measure => simp [intOf]; omega
      rintro x w4 ⟨rfl, b⟩
      have HMB := Lib.hid (show makeB (runK d ss k).1 s = stepB (runK d ss k).1 s by rw [HS1.out, hv]; rfl)
      have HV := Lib.hid hv
      clear hv
      have zw4 := b.size
      have y0 := x0
      clear bc
      have Xq : ∀ i (v : Value), wr.cell? ⟨b4, off + k * 6 + i, none⟩ = some v → w4.cell? ⟨b4, off + k * 6 + i, none⟩ = some v := fun i v h => (cell_only (S := fun _ => False) (Only.of_below b) (fun h => h) hblt).trans h
      replace x0 := Xq 0 _ x0
      replace x1 := Xq 1 _ x1
      replace x2 := Xq 2 _ x2
      replace x3 := Xq 3 _ x3
      replace x4 := Xq 4 _ x4
      replace x5 := Xq 5 _ x5
      clear Xq y0
      replace B := B.next b
      replace R := R.next b
      replace M := (M.next b).wide (T := fun b => b ≠ g5 ∧ w.heap.size + 2 ≤ b ∧ b < w4.heap.size) (fun b hb => ⟨hb.1, hb.2.1, by have := hb.2.2; omega⟩)
      replace Kq := bel_then Kq b
      replace hin := hin.next b
      have hbl4 := World.block_lt_of_cell? w4 _ x0
      clear b hgl hblt
      have hgl := B.lt
      have hbx := hbl4
      have Kt := Below.refl w4.heap.size w4
      have b := (Quiet.one w4).below w4.heap.size
      replace x0 := (cell_only (S := fun _ => False) (Only.of_below b) (fun h => h) hbx).trans x0
      replace x1 := (cell_only (S := fun _ => False) (Only.of_below b) (fun h => h) hbx).trans x1
      replace x2 := (cell_only (S := fun _ => False) (Only.of_below b) (fun h => h) hbx).trans x2
      replace x3 := (cell_only (S := fun _ => False) (Only.of_below b) (fun h => h) hbx).trans x3
      replace x4 := (cell_only (S := fun _ => False) (Only.of_below b) (fun h => h) hbx).trans x4
      replace x5 := (cell_only (S := fun _ => False) (Only.of_below b) (fun h => h) hbx).trans x5
      replace hbx := Nat.lt_of_lt_of_le hbx b.size
      replace B := B.next b
      replace R := R.next b
      replace M := M.next b
      replace Kq := bel_then Kq b
      replace Kt := bel_then Kt b
      replace hin := hin.next b
      try (replace RB := RB.next b)
      have bc := B.cell
      try (have RBc := RB.cell)
      try (have RBf := RB.frozen)
      clear b
      have bc0 := B.cell
      go_wp2_with fail
      refine wp_region_held_drew (S := fun w' => w'.cell? ⟨g5, 0, none⟩ = some (.slice h'.A0 h'.n0 h'.c0) ∧ w'.cell? ⟨g5, 1, none⟩ = some (.slice h'.A1 h'.n1 h'.c1) ∧ w'.cell? ⟨g5, 2, none⟩ = some (.slice h'.A2 h'.n2 h'.c2) ∧ w'.cell? ⟨g5, 3, none⟩ = some (.slice h'.A3 h'.n3 h'.c3) ∧ w'.cell? ⟨g5, 4, none⟩ = some (.slice h'.A4 h'.n4 h'.c4) ∧ w'.cell? ⟨b4, off + k * 6, none⟩ = some (.int .i64 s.kind) ∧ w'.cell? ⟨b4, off + k * 6 + 1, none⟩ = some (.int .i64 s.number) ∧ w'.cell? ⟨b4, off + k * 6 + 2, none⟩ = some (.int .i64 s.cnumber) ∧ w'.cell? ⟨b4, off + k * 6 + 3, none⟩ = some (.int .i64 s.cstart) ∧ w'.cell? ⟨b4, off + k * 6 + 4, none⟩ = some (.int .i64 s.cfinish) ∧ w'.cell? ⟨b4, off + k * 6 + 5, none⟩ = some (.slice B5 m e)) (by kernel_rfl) (by (try dsimp only); exact ⟨bc 0, bc 1, bc 2, bc 3, bc 4, x0, x1, x2, x3, x4, x5⟩) (fun hHeld => ?_)
      generalize w4.drew = wz at *
      refine wpAnyH_take (i := 0) (v := ?_) rfl (by kernel_rfl) (by kernel_rfl) (by kernel_rfl) (fun _ _ _ h => h) (Or.inl ⟨by rfl, ?_⟩) (by assumption) ?_
      rotate_left 1
      · (intro w hSw; (try dsimp only at hSw); go_simp; try with_reducible rfl)
      simp only [Act.put, pA, pB, pC, pD, pE]
      refine wpAnyH_take (i := 1) (v := ?_) rfl (by kernel_rfl) (by kernel_rfl) (by kernel_rfl) (fun _ _ _ h => h) (Or.inl ⟨by rfl, ?_⟩) (by assumption) ?_
      rotate_left 1
      · (intro w hSw; (try dsimp only at hSw); go_simp; try with_reducible rfl)
      simp only [Act.put, pA, pB, pC, pD, pE, pF]
      refine wpAnyH_take (i := 2) (v := ?_) rfl (by kernel_rfl) (by kernel_rfl) (by kernel_rfl) (fun _ _ _ h => h) (Or.inl ⟨by rfl, ?_⟩) (by assumption) ?_
      rotate_left 1
      · (intro w hSw; (try dsimp only at hSw); go_simp; try with_reducible rfl)
      simp only [Act.put, pA, pB, pC, pD, pE, pF]
      refine wpAnyH_take (i := 3) (v := ?_) rfl (by kernel_rfl) (by kernel_rfl) (by kernel_rfl) (fun _ _ _ h => h) (Or.inl ⟨by rfl, ?_⟩) (by assumption) ?_
      rotate_left 1
      · (intro w hSw; (try dsimp only at hSw); go_simp; try with_reducible rfl)
      simp only [Act.put, pA, pB, pC, pD, pE, pF]
      refine wpAnyH_take (i := 4) (v := ?_) rfl (by kernel_rfl) (by kernel_rfl) (by kernel_rfl) (fun _ _ _ h => h) (Or.inl ⟨by rfl, ?_⟩) (by assumption) ?_
      rotate_left 1
      · (intro w hSw; (try dsimp only at hSw); go_simp; try with_reducible rfl)
      simp only [Act.put, pA, pB, pC, pD, pE, pF]
      refine wpAnyH_ready (rs := [5, 9]) (by kernel_rfl) (by simp) ?_
      refine AllReadyH.cons rfl (fun K hK => ?_) ?_
      · go_simp
        have zlo := Kt.size
        try (have RLc := RB.lt)
        refine (l25Make_any h' (runK d ss k).1 B5 m e s _ M.desk.sees GK.out hin hm HV.out).mono ?_
        rw [HMB.out]
        rintro x wz ⟨h2, rfl, M2, C5, b⟩
        replace x0 := (cell_only (S := fun _ => False) (Only.of_below b) (fun h => h) hbx).trans x0
        replace x1 := (cell_only (S := fun _ => False) (Only.of_below b) (fun h => h) hbx).trans x1
        replace x2 := (cell_only (S := fun _ => False) (Only.of_below b) (fun h => h) hbx).trans x2
        replace x3 := (cell_only (S := fun _ => False) (Only.of_below b) (fun h => h) hbx).trans x3
        replace x4 := (cell_only (S := fun _ => False) (Only.of_below b) (fun h => h) hbx).trans x4
        replace x5 := (cell_only (S := fun _ => False) (Only.of_below b) (fun h => h) hbx).trans x5
        replace hbx := Nat.lt_of_lt_of_le hbx b.size
        replace B := B.next b
        replace R := R.next b
        replace M := M.next b
        replace Kq := bel_then Kq b
        replace Kt := bel_then Kt b
        replace hin := hin.next b
        try (replace RB := RB.next b)
        have bc := B.cell
        try (have RBc := RB.cell)
        try (have RBf := RB.frozen)
        have zhi := b.size
        clear b
        go_wp2_with fail
        refine hK.out _ _ (by (try dsimp only); exact ⟨bc 0, bc 1, bc 2, bc 3, bc 4, x0, x1, x2, x3, x4, x5⟩) (fun hHeld => ?_)
        clear hK K
        refine wpAnyH_take (i := 6) (v := ?_) rfl (by kernel_rfl) (by kernel_rfl) (by kernel_rfl) (fun _ _ _ h => h) (Or.inl ⟨by rfl, ?_⟩) (by assumption) ?_
        rotate_left 1
        · (intro w hSw; (try dsimp only at hSw); go_simp; try with_reducible rfl)
        simp only [Act.put, pA, pB, pC, pD, pE, pF]
        refine wpAnyH_take (i := 7) (v := ?_) rfl (by kernel_rfl) (by kernel_rfl) (by kernel_rfl) (fun _ _ _ h => h) (Or.inl ⟨by rfl, ?_⟩) (by assumption) ?_
        rotate_left 1
        · (intro w hSw; (try dsimp only at hSw); go_simp; try with_reducible rfl)
        simp only [Act.put, pA, pB, pC, pD, pE, pF]
        refine wpAnyH_take (i := 8) (v := ?_) rfl (by kernel_rfl) (by kernel_rfl) (by kernel_rfl) (fun _ _ _ h => h) (Or.inl ⟨by rfl, ?_⟩) (by assumption) ?_
        rotate_left 1
        · (intro w hSw; (try dsimp only at hSw); go_simp; try with_reducible rfl)
        simp only [Act.put, pA, pB, pC, pD, pE, pF]
        refine wpAnyH_ready (rs := [9]) (by kernel_rfl) (by simp) ?_
        refine AllReadyH.cons rfl (fun K hK => ?_) AllReadyH.nil
        go_simp
        have zg := Kt.size
        have b : Below wz.heap.size wz (wz.alloc (.cells #[.slice none 0 0, .slice none 0 0, .slice none 0 0, .slice none 0 0, .slice none 0 0] 28)) := (Below.refl _ _).alloc (Nat.le_refl _) _
        try (replace M2 := M2.next b)
        replace x0 := (cell_only (S := fun _ => False) (Only.of_below b) (fun h => h) hbx).trans x0
        replace x1 := (cell_only (S := fun _ => False) (Only.of_below b) (fun h => h) hbx).trans x1
        replace x2 := (cell_only (S := fun _ => False) (Only.of_below b) (fun h => h) hbx).trans x2
        replace x3 := (cell_only (S := fun _ => False) (Only.of_below b) (fun h => h) hbx).trans x3
        replace x4 := (cell_only (S := fun _ => False) (Only.of_below b) (fun h => h) hbx).trans x4
        replace x5 := (cell_only (S := fun _ => False) (Only.of_below b) (fun h => h) hbx).trans x5
        replace hbx := Nat.lt_of_lt_of_le hbx b.size
        replace B := B.next b
        replace R := R.next b
        replace M := M.next b
        replace Kq := bel_then Kq b
        replace Kt := bel_then Kt b
        replace hin := hin.next b
        try (replace RB := RB.next b)
        have bc := B.cell
        try (have RBc := RB.cell)
        try (have RBf := RB.frozen)
        have RB : Blk (wz.alloc (.cells #[.slice none 0 0, .slice none 0 0, .slice none 0 0, .slice none 0 0, .slice none 0 0] 28)) wz.heap.size 28 [.slice none 0 0, .slice none 0 0, .slice none 0 0, .slice none 0 0, .slice none 0 0] := Blk.at_ rfl
        have RBc := RB.cell
        have RBf := RB.frozen
        have RL := RB.lt
        clear b
        generalize wz.heap.size = gR at *
        generalize wz.alloc (.cells #[.slice none 0 0, .slice none 0 0, .slice none 0 0, .slice none 0 0, .slice none 0 0] 28) = wz at *
        refine hK.out _ _ (by (try dsimp only); exact ⟨bc 0, bc 1, bc 2, bc 3, bc 4, x0, x1, x2, x3, x4, x5⟩) (fun hHeld => ?_)
        clear hK K
        try simp only [Act.put, pA, pB, pC, pD, pE, pF]
        refine wpAnyH_ready (rs := [10]) (by kernel_rfl) (by simp) ?_
        refine AllReadyH.cons rfl (fun K hK => ?_) AllReadyH.nil
        go_simp
        refine hK.out _ _ (by (try dsimp only); have E := ((((((Only.refl (fun b => b = gR) wz).setCell (p := ⟨gR, 0, none⟩) rfl (.slice h2.A0 h2.n0 h2.c0)).setCell (p := ⟨gR, 1, none⟩) rfl (.slice h2.A1 h2.n1 h2.c1)).setCell (p := ⟨gR, 2, none⟩) rfl (.slice h2.A2 h2.n2 h2.c2)).setCell (p := ⟨gR, 3, none⟩) rfl (.slice h2.A3 h2.n3 h2.c3)).setCell (p := ⟨gR, 4, none⟩) rfl (.slice h2.A4 h2.n4 h2.c4)); exact ⟨(B.only E (fun h => by omega)).cell 0, (B.only E (fun h => by omega)).cell 1, (B.only E (fun h => by omega)).cell 2, (B.only E (fun h => by omega)).cell 3, (B.only E (fun h => by omega)).cell 4, (cell_only E (fun (h : _ = _) => by omega) hbx).trans x0, (cell_only E (fun (h : _ = _) => by omega) hbx).trans x1, (cell_only E (fun (h : _ = _) => by omega) hbx).trans x2, (cell_only E (fun (h : _ = _) => by omega) hbx).trans x3, (cell_only E (fun (h : _ = _) => by omega) hbx).trans x4, (cell_only E (fun (h : _ = _) => by omega) hbx).trans x5⟩) (fun hHeld => ?_)
        clear hK K
        try simp only [Act.put, pA, pB, pC, pD, pE, pF]
        refine wpAnyH_take (i := 11) (v := ?_) rfl (by kernel_rfl) (by kernel_rfl) (by kernel_rfl) (fun _ _ _ h => h) (Or.inl ⟨by rfl, ?_⟩) (by assumption) ?_
        rotate_left 1
        · (intro w hSw; (try dsimp only at hSw); go_simp; try with_reducible rfl)
        simp only [Act.put, pA, pB, pC, pD, pE, pF]
        refine wpAnyH_done (by kernel_rfl) ?_ _
        have E1 := ((((((Only.refl (fun b => b = gR) wz).setCell (p := ⟨gR, 0, none⟩) rfl (.slice h2.A0 h2.n0 h2.c0)).setCell (p := ⟨gR, 1, none⟩) rfl (.slice h2.A1 h2.n1 h2.c1)).setCell (p := ⟨gR, 2, none⟩) rfl (.slice h2.A2 h2.n2 h2.c2)).setCell (p := ⟨gR, 3, none⟩) rfl (.slice h2.A3 h2.n3 h2.c3)).setCell (p := ⟨gR, 4, none⟩) rfl (.slice h2.A4 h2.n4 h2.c4))
        have zE1 := E1.size
        have zKt := Kt.size
        have hbg := B.lt
        have RLz := RB.lt
        have RBz : Blk (((((wz.setCell ⟨gR, 0, none⟩ (.slice h2.A0 h2.n0 h2.c0)).setCell ⟨gR, 1, none⟩ (.slice h2.A1 h2.n1 h2.c1)).setCell ⟨gR, 2, none⟩ (.slice h2.A2 h2.n2 h2.c2)).setCell ⟨gR, 3, none⟩ (.slice h2.A3 h2.n3 h2.c3)).setCell ⟨gR, 4, none⟩ (.slice h2.A4 h2.n4 h2.c4)) gR 28 [.slice h2.A0 h2.n0 h2.c0, .slice h2.A1 h2.n1 h2.c1, .slice h2.A2 h2.n2 h2.c2, .slice h2.A3 h2.n3 h2.c3, .slice h2.A4 h2.n4 h2.c4] := (((((RB.set_ 0 (.slice h2.A0 h2.n0 h2.c0)).set_ 1 (.slice h2.A1 h2.n1 h2.c1)).set_ 2 (.slice h2.A2 h2.n2 h2.c2)).set_ 3 (.slice h2.A3 h2.n3 h2.c3)).set_ 4 (.slice h2.A4 h2.n4 h2.c4))
        replace M2 := M2.only E1 (fun b h1 (h2 : b = gR) => by have := h1.1; have := h1.2; omega)
        replace B := B.only E1 (fun h => by omega)
        replace R := R.only E1 (fun h => by omega)
        replace M := M.only E1 (fun b h1 (h2 : b = gR) => by have := h1.2.2; omega)
        replace Kq := Kq.trans (E1.below (fun b hb => by omega) Kq.size)
        clear E1 bc bc0 x0 x1 x2 x3 x4 x5 RBc RBf RB hin
        generalize (((((wz.setCell ⟨gR, 0, none⟩ (.slice h2.A0 h2.n0 h2.c0)).setCell ⟨gR, 1, none⟩ (.slice h2.A1 h2.n1 h2.c1)).setCell ⟨gR, 2, none⟩ (.slice h2.A2 h2.n2 h2.c2)).setCell ⟨gR, 3, none⟩ (.slice h2.A3 h2.n3 h2.c3)).setCell ⟨gR, 4, none⟩ (.slice h2.A4 h2.n4 h2.c4)) = wy at *
        have bn := B.cell
        have bf := B.frozen
        have hgn := B.lt
        have rz := RBz.cell
        have zRz := RBz.lt
        cases hb : stepB (runK d ss k).1 s
        · have HE := Lib.hid (show runK d ss (k + 1) = runK d ss k by rw [HN.out]; unfold stepAcc; rw [hb]; rfl)
          have HB := Lib.hid hb
          clear hb
          go_wp2_with fail
          go_roundw
          case rel => exact ⟨h', k + 1, cn, by omega, by go_num, rfl, by omega, Lib.hid (by rw [HE.out]; exact HC.out), B, by rw [HE.out]; exact M.wide (fun b hb => ⟨hb.1, hb.2.1, by have := hb.2.2; omega⟩), R, Kq⟩
          case measure => simp [intOf]; omega
        have HE := Lib.hid (show runK d ss (k + 1) = (stepOut (runK d ss k).1 s, (runK d ss k).2 + 1) by rw [HN.out]; unfold stepAcc; rw [hb]; rfl)
        have HO := Lib.hid (HS2.out hb)
        have HB := Lib.hid hb
        clear hb
        have E := ((((((Only.refl (fun b => b = g5) wy).setCell (p := ⟨g5, 0, none⟩) rfl (.slice h2.A0 h2.n0 h2.c0)).setCell (p := ⟨g5, 1, none⟩) rfl (.slice h2.A1 h2.n1 h2.c1)).setCell (p := ⟨g5, 2, none⟩) rfl (.slice h2.A2 h2.n2 h2.c2)).setCell (p := ⟨g5, 3, none⟩) rfl (.slice h2.A3 h2.n3 h2.c3)).setCell (p := ⟨g5, 4, none⟩) rfl (.slice h2.A4 h2.n4 h2.c4))
        have zE := E.size
        have Bz : Blk (((((wy.setCell ⟨g5, 0, none⟩ (.slice h2.A0 h2.n0 h2.c0)).setCell ⟨g5, 1, none⟩ (.slice h2.A1 h2.n1 h2.c1)).setCell ⟨g5, 2, none⟩ (.slice h2.A2 h2.n2 h2.c2)).setCell ⟨g5, 3, none⟩ (.slice h2.A3 h2.n3 h2.c3)).setCell ⟨g5, 4, none⟩ (.slice h2.A4 h2.n4 h2.c4)) g5 28 [.slice h2.A0 h2.n0 h2.c0, .slice h2.A1 h2.n1 h2.c1, .slice h2.A2 h2.n2 h2.c2, .slice h2.A3 h2.n3 h2.c3, .slice h2.A4 h2.n4 h2.c4] := (((((B.set_ 0 (.slice h2.A0 h2.n0 h2.c0)).set_ 1 (.slice h2.A1 h2.n1 h2.c1)).set_ 2 (.slice h2.A2 h2.n2 h2.c2)).set_ 3 (.slice h2.A3 h2.n3 h2.c3)).set_ 4 (.slice h2.A4 h2.n4 h2.c4))
        have Mz := M2.only E (fun b h1 (h2 : b = g5) => by have := h1.1; omega)
        have Rz := R.only E (fun h => by omega)
        have Kz := Kq.trans (E.below (fun b hb => by omega) Kq.size)
        have hc1 : (cn : Int) + 1 ≤ 1000000000 := by omega
        go_wp2_with fail
        go_roundw
        case rel => exact ⟨h2, k + 1, cn + 1, by omega, by go_num, by go_num, by omega, Lib.hid (by rw [HE.out, HC.out]), Bz, by rw [HE.out, HO.out]; exact Mz.wide (fun b hb => ⟨by have := hb.1; omega, by have := hb.1; omega, by have := hb.2; omega⟩), Rz, Kz⟩
        case measure => simp [intOf]; omega
      refine AllReadyH.cons rfl (fun K hK => ?_) AllReadyH.nil
      · go_simp
        have zg := Kt.size
        have b : Below wz.heap.size wz (wz.alloc (.cells #[.slice none 0 0, .slice none 0 0, .slice none 0 0, .slice none 0 0, .slice none 0 0] 28)) := (Below.refl _ _).alloc (Nat.le_refl _) _
        try (replace M2 := M2.next b)
        replace x0 := (cell_only (S := fun _ => False) (Only.of_below b) (fun h => h) hbx).trans x0
        replace x1 := (cell_only (S := fun _ => False) (Only.of_below b) (fun h => h) hbx).trans x1
        replace x2 := (cell_only (S := fun _ => False) (Only.of_below b) (fun h => h) hbx).trans x2
        replace x3 := (cell_only (S := fun _ => False) (Only.of_below b) (fun h => h) hbx).trans x3
        replace x4 := (cell_only (S := fun _ => False) (Only.of_below b) (fun h => h) hbx).trans x4
        replace x5 := (cell_only (S := fun _ => False) (Only.of_below b) (fun h => h) hbx).trans x5
        replace hbx := Nat.lt_of_lt_of_le hbx b.size
        replace B := B.next b
        replace R := R.next b
        replace M := M.next b
        replace Kq := bel_then Kq b
        replace Kt := bel_then Kt b
        replace hin := hin.next b
        try (replace RB := RB.next b)
        have bc := B.cell
        try (have RBc := RB.cell)
        try (have RBf := RB.frozen)
        have RB : Blk (wz.alloc (.cells #[.slice none 0 0, .slice none 0 0, .slice none 0 0, .slice none 0 0, .slice none 0 0] 28)) wz.heap.size 28 [.slice none 0 0, .slice none 0 0, .slice none 0 0, .slice none 0 0, .slice none 0 0] := Blk.at_ rfl
        have RBc := RB.cell
        have RBf := RB.frozen
        have RL := RB.lt
        clear b
        generalize wz.heap.size = gR at *
        generalize wz.alloc (.cells #[.slice none 0 0, .slice none 0 0, .slice none 0 0, .slice none 0 0, .slice none 0 0] 28) = wz at *
        refine hK.out _ _ (by (try dsimp only); exact ⟨bc 0, bc 1, bc 2, bc 3, bc 4, x0, x1, x2, x3, x4, x5⟩) (fun hHeld => ?_)
        clear hK K
        try simp only [Act.put, pA, pB, pC, pD, pE, pF]
        refine wpAnyH_ready (rs := [5]) (by kernel_rfl) (by simp) ?_
        refine AllReadyH.cons rfl (fun K hK => ?_) AllReadyH.nil
        go_simp
        have zlo := Kt.size
        try (have RLc := RB.lt)
        refine (l25Make_any h' (runK d ss k).1 B5 m e s _ M.desk.sees GK.out hin hm HV.out).mono ?_
        rw [HMB.out]
        rintro x wz ⟨h2, rfl, M2, C5, b⟩
        replace x0 := (cell_only (S := fun _ => False) (Only.of_below b) (fun h => h) hbx).trans x0
        replace x1 := (cell_only (S := fun _ => False) (Only.of_below b) (fun h => h) hbx).trans x1
        replace x2 := (cell_only (S := fun _ => False) (Only.of_below b) (fun h => h) hbx).trans x2
        replace x3 := (cell_only (S := fun _ => False) (Only.of_below b) (fun h => h) hbx).trans x3
        replace x4 := (cell_only (S := fun _ => False) (Only.of_below b) (fun h => h) hbx).trans x4
        replace x5 := (cell_only (S := fun _ => False) (Only.of_below b) (fun h => h) hbx).trans x5
        replace hbx := Nat.lt_of_lt_of_le hbx b.size
        replace B := B.next b
        replace R := R.next b
        replace M := M.next b
        replace Kq := bel_then Kq b
        replace Kt := bel_then Kt b
        replace hin := hin.next b
        try (replace RB := RB.next b)
        have bc := B.cell
        try (have RBc := RB.cell)
        try (have RBf := RB.frozen)
        have zhi := b.size
        clear b
        go_wp2_with fail
        refine hK.out _ _ (by (try dsimp only); exact ⟨bc 0, bc 1, bc 2, bc 3, bc 4, x0, x1, x2, x3, x4, x5⟩) (fun hHeld => ?_)
        clear hK K
        refine wpAnyH_take (i := 6) (v := ?_) rfl (by kernel_rfl) (by kernel_rfl) (by kernel_rfl) (fun _ _ _ h => h) (Or.inl ⟨by rfl, ?_⟩) (by assumption) ?_
        rotate_left 1
        · (intro w hSw; (try dsimp only at hSw); go_simp; try with_reducible rfl)
        simp only [Act.put, pA, pB, pC, pD, pE, pF]
        refine wpAnyH_take (i := 7) (v := ?_) rfl (by kernel_rfl) (by kernel_rfl) (by kernel_rfl) (fun _ _ _ h => h) (Or.inl ⟨by rfl, ?_⟩) (by assumption) ?_
        rotate_left 1
        · (intro w hSw; (try dsimp only at hSw); go_simp; try with_reducible rfl)
        simp only [Act.put, pA, pB, pC, pD, pE, pF]
        refine wpAnyH_take (i := 8) (v := ?_) rfl (by kernel_rfl) (by kernel_rfl) (by kernel_rfl) (fun _ _ _ h => h) (Or.inl ⟨by rfl, ?_⟩) (by assumption) ?_
        rotate_left 1
        · (intro w hSw; (try dsimp only at hSw); go_simp; try with_reducible rfl)
        simp only [Act.put, pA, pB, pC, pD, pE, pF]
        refine wpAnyH_ready (rs := [10]) (by kernel_rfl) (by simp) ?_
        refine AllReadyH.cons rfl (fun K hK => ?_) AllReadyH.nil
        go_simp
        refine hK.out _ _ (by (try dsimp only); have E := ((((((Only.refl (fun b => b = gR) wz).setCell (p := ⟨gR, 0, none⟩) rfl (.slice h2.A0 h2.n0 h2.c0)).setCell (p := ⟨gR, 1, none⟩) rfl (.slice h2.A1 h2.n1 h2.c1)).setCell (p := ⟨gR, 2, none⟩) rfl (.slice h2.A2 h2.n2 h2.c2)).setCell (p := ⟨gR, 3, none⟩) rfl (.slice h2.A3 h2.n3 h2.c3)).setCell (p := ⟨gR, 4, none⟩) rfl (.slice h2.A4 h2.n4 h2.c4)); exact ⟨(B.only E (fun h => by omega)).cell 0, (B.only E (fun h => by omega)).cell 1, (B.only E (fun h => by omega)).cell 2, (B.only E (fun h => by omega)).cell 3, (B.only E (fun h => by omega)).cell 4, (cell_only E (fun (h : _ = _) => by omega) hbx).trans x0, (cell_only E (fun (h : _ = _) => by omega) hbx).trans x1, (cell_only E (fun (h : _ = _) => by omega) hbx).trans x2, (cell_only E (fun (h : _ = _) => by omega) hbx).trans x3, (cell_only E (fun (h : _ = _) => by omega) hbx).trans x4, (cell_only E (fun (h : _ = _) => by omega) hbx).trans x5⟩) (fun hHeld => ?_)
        clear hK K
        try simp only [Act.put, pA, pB, pC, pD, pE, pF]
        refine wpAnyH_take (i := 11) (v := ?_) rfl (by kernel_rfl) (by kernel_rfl) (by kernel_rfl) (fun _ _ _ h => h) (Or.inl ⟨by rfl, ?_⟩) (by assumption) ?_
        rotate_left 1
        · (intro w hSw; (try dsimp only at hSw); go_simp; try with_reducible rfl)
        simp only [Act.put, pA, pB, pC, pD, pE, pF]
        refine wpAnyH_done (by kernel_rfl) ?_ _
        have E1 := ((((((Only.refl (fun b => b = gR) wz).setCell (p := ⟨gR, 0, none⟩) rfl (.slice h2.A0 h2.n0 h2.c0)).setCell (p := ⟨gR, 1, none⟩) rfl (.slice h2.A1 h2.n1 h2.c1)).setCell (p := ⟨gR, 2, none⟩) rfl (.slice h2.A2 h2.n2 h2.c2)).setCell (p := ⟨gR, 3, none⟩) rfl (.slice h2.A3 h2.n3 h2.c3)).setCell (p := ⟨gR, 4, none⟩) rfl (.slice h2.A4 h2.n4 h2.c4))
        have zE1 := E1.size
        have zKt := Kt.size
        have hbg := B.lt
        have RLz := RB.lt
        have RBz : Blk (((((wz.setCell ⟨gR, 0, none⟩ (.slice h2.A0 h2.n0 h2.c0)).setCell ⟨gR, 1, none⟩ (.slice h2.A1 h2.n1 h2.c1)).setCell ⟨gR, 2, none⟩ (.slice h2.A2 h2.n2 h2.c2)).setCell ⟨gR, 3, none⟩ (.slice h2.A3 h2.n3 h2.c3)).setCell ⟨gR, 4, none⟩ (.slice h2.A4 h2.n4 h2.c4)) gR 28 [.slice h2.A0 h2.n0 h2.c0, .slice h2.A1 h2.n1 h2.c1, .slice h2.A2 h2.n2 h2.c2, .slice h2.A3 h2.n3 h2.c3, .slice h2.A4 h2.n4 h2.c4] := (((((RB.set_ 0 (.slice h2.A0 h2.n0 h2.c0)).set_ 1 (.slice h2.A1 h2.n1 h2.c1)).set_ 2 (.slice h2.A2 h2.n2 h2.c2)).set_ 3 (.slice h2.A3 h2.n3 h2.c3)).set_ 4 (.slice h2.A4 h2.n4 h2.c4))
        replace M2 := M2.only E1 (fun b h1 (h2 : b = gR) => by have := h1.1; have := h1.2; omega)
        replace B := B.only E1 (fun h => by omega)
        replace R := R.only E1 (fun h => by omega)
        replace M := M.only E1 (fun b h1 (h2 : b = gR) => by have := h1.2.2; omega)
        replace Kq := Kq.trans (E1.below (fun b hb => by omega) Kq.size)
        clear E1 bc bc0 x0 x1 x2 x3 x4 x5 RBc RBf RB hin
        generalize (((((wz.setCell ⟨gR, 0, none⟩ (.slice h2.A0 h2.n0 h2.c0)).setCell ⟨gR, 1, none⟩ (.slice h2.A1 h2.n1 h2.c1)).setCell ⟨gR, 2, none⟩ (.slice h2.A2 h2.n2 h2.c2)).setCell ⟨gR, 3, none⟩ (.slice h2.A3 h2.n3 h2.c3)).setCell ⟨gR, 4, none⟩ (.slice h2.A4 h2.n4 h2.c4)) = wy at *
        have bn := B.cell
        have bf := B.frozen
        have hgn := B.lt
        have rz := RBz.cell
        have zRz := RBz.lt
        cases hb : stepB (runK d ss k).1 s
        · have HE := Lib.hid (show runK d ss (k + 1) = runK d ss k by rw [HN.out]; unfold stepAcc; rw [hb]; rfl)
          have HB := Lib.hid hb
          clear hb
          go_wp2_with fail
          go_roundw
          case rel => exact ⟨h', k + 1, cn, by omega, by go_num, rfl, by omega, Lib.hid (by rw [HE.out]; exact HC.out), B, by rw [HE.out]; exact M.wide (fun b hb => ⟨hb.1, hb.2.1, by have := hb.2.2; omega⟩), R, Kq⟩
          case measure => simp [intOf]; omega
        have HE := Lib.hid (show runK d ss (k + 1) = (stepOut (runK d ss k).1 s, (runK d ss k).2 + 1) by rw [HN.out]; unfold stepAcc; rw [hb]; rfl)
        have HO := Lib.hid (HS2.out hb)
        have HB := Lib.hid hb
        clear hb
        have E := ((((((Only.refl (fun b => b = g5) wy).setCell (p := ⟨g5, 0, none⟩) rfl (.slice h2.A0 h2.n0 h2.c0)).setCell (p := ⟨g5, 1, none⟩) rfl (.slice h2.A1 h2.n1 h2.c1)).setCell (p := ⟨g5, 2, none⟩) rfl (.slice h2.A2 h2.n2 h2.c2)).setCell (p := ⟨g5, 3, none⟩) rfl (.slice h2.A3 h2.n3 h2.c3)).setCell (p := ⟨g5, 4, none⟩) rfl (.slice h2.A4 h2.n4 h2.c4))
        have zE := E.size
        have Bz : Blk (((((wy.setCell ⟨g5, 0, none⟩ (.slice h2.A0 h2.n0 h2.c0)).setCell ⟨g5, 1, none⟩ (.slice h2.A1 h2.n1 h2.c1)).setCell ⟨g5, 2, none⟩ (.slice h2.A2 h2.n2 h2.c2)).setCell ⟨g5, 3, none⟩ (.slice h2.A3 h2.n3 h2.c3)).setCell ⟨g5, 4, none⟩ (.slice h2.A4 h2.n4 h2.c4)) g5 28 [.slice h2.A0 h2.n0 h2.c0, .slice h2.A1 h2.n1 h2.c1, .slice h2.A2 h2.n2 h2.c2, .slice h2.A3 h2.n3 h2.c3, .slice h2.A4 h2.n4 h2.c4] := (((((B.set_ 0 (.slice h2.A0 h2.n0 h2.c0)).set_ 1 (.slice h2.A1 h2.n1 h2.c1)).set_ 2 (.slice h2.A2 h2.n2 h2.c2)).set_ 3 (.slice h2.A3 h2.n3 h2.c3)).set_ 4 (.slice h2.A4 h2.n4 h2.c4))
        have Mz := M2.only E (fun b h1 (h2 : b = g5) => by have := h1.1; omega)
        have Rz := R.only E (fun h => by omega)
        have Kz := Kq.trans (E.below (fun b hb => by omega) Kq.size)
        have hc1 : (cn : Int) + 1 ≤ 1000000000 := by omega
        go_wp2_with fail
        go_roundw
        case rel => exact ⟨h2, k + 1, cn + 1, by omega, by go_num, by go_num, by omega, Lib.hid (by rw [HE.out, HC.out]), Bz, by rw [HE.out, HO.out]; exact Mz.wide (fun b hb => ⟨by have := hb.1; omega, by have := hb.1; omega, by have := hb.2; omega⟩), Rz, Kz⟩
        case measure => simp [intOf]; omega
    · obtain rfl : k = n := by omega
      have rc := R.cell
      have rf := R.frozen
      have hnp : ¬ (k : Int) < (k : Int) := by omega
      have HM := Lib.hid (show runP d ss = (some (runK d ss k).1, (cn : Int)) by rw [HR.out, HL.out, HC.out])
      clear hx hi
      go_wp2_with fail
      refine bodyPost_ret (v := .tuple #[.agg #[.slice h'.A0 h'.n0 h'.c0, .slice h'.A1 h'.n1 h'.c1, .slice h'.A2 h'.n2 h'.c2, .slice h'.A3 h'.n3 h'.c3, .slice h'.A4 h'.n4 h'.c4], .int .i64 (cn : Int), .bool true]) (by simp [results, Tryz.results14, go_sem, rc]) rfl ?_
      rw [HM.out]
      have E := ((((((Only.refl (fun b => b = w.heap.size + 1) wr).setCell (p := ⟨w.heap.size + 1, 0, none⟩) rfl (.slice h'.A0 h'.n0 h'.c0)).setCell (p := ⟨w.heap.size + 1, 1, none⟩) rfl (.slice h'.A1 h'.n1 h'.c1)).setCell (p := ⟨w.heap.size + 1, 2, none⟩) rfl (.slice h'.A2 h'.n2 h'.c2)).setCell (p := ⟨w.heap.size + 1, 3, none⟩) rfl (.slice h'.A3 h'.n3 h'.c3)).setCell (p := ⟨w.heap.size + 1, 4, none⟩) rfl (.slice h'.A4 h'.n4 h'.c4))
      have zF := E.size
      have M4 := M.only E (fun b h1 h2 => by have := h1.2.1; omega)
      exact ⟨h', rfl, (M4.wide (fun b hb => by have := hb.2.1; have := hb.2.2; exact ⟨by omega, by omega⟩)).desk, (deskB_small (runK_good G.out _)).fit M.desk.sees (by decide) (by decide), M.cap3, Kq.trans (E.below (fun k hk => by omega) Kq.size)⟩

end Go.Proofs.YtkimlajfhepfgaaGreat

namespace Go.Proofs.YtkimlajfhepfgaaGreat
open Go.RowKit

/-- All that a desk has. -/
def sumD (d : DeskV) : Nat := d.queue.length + d.done.length + d.trouble.length
theorem step_sum {d : DeskV} {s : DeskStep} (h : stepB d s = true) : (s.kind = 1 → sumD (stepOut d s) = sumD d + 1) ∧ (s.kind = 4 → sumD (stepOut d s) < sumD d) ∧ (s.kind ≠ 1 → s.kind ≠ 4 → sumD (stepOut d s) = sumD d) := by
  unfold stepB at h
  simp only [Bool.and_eq_true] at h
  have hok := h.1
  have hp := parts_len d.trouble s.number
  refine ⟨fun k1 => ?_, fun k4 => ?_, fun k1 k4 => ?_⟩
  · unfold stepOut sumD
    rw [if_pos k1]
    simp only [List.length_append, List.length_singleton]
    omega
  · unfold stepOk at hok
    rw [if_neg (by omega), if_neg (by omega), if_neg (by omega), if_pos k4] at hok
    simp only [Bool.and_eq_true, decide_eq_true_eq] at hok
    unfold stepOut sumD
    rw [if_neg (by omega), if_neg (by omega), if_neg (by omega), if_pos k4, if_pos hok.1]
    simp only []
    omega
  · unfold stepOut sumD
    rw [if_neg k1]
    split
    · split
      · exact checkD_total d
      · rfl
    split
    · simp only [List.length_append]
      omega
    · rfl
/-- Rows have different numbers. -/
theorem done_apart {d : DeskV} (h : deskB d = true) {k i : Nat} (hki : k < i) (hi : i < d.done.length) : d.done[k].number ≠ d.done[i].number := by
  unfold deskB at h
  simp only [Bool.and_eq_true] at h
  have h1 := allTo_at h.2 hi
  rw [rowAt_at hi] at h1
  unfold rowB at h1
  simp only [Bool.and_eq_true] at h1
  have h2 := h1.1.1.2
  intro e
  have h3 : doneB (d.done.take i) d.done[i].number = true := by
    unfold doneB
    rw [List.any_eq_true]
    exact ⟨d.done[k], List.mem_take_iff_getElem.2 ⟨k, by omega, rfl⟩, by simp [isNo, e]⟩
  rw [h3] at h2
  exact absurd h2 (by decide)
/-- Who is waited for. -/
def waitL (d : DeskV) : List Int := d.known.filter fun v => !doneB d.done v
/-- A number that is done is no longer waited for. -/
theorem done_not_waited {d : DeskV} {r : DeskRow} (hr : r ∈ d.done) : r.number ∉ waitL d := fun hm => by
  have h1 := (List.mem_filter.1 hm).2
  have h2 : doneB d.done r.number = true := by
    unfold doneB
    rw [List.any_eq_true]
    exact ⟨r, hr, by simp [isNo]⟩
  rw [h2] at h1
  exact absurd h1 (by decide)
/-- A card in trouble can be refused. -/
theorem refuse_ok {d : DeskV} {s : DeskStep} (h : deskB d = true) (hk : s.kind = 4) (hz : zeroB s.card = true) (hm : 0 < (withL d.trouble s.number).length) : stepB d s = true := by
  unfold stepB stepOk stepOut
  rw [if_neg (by omega), if_neg (by omega), if_neg (by omega), if_pos hk, if_neg (by omega), if_neg (by omega), if_neg (by omega), if_pos hk, if_pos hz, hz]
  have hp := parts_len d.trouble s.number
  simp only [Bool.and_eq_true, decide_eq_true_eq]
  refine ⟨⟨trivial, hm⟩, ?_⟩
  unfold deskB topB at h ⊢
  simp only [Bool.and_eq_true, decide_eq_true_eq, List.all_eq_true] at h ⊢
  exact ⟨⟨⟨⟨h.1.1.1.1, h.1.1.1.2⟩, fun c hc => h.1.1.2 c (List.mem_filter.1 hc).1⟩, by have := h.1.2; omega⟩, h.2⟩

end Go.Proofs.YtkimlajfhepfgaaGreat

namespace Go.Proofs.YtkimlajfhepfgaaGreat
open Go.RowKit

theorem vInts_any (A A' : Option Addr) (n n' c c' lo lo' : Nat) (xs ys : List Int) (w : World) (hx : Sees w lo 1 A n (ints xs)) (hy : Sees w lo' 1 A' n' (ints ys)) (he : xs = ys) (hn : n ≤ 140737488355328) :
    Calls Tryz.prog 26 #[.slice A n c, .slice A' n' c'] w fun e w' => e = .returned (.bool true) ∧ Quiet w w' := by
  subst he
  have hl := hx.icount
  have hl' := hy.icount
  obtain rfl : n = n' := by omega
  go_enter Tryz.func26, Tryz.ntmps26
  go_wp2
  go_loopw [5] (fun v wr => ∃ k : Nat, k ≤ n ∧ v = .int .i64 k ∧ Quiet w wr) (fun v _ => n - (intOf v).toNat)
  case atStart => exact ⟨0, Nat.zero_le _, rfl, Quiet.refl _⟩
  case round =>
    obtain ⟨k, hk, rfl, hq⟩ := hrel
    by_cases hlt : k < n
    · obtain ⟨b, off, rfl, hkx, hcx⟩ := (hx.quiet hq).int hlt
      obtain ⟨b', off', rfl, hky, hcy⟩ := (hy.quiet hq).int hlt
      go_wp2
      go_quiet (fail)
      go_wp2
      go_roundw
      case rel => exact ⟨k + 1, by omega, by go_num, hq.more _⟩
      case measure => simp [intOf]; omega
    · go_wp2
      go_ret
      exact ⟨rfl, hq⟩
theorem vPunches_any (A A' : Option Addr) (n n' c c' lo lo' : Nat) (xs ys : List Punch) (w : World) (hx : Sees w lo 2 A n (xs.flatMap Punch.enc)) (hy : Sees w lo' 2 A' n' (ys.flatMap Punch.enc)) (he : xs = ys) (hn : n ≤ 140737488355328) :
    Calls Tryz.prog 107 #[.slice A n c, .slice A' n' c'] w fun e w' => e = .returned (.bool true) ∧ Quiet w w' := by
  subst he
  have hl := hx.count (by decide) (fun _ => rfl)
  have hl' := hy.count (by decide) (fun _ => rfl)
  obtain rfl : n = n' := by omega
  go_enter Tryz.func107, Tryz.ntmps107
  go_wp2
  go_loopw [5] (fun v wr => ∃ k : Nat, k ≤ n ∧ v = .int .i64 k ∧ Quiet w wr) (fun v _ => n - (intOf v).toNat)
  case atStart => exact ⟨0, Nat.zero_le _, rfl, Quiet.refl _⟩
  case round =>
    obtain ⟨k, hk, rfl, hq⟩ := hrel
    by_cases hlt : k < n
    · obtain ⟨b, off, rfl, hkx, hcx⟩ := (hx.quiet hq).elem (by decide) (fun _ => rfl) hlt
      obtain ⟨b', off', rfl, hky, hcy⟩ := (hy.quiet hq).elem (by decide) (fun _ => rfl) hlt
      have x0 : wr.cell? ⟨b, off + k * 2, none⟩ = some (.int .i64 xs[k].code) := hcx 0 _ rfl
      have y0 : wr.cell? ⟨b', off' + k * 2, none⟩ = some (.int .i64 xs[k].code) := hcy 0 _ rfl
      have x1 : wr.cell? ⟨b, off + k * 2 + 1, none⟩ = some (.int .i64 xs[k].time) := hcx 1 _ rfl
      have y1 : wr.cell? ⟨b', off' + k * 2 + 1, none⟩ = some (.int .i64 xs[k].time) := hcy 1 _ rfl
      clear hcx hcy
      go_wp2
      go_quiet (fail)
      go_wp2
      go_roundw
      case rel => exact ⟨k + 1, by omega, by go_num, hq.more _⟩
      case measure => simp [intOf]; omega
    · go_wp2
      go_ret
      exact ⟨rfl, hq⟩
theorem vRows_any (A A' : Option Addr) (n n' c c' lo lo' : Nat) (xs ys : List DeskRow) (w : World) (hx : Sees w lo 3 A n (xs.flatMap DeskRow.enc)) (hy : Sees w lo' 3 A' n' (ys.flatMap DeskRow.enc)) (he : xs = ys) (hn : n ≤ 140737488355328) :
    Calls Tryz.prog 39 #[.slice A n c, .slice A' n' c'] w fun e w' => e = .returned (.bool true) ∧ Quiet w w' := by
  subst he
  have hl := hx.count (by decide) (fun _ => rfl)
  have hl' := hy.count (by decide) (fun _ => rfl)
  obtain rfl : n = n' := by omega
  go_enter Tryz.func39, Tryz.ntmps39
  go_wp2
  go_loopw [5] (fun v wr => ∃ k : Nat, k ≤ n ∧ v = .int .i64 k ∧ Quiet w wr) (fun v _ => n - (intOf v).toNat)
  case atStart => exact ⟨0, Nat.zero_le _, rfl, Quiet.refl _⟩
  case round =>
    obtain ⟨k, hk, rfl, hq⟩ := hrel
    by_cases hlt : k < n
    · obtain ⟨b, off, rfl, hkx, hcx⟩ := (hx.quiet hq).elem (by decide) (fun _ => rfl) hlt
      obtain ⟨b', off', rfl, hky, hcy⟩ := (hy.quiet hq).elem (by decide) (fun _ => rfl) hlt
      have x0 : wr.cell? ⟨b, off + k * 3, none⟩ = some (.int .i64 xs[k].number) := hcx 0 _ rfl
      have y0 : wr.cell? ⟨b', off' + k * 3, none⟩ = some (.int .i64 xs[k].number) := hcy 0 _ rfl
      have x1 : wr.cell? ⟨b, off + k * 3 + 1, none⟩ = some (.int .i64 xs[k].missing) := hcx 1 _ rfl
      have y1 : wr.cell? ⟨b', off' + k * 3 + 1, none⟩ = some (.int .i64 xs[k].missing) := hcy 1 _ rfl
      have x2 : wr.cell? ⟨b, off + k * 3 + 2, none⟩ = some (.int .i64 xs[k].time) := hcx 2 _ rfl
      have y2 : wr.cell? ⟨b', off' + k * 3 + 2, none⟩ = some (.int .i64 xs[k].time) := hcy 2 _ rfl
      clear hcx hcy
      go_wp2
      go_quiet (fail)
      go_wp2
      go_roundw
      case rel => exact ⟨k + 1, by omega, by go_num, hq.more _⟩
      case measure => simp [intOf]; omega
    · go_wp2
      go_ret
      exact ⟨rfl, hq⟩
theorem vCard_any (A B : Option Addr) (n n' c c' lo lo' : Nat) (x y : Card) (w : World) (hx : Sees w lo 2 A n (x.punches.flatMap Punch.enc)) (hy : Sees w lo' 2 B n' (y.punches.flatMap Punch.enc)) (he : x = y) (hn : n ≤ 1048576) :
    Calls Tryz.prog 84 #[.agg #[(.int .i64 x.number), (.int .i64 x.start), (.int .i64 x.finish), (.slice A n c)], .agg #[(.int .i64 y.number), (.int .i64 y.start), (.int .i64 y.finish), (.slice B n' c')]] w fun e w' => e = .returned (.bool true) ∧ Below w.heap.size w w' := by
  subst he
  have K0 : Below w.heap.size w ((w.alloc (.cells #[.int .i64 x.number, .int .i64 x.start, .int .i64 x.finish, .slice A n c] 31)).alloc (.cells #[.int .i64 x.number, .int .i64 x.start, .int .i64 x.finish, .slice B n' c'] 31)) := ((Below.refl _ _).alloc (Nat.le_refl _) _).alloc (by simp) _
  have hx0 := hx.next K0
  have hy0 := hy.next K0
  go_enter Tryz.func84, Tryz.ntmps84
  go_wp2_with (go_at_call 107; refine (vPunches_any _ _ _ _ _ _ _ _ x.punches x.punches _ hx0 hy0 rfl (by omega)).mono ?_; rintro e w1 ⟨rfl, q1⟩; have K1 := bel_quiet K0 q1)
  go_ret
  exact ⟨rfl, K1⟩
set_option maxRecDepth 100000 in
theorem vCards_any (A A' : Option Addr) (n n' c c' lo lo' : Nat) (xs ys : List Card) (w : World) (hx : SeesN cardSh w lo A n xs) (hy : SeesN cardSh w lo' A' n' ys) (he : xs = ys) (hn : n ≤ 140737488355328) (hi : ∀ x ∈ xs, x.cnt ≤ 1048576) :
    Calls Tryz.prog 38 #[.slice A n c, .slice A' n' c'] w fun e w' => e = .returned (.bool true) ∧ Below w.heap.size w w' := by
  subst he
  have hl := hx.count
  have hl' := hy.count
  obtain rfl : n = n' := by omega
  go_enter Tryz.func38, Tryz.ntmps38
  go_wp2_with fail
  go_loopw [5] (fun v wr => ∃ k : Nat, k ≤ n ∧ v = .int .i64 k ∧ Below w.heap.size w wr) (fun v _ => n - (intOf v).toNat)
  case atStart => exact ⟨0, Nat.zero_le _, rfl, Below.refl _ _⟩
  case round =>
    obtain ⟨k, hk, rfl, hb⟩ := hrel
    by_cases hlt : k < n
    · obtain ⟨b, off, B0, m, cc0, rfl, hkx, c0, c1, c2, c3, hxi⟩ := SeesCard.elem (hx.next hb) hlt
      obtain ⟨b', off', B0', m', cc1, rfl, hky, d0, d1, d2, d3, hyi⟩ := SeesCard.elem (hy.next hb) hlt
      have hm : m ≤ 1048576 := by
        have h1 := hi xs[k] (List.getElem_mem hkx)
        have h2 := hxi.count (by decide) (fun _ => rfl)
        unfold Card.cnt at h1
        omega
      have hb' := bel_quiet hb (Quiet.one wr)
      replace hxi := hxi.quiet (Quiet.one wr)
      replace hyi := hyi.quiet (Quiet.one wr)
      go_wp2_with fail
      refine wp_region_still_tail 8 (by kernel_rfl) (by kernel_rfl) ?_
      simp only [List.take_succ_cons, List.take_zero, List.drop_succ_cons, List.drop_zero]
      change wpStill _ _ wr.drew _ _ _
      repeat still_step
      refine wpStill_nil ?_
      change wpList _ _ _ _ _ wr.drew
      generalize wr.drew = w2 at *
      go_wp2_with fail
      refine (vCard_any _ _ _ _ cc0 cc1 _ _ xs[k] xs[k] _ hxi hyi rfl hm).mono ?_
      rintro e w1 ⟨rfl, hb1⟩
      go_wp2_with fail
      go_roundw
      case rel => exact ⟨k + 1, by omega, by go_num, bel_then hb' hb1⟩
      case measure => simp [intOf]; omega
    · go_wp2_with fail
      go_ret
      exact ⟨rfl, hb⟩

set_option maxRecDepth 100000 in
set_option maxHeartbeats 4000000 in
theorem vDesk_any (h h' : DeskH) (d : DeskV) (lo lo' : Nat) (w : World) (ha : SeesDesk w lo h d) (hb : SeesDesk w lo' h' d) (hf : DeskFit 1048576 h d) :
    Calls Tryz.prog 9 #[.agg #[.slice h.A0 h.n0 h.c0, .slice h.A1 h.n1 h.c1, .slice h.A2 h.n2 h.c2, .slice h.A3 h.n3 h.c3, .slice h.A4 h.n4 h.c4], .agg #[.slice h'.A0 h'.n0 h'.c0, .slice h'.A1 h'.n1 h'.c1, .slice h'.A2 h'.n2 h'.c2, .slice h'.A3 h'.n3 h'.c3, .slice h'.A4 h'.n4 h'.c4]] w fun e w' => e = .returned (.bool true) ∧ Below w.heap.size w w' := by
  have Kq : Below w.heap.size w ((w.alloc (.cells #[.slice h.A0 h.n0 h.c0, .slice h.A1 h.n1 h.c1, .slice h.A2 h.n2 h.c2, .slice h.A3 h.n3 h.c3, .slice h.A4 h.n4 h.c4] 28)).alloc (.cells #[.slice h'.A0 h'.n0 h'.c0, .slice h'.A1 h'.n1 h'.c1, .slice h'.A2 h'.n2 h'.c2, .slice h'.A3 h'.n3 h'.c3, .slice h'.A4 h'.n4 h'.c4] 28)) := ((Below.refl _ _).alloc (Nat.le_refl _) _).alloc (by simp) _
  have P : Blk ((w.alloc (.cells #[.slice h.A0 h.n0 h.c0, .slice h.A1 h.n1 h.c1, .slice h.A2 h.n2 h.c2, .slice h.A3 h.n3 h.c3, .slice h.A4 h.n4 h.c4] 28)).alloc (.cells #[.slice h'.A0 h'.n0 h'.c0, .slice h'.A1 h'.n1 h'.c1, .slice h'.A2 h'.n2 h'.c2, .slice h'.A3 h'.n3 h'.c3, .slice h'.A4 h'.n4 h'.c4] 28)) w.heap.size 28 [.slice h.A0 h.n0 h.c0, .slice h.A1 h.n1 h.c1, .slice h.A2 h.n2 h.c2, .slice h.A3 h.n3 h.c3, .slice h.A4 h.n4 h.c4] := (Blk.at_ rfl).alloc _
  have Q : Blk ((w.alloc (.cells #[.slice h.A0 h.n0 h.c0, .slice h.A1 h.n1 h.c1, .slice h.A2 h.n2 h.c2, .slice h.A3 h.n3 h.c3, .slice h.A4 h.n4 h.c4] 28)).alloc (.cells #[.slice h'.A0 h'.n0 h'.c0, .slice h'.A1 h'.n1 h'.c1, .slice h'.A2 h'.n2 h'.c2, .slice h'.A3 h'.n3 h'.c3, .slice h'.A4 h'.n4 h'.c4] 28)) (w.heap.size + 1) 28 [.slice h'.A0 h'.n0 h'.c0, .slice h'.A1 h'.n1 h'.c1, .slice h'.A2 h'.n2 h'.c2, .slice h'.A3 h'.n3 h'.c3, .slice h'.A4 h'.n4 h'.c4] := Blk.at_ (by simp)
  have n0 := hf.n0
  have n1 := hf.n1
  have n2 := hf.n2
  have n3 := hf.n3
  have n4 := hf.n4
  replace ha := ha.next Kq
  replace hb := hb.next Kq
  go_enter Tryz.func9, Tryz.ntmps9
  go_upto_region 1 with fail
  generalize ((w.alloc (.cells #[.slice h.A0 h.n0 h.c0, .slice h.A1 h.n1 h.c1, .slice h.A2 h.n2 h.c2, .slice h.A3 h.n3 h.c3, .slice h.A4 h.n4 h.c4] 28)).alloc (.cells #[.slice h'.A0 h'.n0 h'.c0, .slice h'.A1 h'.n1 h'.c1, .slice h'.A2 h'.n2 h'.c2, .slice h'.A3 h'.n3 h'.c3, .slice h'.A4 h'.n4 h'.c4] 28)) = w1 at *
  have pc := P.cell
  have qc := Q.cell
  go_wp2_with (first
  | (go_at_call 26
     first
       | with_reducible refine (vInts_any h.A0 h'.A0 h.n0 h'.n0 h.c0 h'.c0 lo lo' d.codes d.codes _ ha.f0 hb.f0 rfl (by omega)).mono ?_
       | with_reducible refine (vInts_any h.A1 h'.A1 h.n1 h'.n1 h.c1 h'.c1 lo lo' d.known d.known _ ha.f1 hb.f1 rfl (by omega)).mono ?_
     rintro e w' ⟨rfl, q⟩
     replace ha := ha.next (q.below _)
     replace hb := hb.next (q.below _)
     replace P := P.next (q.below _)
     replace Q := Q.next (q.below _)
     replace Kq := bel_then Kq (q.below _)
     clear q pc qc
     have pc := P.cell
     have qc := Q.cell)
  | (go_at_call 38
     first
       | with_reducible refine (vCards_any h.A2 h'.A2 h.n2 h'.n2 h.c2 h'.c2 lo lo' d.queue d.queue _ ha.f2 hb.f2 rfl (by omega) hf.k2).mono ?_
       | with_reducible refine (vCards_any h.A4 h'.A4 h.n4 h'.n4 h.c4 h'.c4 lo lo' d.trouble d.trouble _ ha.f4 hb.f4 rfl (by omega) hf.k4).mono ?_
     rintro e w' ⟨rfl, b⟩
     replace ha := ha.next b
     replace hb := hb.next b
     replace P := P.next b
     replace Q := Q.next b
     replace Kq := bel_then Kq b
     clear b pc qc
     have pc := P.cell
     have qc := Q.cell)
  | (go_at_call 39
     refine (vRows_any _ _ _ _ _ _ _ _ _ _ _ ha.f3 hb.f3 rfl (by omega)).mono ?_
     rintro e w' ⟨rfl, q⟩
     replace ha := ha.next (q.below _)
     replace hb := hb.next (q.below _)
     replace P := P.next (q.below _)
     replace Q := Q.next (q.below _)
     replace Kq := bel_then Kq (q.below _)
     clear q pc qc
     have pc := P.cell
     have qc := Q.cell))
  go_ret
  exact ⟨rfl, Kq⟩

end Go.Proofs.YtkimlajfhepfgaaGreat

namespace Go.Proofs.YtkimlajfhepfgaaGreat
open Go.RowKit

theorem vBig_any (A : Option Addr) (m c : Nat) (w : World) (hm : m ≤ 9223372036854775807) : Calls Tryz.prog 5 #[.slice A m c] w fun e w' => e = .returned (.bool (decide (65536 < m))) ∧ w = w' := by
  by_cases h : 65536 < m
  · have h' : (65536 : Int) < (m : Int) := by omega
    have hd := Lib.hid (decide_eq_true h)
    go_enter Tryz.func5, Tryz.ntmps5
    go_wp2_with fail
    go_ret
    exact ⟨ret_bool (a := true) hd.out.symm, rfl⟩
  · have h' : ¬ (65536 : Int) < (m : Int) := by omega
    go_enter Tryz.func5, Tryz.ntmps5
    go_wp2_with fail
    go_ret
    exact ⟨rfl, rfl⟩

end Go.Proofs.YtkimlajfhepfgaaGreat
