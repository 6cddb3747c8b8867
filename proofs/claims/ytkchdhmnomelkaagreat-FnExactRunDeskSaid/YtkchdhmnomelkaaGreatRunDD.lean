/- Joined: CheckA, RunP, RunI, RunS. -/
import Derived.Deep.LoopGhost
import Derived.Deep.CutBlock
import Derived.Test.YtkchdhmnomelkaaGreatCheckS
import Derived.Test.YtkchdhmnomelkaaGreatCheckF
import Derived.Test.YtkchdhmnomelkaaGreatNewDIW
import Derived.Test.YtkchdhmnomelkaaGreatStepDD
/- CheckAll, as the program has it. -/
namespace Go.Proofs.YtkchdhmnomelkaaGreat
open Go.RowKit

/-- A desk in memory of the call's own, or none; and a number. -/
def GivesDeskIO (w : World) (R : Option DeskV) (c : Int) (e : Ending) (w' : World) : Prop :=
  ∃ H : DeskH, e = .returned (.tuple #[.agg #[.slice H.A0 H.n0 H.c0, .slice H.A1 H.n1 H.c1, .slice H.A2 H.n2 H.c2, .slice H.A3 H.n3 H.c3, .slice H.A4 H.n4 H.c4], .int .i64 c, .bool R.isSome]) ∧ MineDesk w' (In w.heap.size w'.heap.size) H (R.getD deskZ) ∧ DeskFit 1048576 H (R.getD deskZ) ∧ H.n3 ≤ H.c3 ∧ Below w.heap.size w w'
theorem givesDIO_none {w w' : World} (h : Below w.heap.size w w') : GivesDeskIO w none 0 (.returned (.tuple #[.agg #[.slice none 0 0, .slice none 0 0, .slice none 0 0, .slice none 0 0, .slice none 0 0], .int .i64 0, .bool false])) w' :=
  ⟨⟨none, 0, 0, none, 0, 0, none, 0, 0, none, 0, 0, none, 0, 0⟩, rfl, deskZ_mine _ _, deskZ_fit, Nat.le_refl _, h⟩
theorem checkAll_none {d : DeskV} (g : deskB d = false) : checkAllM d = none ∧ checkAllC d = 0 := by
  unfold checkAllM checkAllC
  rw [g]
  exact ⟨rfl, rfl⟩
theorem checkAll_some {d : DeskV} {c : Nat} (g : deskB d = true) (h : (checkN d.queue.length d).done.length = d.done.length + c) : checkAllM d = some (checkN d.queue.length d) ∧ checkAllC d = (c : Int) := by
  unfold checkAllM checkAllC
  rw [g, h]
  exact ⟨rfl, by rw [if_pos rfl]; omega⟩
theorem MineW.caps {w : World} {S : Nat → Prop} {h : DeskH} {d : DeskV} (m : MineW w S h d) : h.n3 ≤ h.c3 := by
  obtain ⟨col, m⟩ := m
  exact own_cap m.f3.own

end Go.Proofs.YtkchdhmnomelkaaGreat

/- All steps of a desk: the plain law. -/
namespace Go.Proofs.YtkchdhmnomelkaaGreat
open Go.RowKit

def stepAcc (x : DeskV × Nat) (s : DeskStep) : DeskV × Nat := if stepB x.1 s then (stepOut x.1 s, x.2 + 1) else x
def runK (d : DeskV) (ss : List DeskStep) : Nat → DeskV × Nat
  | 0 => (d, 0)
  | k + 1 => match ss[k]? with | some s => stepAcc (runK d ss k) s | none => runK d ss k
theorem runK_next {d : DeskV} {ss : List DeskStep} {k : Nat} (hk : k < ss.length) : runK d ss (k + 1) = stepAcc (runK d ss k) ss[k] := by
  simp only [runK, List.getElem?_eq_getElem hk]
theorem stepAcc_good {x : DeskV × Nat} {s : DeskStep} (h : deskB x.1 = true) : deskB (stepAcc x s).1 = true := by
  unfold stepAcc
  split
  · rename_i hb
    unfold stepB at hb
    simp only [Bool.and_eq_true] at hb
    exact hb.2
  · exact h
theorem runK_good {d : DeskV} {ss : List DeskStep} (h : deskB d = true) : ∀ k, deskB (runK d ss k).1 = true
  | 0 => h
  | k + 1 => by
    unfold runK
    split
    · exact stepAcc_good (runK_good h k)
    · exact runK_good h k
theorem runK_count (d : DeskV) (ss : List DeskStep) : ∀ k, (runK d ss k).2 ≤ k
  | 0 => Nat.le_refl _
  | k + 1 => by
    have h := runK_count d ss k
    unfold runK
    split
    · unfold stepAcc
      split
      · exact Nat.succ_le_succ h
      · omega
    · omega
def runP (d : DeskV) (ss : List DeskStep) : Option DeskV × Int :=
  if deskB d && decide (ss.length ≤ 30) then (some (runK d ss ss.length).1, ((runK d ss ss.length).2 : Int)) else (none, 0)
theorem runP_none {d : DeskV} {ss : List DeskStep} (h : (deskB d && decide (ss.length ≤ 30)) = false) : runP d ss = (none, 0) := by
  unfold runP
  rw [h]
  rfl
theorem runP_some {d : DeskV} {ss : List DeskStep} (h : (deskB d && decide (ss.length ≤ 30)) = true) : runP d ss = (some (runK d ss ss.length).1, ((runK d ss ss.length).2 : Int)) := by
  unfold runP
  rw [h]
  rfl
theorem runP_wt (d : DeskV) (ss : List DeskStep) : wtN Card.wt ((runP d ss).1.getD deskZ).queue ≤ 1000 ∧ wtN Card.wt ((runP d ss).1.getD deskZ).trouble ≤ 1000 := by
  cases h : (deskB d && decide (ss.length ≤ 30))
  · rw [runP_none h]
    simp [deskZ, wtN]
  · rw [runP_some h]
    simp only [Bool.and_eq_true] at h
    exact deskB_wt (runK_good h.1 _)
def GivesRun (w : World) (R : Option DeskV × Int) : Ending → World → Prop := GivesDeskIO w R.1 R.2

end Go.Proofs.YtkchdhmnomelkaaGreat

/- RunDesk, as the program has it. -/
namespace Go.Proofs.YtkchdhmnomelkaaGreat
open Go.RowKit

set_option maxRecDepth 100000 in
set_option maxHeartbeats 8000000 in
theorem RunDesk_any (h : DeskH) (d : DeskV) (A : Option Addr) (n c : Nat) (ss : List DeskStep) (w : World) (hs : SeesDesk w 0 h d) (hf : DeskFit 1048576 h d) (hc : h.n3 ≤ h.c3) (hx : SeesN deskStepSh w 0 A n ss) (hn : n ≤ 1048576) (hi : ∀ x ∈ ss, x.cnt ≤ 1048576) :
    Calls Tryz.prog 19 #[.agg #[.slice h.A0 h.n0 h.c0, .slice h.A1 h.n1 h.c1, .slice h.A2 h.n2 h.c2, .slice h.A3 h.n3 h.c3, .slice h.A4 h.n4 h.c4], .slice A n c] w (GivesRun w (runP d ss)) := by
  have K0 : Below w.heap.size w ((w.alloc (.cells #[.slice h.A0 h.n0 h.c0, .slice h.A1 h.n1 h.c1, .slice h.A2 h.n2 h.c2, .slice h.A3 h.n3 h.c3, .slice h.A4 h.n4 h.c4] 37)).alloc (.cells #[.slice none 0 0, .slice none 0 0, .slice none 0 0, .slice none 0 0, .slice none 0 0] 37)) := ((Below.refl w.heap.size w).alloc (Nat.le_refl _) _).alloc (by simp) _
  have P : Blk ((w.alloc (.cells #[.slice h.A0 h.n0 h.c0, .slice h.A1 h.n1 h.c1, .slice h.A2 h.n2 h.c2, .slice h.A3 h.n3 h.c3, .slice h.A4 h.n4 h.c4] 37)).alloc (.cells #[.slice none 0 0, .slice none 0 0, .slice none 0 0, .slice none 0 0, .slice none 0 0] 37)) w.heap.size 37 [.slice h.A0 h.n0 h.c0, .slice h.A1 h.n1 h.c1, .slice h.A2 h.n2 h.c2, .slice h.A3 h.n3 h.c3, .slice h.A4 h.n4 h.c4] := (Blk.at_ rfl).alloc _
  have R : Blk ((w.alloc (.cells #[.slice h.A0 h.n0 h.c0, .slice h.A1 h.n1 h.c1, .slice h.A2 h.n2 h.c2, .slice h.A3 h.n3 h.c3, .slice h.A4 h.n4 h.c4] 37)).alloc (.cells #[.slice none 0 0, .slice none 0 0, .slice none 0 0, .slice none 0 0, .slice none 0 0] 37)) (w.heap.size + 1) 37 [.slice none 0 0, .slice none 0 0, .slice none 0 0, .slice none 0 0, .slice none 0 0] := Blk.at_ (by simp)
  have z0 : w.heap.size + 2 ≤ (((w.alloc (.cells #[.slice h.A0 h.n0 h.c0, .slice h.A1 h.n1 h.c1, .slice h.A2 h.n2 h.c2, .slice h.A3 h.n3 h.c3, .slice h.A4 h.n4 h.c4] 37)).alloc (.cells #[.slice none 0 0, .slice none 0 0, .slice none 0 0, .slice none 0 0, .slice none 0 0] 37))).heap.size := by simp
  have HL := Lib.hid hx.count
  go_enter Tryz.func19, Tryz.ntmps19
  go_wp2_with fail
  generalize ((w.alloc (.cells #[.slice h.A0 h.n0 h.c0, .slice h.A1 h.n1 h.c1, .slice h.A2 h.n2 h.c2, .slice h.A3 h.n3 h.c3, .slice h.A4 h.n4 h.c4] 37)).alloc (.cells #[.slice none 0 0, .slice none 0 0, .slice none 0 0, .slice none 0 0, .slice none 0 0] 37)) = w0 at *
  refine (IsDesk_any h d _ (hs.below K0 (Nat.le_refl _)) hf hc).mono ?_
  cases g : deskB d
  · rintro x w1 ⟨rfl, b1⟩
    have K1 := bel_then K0 b1
    have R1 := R.next b1
    have rc := R1.cell
    have rf := R1.frozen
    have HR := Lib.hid (runP_none (d := d) (ss := ss) (by rw [g]; rfl))
    clear g
    go_wp2_with fail
    refine bodyPost_ret (v := .tuple #[.agg #[.slice none 0 0, .slice none 0 0, .slice none 0 0, .slice none 0 0, .slice none 0 0], .int .i64 0, .bool false]) (by simp [results, Tryz.results19, go_sem, rc]) rfl ?_
    rw [HR.out]
    exact givesDIO_none (K1.trans ((((((((Only.refl (fun b => b = w.heap.size + 1) w1).setCell (p := ⟨w.heap.size + 1, 0, none⟩) rfl (.slice none 0 0)).setCell (p := ⟨w.heap.size + 1, 1, none⟩) rfl (.slice none 0 0)).setCell (p := ⟨w.heap.size + 1, 2, none⟩) rfl (.slice none 0 0)).setCell (p := ⟨w.heap.size + 1, 3, none⟩) rfl (.slice none 0 0)).setCell (p := ⟨w.heap.size + 1, 4, none⟩) rfl (.slice none 0 0))).below (fun k hk => by omega) K1.size))
  rintro x w1 ⟨rfl, b1⟩
  have K1 := bel_then K0 b1
  have R1 := R.next b1
  have P1 := P.next b1
  have z1 := b1.size
  clear P R K0 b1
  rcases Nat.lt_or_ge 30 n with h30 | h30
  · have rc := R1.cell
    have rf := R1.frozen
    have HR := Lib.hid (runP_none (d := d) (ss := ss) (by rw [g, HL.out]; exact decide_eq_false (by omega)))
    have hgt : (30 : Int) < (n : Int) := by omega
    have hgn : decide (30 < n) = true := decide_eq_true h30
    clear g
    go_wp2_with fail
    refine bodyPost_ret (v := .tuple #[.agg #[.slice none 0 0, .slice none 0 0, .slice none 0 0, .slice none 0 0, .slice none 0 0], .int .i64 0, .bool false]) (by simp [results, Tryz.results19, go_sem, rc]) rfl ?_
    rw [HR.out]
    exact givesDIO_none (K1.trans ((((((((Only.refl (fun b => b = w.heap.size + 1) w1).setCell (p := ⟨w.heap.size + 1, 0, none⟩) rfl (.slice none 0 0)).setCell (p := ⟨w.heap.size + 1, 1, none⟩) rfl (.slice none 0 0)).setCell (p := ⟨w.heap.size + 1, 2, none⟩) rfl (.slice none 0 0)).setCell (p := ⟨w.heap.size + 1, 3, none⟩) rfl (.slice none 0 0)).setCell (p := ⟨w.heap.size + 1, 4, none⟩) rfl (.slice none 0 0))).below (fun k hk => by omega) K1.size))
  have HR := Lib.hid (runP_some (d := d) (ss := ss) (by rw [g, HL.out]; exact decide_eq_true (by omega)))
  have hgt : ¬ (30 : Int) < (n : Int) := by omega
  have hgn : decide (30 < n) = false := decide_eq_false (by omega)
  have G := Lib.hid g
  have SM := deskB_small g
  have pc := P1.cell
  clear g
  go_wp2_with fail
  refine (newDeskW_any h d _ (hs.below K1 (Nat.le_refl _)) hf).mono ?_
  rintro x w2 ⟨H, rfl, M, F, C3, C2, b2⟩
  have K2 := bel_then K1 b2
  have R2 := R1.next b2
  have z2 := b2.size
  have U : Below w2.heap.size w2 (w2.alloc (.cells #[.slice H.A0 H.n0 H.c0, .slice H.A1 H.n1 H.c1, .slice H.A2 H.n2 H.c2, .slice H.A3 H.n3 H.c3, .slice H.A4 H.n4 H.c4] 37)) := (Below.refl _ _).alloc (Nat.le_refl _) _
  have B3 : Blk (w2.alloc (.cells #[.slice H.A0 H.n0 H.c0, .slice H.A1 H.n1 H.c1, .slice H.A2 H.n2 H.c2, .slice H.A3 H.n3 H.c3, .slice H.A4 H.n4 H.c4] 37)) w2.heap.size 37 [.slice H.A0 H.n0 H.c0, .slice H.A1 H.n1 H.c1, .slice H.A2 H.n2 H.c2, .slice H.A3 H.n3 H.c3, .slice H.A4 H.n4 H.c4] := Blk.at_ rfl
  have K3 := bel_then K2 U
  have R3 := R2.next U
  have M3 := (M.next U).wide (T := fun b => b ≠ w2.heap.size ∧ w.heap.size + 2 ≤ b ∧ b < (w2.alloc (.cells #[.slice H.A0 H.n0 H.c0, .slice H.A1 H.n1 H.c1, .slice H.A2 H.n2 H.c2, .slice H.A3 H.n3 H.c3, .slice H.A4 H.n4 H.c4] 37)).heap.size) (fun b hb => ⟨by have := hb.2; omega, by have := hb.1; omega, Nat.lt_of_lt_of_le hb.2 U.size⟩)
  clear pc P1 K1 R1 M K2 R2 U b2 F hgt hgn
  have hg5 : w.heap.size + 2 ≤ w2.heap.size := by omega
  go_wp2_with fail
  generalize w2.alloc (.cells #[.slice H.A0 H.n0 H.c0, .slice H.A1 H.n1 H.c1, .slice H.A2 H.n2 H.c2, .slice H.A3 H.n3 H.c3, .slice H.A4 H.n4 H.c4] 37) = w3 at *
  generalize w2.heap.size = g5 at *
  go_loopw [8, 26] (fun cv iv wr => ∃ (h' : DeskH) (k c : Nat), k ≤ n ∧ iv = .int .i64 (k : Int) ∧ cv = .int .i64 (c : Int) ∧ c ≤ k ∧ Hid (c = (runK d ss k).2) ∧ Blk wr g5 37 [.slice h'.A0 h'.n0 h'.c0, .slice h'.A1 h'.n1 h'.c1, .slice h'.A2 h'.n2 h'.c2, .slice h'.A3 h'.n3 h'.c3, .slice h'.A4 h'.n4 h'.c4] ∧ MineW wr (fun b => b ≠ g5 ∧ w.heap.size + 2 ≤ b ∧ b < wr.heap.size) h' (runK d ss k).1 ∧ Blk wr (w.heap.size + 1) 37 [.slice none 0 0, .slice none 0 0, .slice none 0 0, .slice none 0 0, .slice none 0 0] ∧ Below w.heap.size w wr) (fun _ iv _ => n - (intOf iv).toNat)
  case atStart => exact ⟨H, 0, 0, Nat.zero_le _, rfl, rfl, Nat.le_refl _, Lib.hid rfl, B3, M3, R3, K3⟩
  case round =>
    obtain ⟨h', k, cn, hk, rfl, rfl, hck, HC, B, M, R, Kq⟩ := hrel
    clear B3 M3 R3 K3
    have bc := B.cell
    have hgl := B.lt
    by_cases hlt : k < n
    · obtain ⟨b4, off, B4a, m, e, hA, hkx, x0, x1, x2, x3, x4, x5, hin⟩ := SeesDeskStep.elem (hx.next Kq) hlt
      subst hA
      have hblt := World.block_lt_of_cell? wr _ x0
      have HN := Lib.hid (runK_next (d := d) hkx)
      have hm : m ≤ 1048576 := by
        have h1 := hin.count (by decide) (fun _ => rfl)
        have h2 := hi _ (List.getElem_mem hkx)
        unfold DeskStep.cnt at h2
        omega
      have hnp : (k : Int) < (n : Int) := by omega
      have GK := Lib.hid (runK_good (d := d) (ss := ss) G.out k)
      have SMK := Lib.hid (deskB_small GK.out)
      generalize ss[k] = s at *
      generalize B4a = B5 at *
      have b0 : Below wr.heap.size wr (wr.alloc (.cells #[.int .i64 s.kind, .int .i64 s.number, .int .i64 s.cnumber, .int .i64 s.cstart, .int .i64 s.cfinish, .slice B5 m e] 45)) := (Below.refl _ _).alloc (Nat.le_refl _) _
      have zb0 := b0.size
      go_wp2_with fail
      refine (stepDesk_any h' (runK d ss k).1 B5 m e s _ (M.desk.sees.next b0) GK.out (hin.next b0) hm).mono ?_
      rintro x w5 ⟨h2, rfl, M2, C5, b9⟩
      have b2 := bel_then b0 b9
      have zw := b9.size
      clear b0 b9
      have hz := b2.size
      have Bn := B.next b2
      have Rn := R.next b2
      have Mn := M.next b2
      have Kn := bel_then Kq b2
      have bA : Below w5.heap.size w5 (w5.alloc (.cells #[.slice h2.A0 h2.n0 h2.c0, .slice h2.A1 h2.n1 h2.c1, .slice h2.A2 h2.n2 h2.c2, .slice h2.A3 h2.n3 h2.c3, .slice h2.A4 h2.n4 h2.c4] 37)) := (Below.refl _ _).alloc (Nat.le_refl _) _
      have zA := bA.size
      cases hb : stepB (runK d ss k).1 s
      · have HE := Lib.hid (show runK d ss (k + 1) = runK d ss k by rw [HN.out]; unfold stepAcc; rw [hb]; rfl)
        have HB := Lib.hid hb
        clear hb bc x0 x1 x2 x3 x4 x5
        go_wp2_with fail
        go_roundw
        case rel => exact ⟨h', k + 1, cn, by omega, by go_num, rfl, by omega, Lib.hid (by rw [HE.out]; exact HC.out), Bn.next bA, by rw [HE.out]; exact (Mn.next bA).wide (fun b hb => ⟨hb.1, hb.2.1, by have := hb.2.2; omega⟩), Rn.next bA, bel_then Kn bA⟩
        case measure => simp [intOf]; omega
      have HE := Lib.hid (show runK d ss (k + 1) = (stepOut (runK d ss k).1 s, (runK d ss k).2 + 1) by rw [HN.out]; unfold stepAcc; rw [hb]; rfl)
      have HB := Lib.hid hb
      clear hb bc x0 x1 x2 x3 x4 x5
      have bn := Bn.cell
      have bf := Bn.frozen
      have hgn := Bn.lt
      have E := ((((((Only.refl (fun b => b = g5) w5).setCell (p := ⟨g5, 0, none⟩) rfl (.slice h2.A0 h2.n0 h2.c0)).setCell (p := ⟨g5, 1, none⟩) rfl (.slice h2.A1 h2.n1 h2.c1)).setCell (p := ⟨g5, 2, none⟩) rfl (.slice h2.A2 h2.n2 h2.c2)).setCell (p := ⟨g5, 3, none⟩) rfl (.slice h2.A3 h2.n3 h2.c3)).setCell (p := ⟨g5, 4, none⟩) rfl (.slice h2.A4 h2.n4 h2.c4))
      have bB : Below ((((((w5.setCell ⟨g5, 0, none⟩ (.slice h2.A0 h2.n0 h2.c0)).setCell ⟨g5, 1, none⟩ (.slice h2.A1 h2.n1 h2.c1)).setCell ⟨g5, 2, none⟩ (.slice h2.A2 h2.n2 h2.c2)).setCell ⟨g5, 3, none⟩ (.slice h2.A3 h2.n3 h2.c3)).setCell ⟨g5, 4, none⟩ (.slice h2.A4 h2.n4 h2.c4))).heap.size (((((w5.setCell ⟨g5, 0, none⟩ (.slice h2.A0 h2.n0 h2.c0)).setCell ⟨g5, 1, none⟩ (.slice h2.A1 h2.n1 h2.c1)).setCell ⟨g5, 2, none⟩ (.slice h2.A2 h2.n2 h2.c2)).setCell ⟨g5, 3, none⟩ (.slice h2.A3 h2.n3 h2.c3)).setCell ⟨g5, 4, none⟩ (.slice h2.A4 h2.n4 h2.c4)) (((((((w5.setCell ⟨g5, 0, none⟩ (.slice h2.A0 h2.n0 h2.c0)).setCell ⟨g5, 1, none⟩ (.slice h2.A1 h2.n1 h2.c1)).setCell ⟨g5, 2, none⟩ (.slice h2.A2 h2.n2 h2.c2)).setCell ⟨g5, 3, none⟩ (.slice h2.A3 h2.n3 h2.c3)).setCell ⟨g5, 4, none⟩ (.slice h2.A4 h2.n4 h2.c4))).alloc (.cells #[.slice h2.A0 h2.n0 h2.c0, .slice h2.A1 h2.n1 h2.c1, .slice h2.A2 h2.n2 h2.c2, .slice h2.A3 h2.n3 h2.c3, .slice h2.A4 h2.n4 h2.c4] 37)) := (Below.refl _ _).alloc (Nat.le_refl _) _
      have zE := E.size
      have zB := bB.size
      have Bz : Blk (((((w5.setCell ⟨g5, 0, none⟩ (.slice h2.A0 h2.n0 h2.c0)).setCell ⟨g5, 1, none⟩ (.slice h2.A1 h2.n1 h2.c1)).setCell ⟨g5, 2, none⟩ (.slice h2.A2 h2.n2 h2.c2)).setCell ⟨g5, 3, none⟩ (.slice h2.A3 h2.n3 h2.c3)).setCell ⟨g5, 4, none⟩ (.slice h2.A4 h2.n4 h2.c4)) g5 37 [.slice h2.A0 h2.n0 h2.c0, .slice h2.A1 h2.n1 h2.c1, .slice h2.A2 h2.n2 h2.c2, .slice h2.A3 h2.n3 h2.c3, .slice h2.A4 h2.n4 h2.c4] := (((((Bn.set_ 0 (.slice h2.A0 h2.n0 h2.c0)).set_ 1 (.slice h2.A1 h2.n1 h2.c1)).set_ 2 (.slice h2.A2 h2.n2 h2.c2)).set_ 3 (.slice h2.A3 h2.n3 h2.c3)).set_ 4 (.slice h2.A4 h2.n4 h2.c4))
      have Mz := M2.only E (fun b h1 (h2 : b = g5) => by have := h1.1; omega)
      have Rz := Rn.only E (fun h => by omega)
      have Kz := Kn.trans (E.below (fun b hb => by omega) Kn.size)
      have hc1 : (cn : Int) + 1 ≤ 1000000000 := by omega
      go_wp2_with fail
      go_roundw
      case rel => exact ⟨h2, k + 1, cn + 1, by omega, by go_num, by go_num, by omega, Lib.hid (by rw [HE.out, HC.out]), Bz.next bB, by rw [HE.out]; exact (Mz.next bB).wide (fun b hb => ⟨by have := hb.1; omega, by have := hb.1; have := Kn.size; omega, by have := hb.2; omega⟩), Rz.next bB, bel_then Kz bB⟩
      case measure => simp [intOf]; omega
    · obtain rfl : k = n := by omega
      have rc := R.cell
      have rf := R.frozen
      have hnp : ¬ (k : Int) < (k : Int) := by omega
      have HM := Lib.hid (show runP d ss = (some (runK d ss k).1, (cn : Int)) by rw [HR.out, HL.out, HC.out])
      clear hx hi
      go_wp2_with fail
      refine bodyPost_ret (v := .tuple #[.agg #[.slice h'.A0 h'.n0 h'.c0, .slice h'.A1 h'.n1 h'.c1, .slice h'.A2 h'.n2 h'.c2, .slice h'.A3 h'.n3 h'.c3, .slice h'.A4 h'.n4 h'.c4], .int .i64 (cn : Int), .bool true]) (by simp [results, Tryz.results19, go_sem, rc]) rfl ?_
      rw [HM.out]
      have E := ((((((Only.refl (fun b => b = w.heap.size + 1) wr).setCell (p := ⟨w.heap.size + 1, 0, none⟩) rfl (.slice h'.A0 h'.n0 h'.c0)).setCell (p := ⟨w.heap.size + 1, 1, none⟩) rfl (.slice h'.A1 h'.n1 h'.c1)).setCell (p := ⟨w.heap.size + 1, 2, none⟩) rfl (.slice h'.A2 h'.n2 h'.c2)).setCell (p := ⟨w.heap.size + 1, 3, none⟩) rfl (.slice h'.A3 h'.n3 h'.c3)).setCell (p := ⟨w.heap.size + 1, 4, none⟩) rfl (.slice h'.A4 h'.n4 h'.c4))
      have zF := E.size
      have M4 := M.only E (fun b h1 h2 => by have := h1.2.1; omega)
      exact ⟨h', rfl, (M4.wide (fun b hb => by have := hb.2.1; have := hb.2.2; exact ⟨by omega, by omega⟩)).desk, (deskB_small (runK_good G.out _)).fit M.desk.sees (by decide) (by decide), M.cap3, Kq.trans (E.below (fun k hk => by omega) Kq.size)⟩

end Go.Proofs.YtkchdhmnomelkaaGreat

/- RunDesk, as the reference has it. -/
namespace Go.Proofs.YtkchdhmnomelkaaGreat
open Go.RowKit

set_option maxRecDepth 100000 in
set_option maxHeartbeats 8000000 in
theorem specRunDesk_any (h : DeskH) (d : DeskV) (A : Option Addr) (n c : Nat) (ss : List DeskStep) (w : World) (hs : SeesDesk w 0 h d) (hf : DeskFit 1048576 h d) (hc : h.n3 ≤ h.c3) (hx : SeesN deskStepSh w 0 A n ss) (hn : n ≤ 1048576) (hi : ∀ x ∈ ss, x.cnt ≤ 1048576) :
    Calls Tryz.prog 17 #[.agg #[.slice h.A0 h.n0 h.c0, .slice h.A1 h.n1 h.c1, .slice h.A2 h.n2 h.c2, .slice h.A3 h.n3 h.c3, .slice h.A4 h.n4 h.c4], .slice A n c] w (GivesRun w (runP d ss)) := by
  have K0 : Below w.heap.size w ((w.alloc (.cells #[.slice h.A0 h.n0 h.c0, .slice h.A1 h.n1 h.c1, .slice h.A2 h.n2 h.c2, .slice h.A3 h.n3 h.c3, .slice h.A4 h.n4 h.c4] 37)).alloc (.cells #[.slice none 0 0, .slice none 0 0, .slice none 0 0, .slice none 0 0, .slice none 0 0] 37)) := ((Below.refl w.heap.size w).alloc (Nat.le_refl _) _).alloc (by simp) _
  have P : Blk ((w.alloc (.cells #[.slice h.A0 h.n0 h.c0, .slice h.A1 h.n1 h.c1, .slice h.A2 h.n2 h.c2, .slice h.A3 h.n3 h.c3, .slice h.A4 h.n4 h.c4] 37)).alloc (.cells #[.slice none 0 0, .slice none 0 0, .slice none 0 0, .slice none 0 0, .slice none 0 0] 37)) w.heap.size 37 [.slice h.A0 h.n0 h.c0, .slice h.A1 h.n1 h.c1, .slice h.A2 h.n2 h.c2, .slice h.A3 h.n3 h.c3, .slice h.A4 h.n4 h.c4] := (Blk.at_ rfl).alloc _
  have R : Blk ((w.alloc (.cells #[.slice h.A0 h.n0 h.c0, .slice h.A1 h.n1 h.c1, .slice h.A2 h.n2 h.c2, .slice h.A3 h.n3 h.c3, .slice h.A4 h.n4 h.c4] 37)).alloc (.cells #[.slice none 0 0, .slice none 0 0, .slice none 0 0, .slice none 0 0, .slice none 0 0] 37)) (w.heap.size + 1) 37 [.slice none 0 0, .slice none 0 0, .slice none 0 0, .slice none 0 0, .slice none 0 0] := Blk.at_ (by simp)
  have z0 : w.heap.size + 2 ≤ (((w.alloc (.cells #[.slice h.A0 h.n0 h.c0, .slice h.A1 h.n1 h.c1, .slice h.A2 h.n2 h.c2, .slice h.A3 h.n3 h.c3, .slice h.A4 h.n4 h.c4] 37)).alloc (.cells #[.slice none 0 0, .slice none 0 0, .slice none 0 0, .slice none 0 0, .slice none 0 0] 37))).heap.size := by simp
  have HL := Lib.hid hx.count
  go_enter Tryz.func17, Tryz.ntmps17
  go_wp2_with fail
  generalize ((w.alloc (.cells #[.slice h.A0 h.n0 h.c0, .slice h.A1 h.n1 h.c1, .slice h.A2 h.n2 h.c2, .slice h.A3 h.n3 h.c3, .slice h.A4 h.n4 h.c4] 37)).alloc (.cells #[.slice none 0 0, .slice none 0 0, .slice none 0 0, .slice none 0 0, .slice none 0 0] 37)) = w0 at *
  refine (l25Good_any h d _ (hs.below K0 (Nat.le_refl _)) hf hc).mono ?_
  cases g : deskB d
  · rintro x w1 ⟨rfl, b1⟩
    have K1 := bel_then K0 b1
    have R1 := R.next b1
    have rc := R1.cell
    have rf := R1.frozen
    have HR := Lib.hid (runP_none (d := d) (ss := ss) (by rw [g]; rfl))
    clear g
    go_wp2_with fail
    refine bodyPost_ret (v := .tuple #[.agg #[.slice none 0 0, .slice none 0 0, .slice none 0 0, .slice none 0 0, .slice none 0 0], .int .i64 0, .bool false]) (by simp [results, Tryz.results17, go_sem, rc]) rfl ?_
    rw [HR.out]
    exact givesDIO_none (K1.trans ((((((((Only.refl (fun b => b = w.heap.size + 1) w1).setCell (p := ⟨w.heap.size + 1, 0, none⟩) rfl (.slice none 0 0)).setCell (p := ⟨w.heap.size + 1, 1, none⟩) rfl (.slice none 0 0)).setCell (p := ⟨w.heap.size + 1, 2, none⟩) rfl (.slice none 0 0)).setCell (p := ⟨w.heap.size + 1, 3, none⟩) rfl (.slice none 0 0)).setCell (p := ⟨w.heap.size + 1, 4, none⟩) rfl (.slice none 0 0))).below (fun k hk => by omega) K1.size))
  rintro x w1 ⟨rfl, b1⟩
  have K1 := bel_then K0 b1
  have R1 := R.next b1
  have P1 := P.next b1
  have z1 := b1.size
  clear P R K0 b1
  rcases Nat.lt_or_ge 30 n with h30 | h30
  · have rc := R1.cell
    have rf := R1.frozen
    have HR := Lib.hid (runP_none (d := d) (ss := ss) (by rw [g, HL.out]; exact decide_eq_false (by omega)))
    have hgt : (30 : Int) < (n : Int) := by omega
    have hgn : decide (30 < n) = true := decide_eq_true h30
    clear g
    go_wp2_with fail
    refine bodyPost_ret (v := .tuple #[.agg #[.slice none 0 0, .slice none 0 0, .slice none 0 0, .slice none 0 0, .slice none 0 0], .int .i64 0, .bool false]) (by simp [results, Tryz.results17, go_sem, rc]) rfl ?_
    rw [HR.out]
    exact givesDIO_none (K1.trans ((((((((Only.refl (fun b => b = w.heap.size + 1) w1).setCell (p := ⟨w.heap.size + 1, 0, none⟩) rfl (.slice none 0 0)).setCell (p := ⟨w.heap.size + 1, 1, none⟩) rfl (.slice none 0 0)).setCell (p := ⟨w.heap.size + 1, 2, none⟩) rfl (.slice none 0 0)).setCell (p := ⟨w.heap.size + 1, 3, none⟩) rfl (.slice none 0 0)).setCell (p := ⟨w.heap.size + 1, 4, none⟩) rfl (.slice none 0 0))).below (fun k hk => by omega) K1.size))
  have HR := Lib.hid (runP_some (d := d) (ss := ss) (by rw [g, HL.out]; exact decide_eq_true (by omega)))
  have hgt : ¬ (30 : Int) < (n : Int) := by omega
  have hgn : decide (30 < n) = false := decide_eq_false (by omega)
  have G := Lib.hid g
  have SM := deskB_small g
  have pc := P1.cell
  clear g
  go_wp2_with fail
  refine (l25OwnW_any h d _ (hs.below K1 (Nat.le_refl _)) hf).mono ?_
  rintro x w2 ⟨H, rfl, M, F, C3, C2, b2⟩
  have K2 := bel_then K1 b2
  have R2 := R1.next b2
  have z2 := b2.size
  have U : Below w2.heap.size w2 (w2.alloc (.cells #[.slice H.A0 H.n0 H.c0, .slice H.A1 H.n1 H.c1, .slice H.A2 H.n2 H.c2, .slice H.A3 H.n3 H.c3, .slice H.A4 H.n4 H.c4] 37)) := (Below.refl _ _).alloc (Nat.le_refl _) _
  have B3 : Blk (w2.alloc (.cells #[.slice H.A0 H.n0 H.c0, .slice H.A1 H.n1 H.c1, .slice H.A2 H.n2 H.c2, .slice H.A3 H.n3 H.c3, .slice H.A4 H.n4 H.c4] 37)) w2.heap.size 37 [.slice H.A0 H.n0 H.c0, .slice H.A1 H.n1 H.c1, .slice H.A2 H.n2 H.c2, .slice H.A3 H.n3 H.c3, .slice H.A4 H.n4 H.c4] := Blk.at_ rfl
  have K3 := bel_then K2 U
  have R3 := R2.next U
  have M3 := (M.next U).wide (T := fun b => b ≠ w2.heap.size ∧ w.heap.size + 2 ≤ b ∧ b < (w2.alloc (.cells #[.slice H.A0 H.n0 H.c0, .slice H.A1 H.n1 H.c1, .slice H.A2 H.n2 H.c2, .slice H.A3 H.n3 H.c3, .slice H.A4 H.n4 H.c4] 37)).heap.size) (fun b hb => ⟨by have := hb.2; omega, by have := hb.1; omega, Nat.lt_of_lt_of_le hb.2 U.size⟩)
  clear pc P1 K1 R1 M K2 R2 U b2 F hgt hgn
  have hg5 : w.heap.size + 2 ≤ w2.heap.size := by omega
  go_wp2_with fail
  generalize w2.alloc (.cells #[.slice H.A0 H.n0 H.c0, .slice H.A1 H.n1 H.c1, .slice H.A2 H.n2 H.c2, .slice H.A3 H.n3 H.c3, .slice H.A4 H.n4 H.c4] 37) = w3 at *
  generalize w2.heap.size = g5 at *
  go_loopw [8, 9] (fun cv iv wr => ∃ (h' : DeskH) (k c : Nat), k ≤ n ∧ iv = .int .i64 (k : Int) ∧ cv = .int .i64 (c : Int) ∧ c ≤ k ∧ Hid (c = (runK d ss k).2) ∧ Blk wr g5 37 [.slice h'.A0 h'.n0 h'.c0, .slice h'.A1 h'.n1 h'.c1, .slice h'.A2 h'.n2 h'.c2, .slice h'.A3 h'.n3 h'.c3, .slice h'.A4 h'.n4 h'.c4] ∧ MineW wr (fun b => b ≠ g5 ∧ w.heap.size + 2 ≤ b ∧ b < wr.heap.size) h' (runK d ss k).1 ∧ Blk wr (w.heap.size + 1) 37 [.slice none 0 0, .slice none 0 0, .slice none 0 0, .slice none 0 0, .slice none 0 0] ∧ Below w.heap.size w wr) (fun _ iv _ => n - (intOf iv).toNat)
  case atStart => exact ⟨H, 0, 0, Nat.zero_le _, rfl, rfl, Nat.le_refl _, Lib.hid rfl, B3, M3, R3, K3⟩
  case round =>
    obtain ⟨h', k, cn, hk, rfl, rfl, hck, HC, B, M, R, Kq⟩ := hrel
    clear B3 M3 R3 K3
    have bc := B.cell
    have hgl := B.lt
    by_cases hlt : k < n
    · obtain ⟨b4, off, B4a, m, e, hA, hkx, x0, x1, x2, x3, x4, x5, hin⟩ := SeesDeskStep.elem (hx.next Kq) hlt
      subst hA
      have hblt := World.block_lt_of_cell? wr _ x0
      have HN := Lib.hid (runK_next (d := d) hkx)
      have hm : m ≤ 1048576 := by
        have h1 := hin.count (by decide) (fun _ => rfl)
        have h2 := hi _ (List.getElem_mem hkx)
        unfold DeskStep.cnt at h2
        omega
      have hnp : (k : Int) < (n : Int) := by omega
      have GK := Lib.hid (runK_good (d := d) (ss := ss) G.out k)
      have SMK := Lib.hid (deskB_small GK.out)
      generalize ss[k] = s at *
      generalize B4a = B5 at *
      obtain ⟨hst1, hst2⟩ := step_same GK.out s
      have HS1 := Lib.hid hst1
      have HS2 := Lib.hid (fun (hb : stepB (runK d ss k).1 s = true) => hst2 hb)
      clear hst1 hst2
      go_wp2_with fail
      refine (l25Step_any B5 m e s _ hin hm).mono ?_
      cases hv : validS s
      · rintro x w4 ⟨rfl, b⟩
        have HE := Lib.hid (show runK d ss (k + 1) = runK d ss k by rw [HN.out]; unfold stepAcc; rw [HS1.out, hv]; rfl)
        have HV := Lib.hid hv
        have z4 := b.size
        clear hv bc x0 x1 x2 x3 x4 x5
        go_wp2_with fail
        go_roundw
        case rel => exact ⟨h', k + 1, cn, by omega, by go_num, rfl, by omega, Lib.hid (by rw [HE.out]; exact HC.out), B.next b, by rw [HE.out]; exact (M.next b).wide (fun b hb => ⟨hb.1, hb.2.1, by have := hb.2.2; omega⟩), R.next b, bel_then Kq b⟩
        case measure => simp [intOf]; omega
      rintro x w4 ⟨rfl, b⟩
      have HMB := Lib.hid (show makeB (runK d ss k).1 s = stepB (runK d ss k).1 s by rw [HS1.out, hv]; rfl)
      have HV := Lib.hid hv
      clear hv
      have zw4 := b.size
      have y0 := x0
      clear bc
      have Xq : ∀ i (v : Value), wr.cell? ⟨b4, off + k * 6 + i, none⟩ = some v → w4.cell? ⟨b4, off + k * 6 + i, none⟩ = some v := fun i v h => (cell_only (S := fun _ => False) (Only.of_below b) (fun h => h) hblt).trans h
      replace x0 := Xq 0 _ x0
      replace x1 := Xq 1 _ x1
      replace x2 := Xq 2 _ x2
      replace x3 := Xq 3 _ x3
      replace x4 := Xq 4 _ x4
      replace x5 := Xq 5 _ x5
      clear Xq y0
      replace B := B.next b
      replace R := R.next b
      replace M := (M.next b).wide (T := fun b => b ≠ g5 ∧ w.heap.size + 2 ≤ b ∧ b < w4.heap.size) (fun b hb => ⟨hb.1, hb.2.1, by have := hb.2.2; omega⟩)
      replace Kq := bel_then Kq b
      replace hin := hin.next b
      have hbl4 := World.block_lt_of_cell? w4 _ x0
      clear b hgl hblt
      have hgl := B.lt
      have hbx := hbl4
      have Kt := Below.refl w4.heap.size w4
      have b := (Quiet.one w4).below w4.heap.size
      replace x0 := (cell_only (S := fun _ => False) (Only.of_below b) (fun h => h) hbx).trans x0
      replace x1 := (cell_only (S := fun _ => False) (Only.of_below b) (fun h => h) hbx).trans x1
      replace x2 := (cell_only (S := fun _ => False) (Only.of_below b) (fun h => h) hbx).trans x2
      replace x3 := (cell_only (S := fun _ => False) (Only.of_below b) (fun h => h) hbx).trans x3
      replace x4 := (cell_only (S := fun _ => False) (Only.of_below b) (fun h => h) hbx).trans x4
      replace x5 := (cell_only (S := fun _ => False) (Only.of_below b) (fun h => h) hbx).trans x5
      replace hbx := Nat.lt_of_lt_of_le hbx b.size
      replace B := B.next b
      replace R := R.next b
      replace M := M.next b
      replace Kq := bel_then Kq b
      replace Kt := bel_then Kt b
      replace hin := hin.next b
      try (replace RB := RB.next b)
      have bc := B.cell
      try (have RBc := RB.cell)
      try (have RBf := RB.frozen)
      clear b
      have bc0 := B.cell
      go_wp2_with fail
      refine wp_region_held_drew (S := fun w' => w'.cell? ⟨g5, 0, none⟩ = some (.slice h'.A0 h'.n0 h'.c0) ∧ w'.cell? ⟨g5, 1, none⟩ = some (.slice h'.A1 h'.n1 h'.c1) ∧ w'.cell? ⟨g5, 2, none⟩ = some (.slice h'.A2 h'.n2 h'.c2) ∧ w'.cell? ⟨g5, 3, none⟩ = some (.slice h'.A3 h'.n3 h'.c3) ∧ w'.cell? ⟨g5, 4, none⟩ = some (.slice h'.A4 h'.n4 h'.c4) ∧ w'.cell? ⟨b4, off + k * 6, none⟩ = some (.int .i64 s.kind) ∧ w'.cell? ⟨b4, off + k * 6 + 1, none⟩ = some (.int .i64 s.number) ∧ w'.cell? ⟨b4, off + k * 6 + 2, none⟩ = some (.int .i64 s.cnumber) ∧ w'.cell? ⟨b4, off + k * 6 + 3, none⟩ = some (.int .i64 s.cstart) ∧ w'.cell? ⟨b4, off + k * 6 + 4, none⟩ = some (.int .i64 s.cfinish) ∧ w'.cell? ⟨b4, off + k * 6 + 5, none⟩ = some (.slice B5 m e)) (by kernel_rfl) (by (try dsimp only); exact ⟨bc 0, bc 1, bc 2, bc 3, bc 4, x0, x1, x2, x3, x4, x5⟩) (fun hHeld => ?_)
      generalize w4.drew = wz at *
      refine wpAnyH_take (i := 0) (v := ?_) rfl (by kernel_rfl) (by kernel_rfl) (by kernel_rfl) (fun _ _ _ h => h) (Or.inl ⟨by rfl, ?_⟩) (by assumption) ?_
      rotate_left 1
      · (intro w hSw; (try dsimp only at hSw); go_simp; try with_reducible rfl)
      simp only [Act.put, List.setIfInBounds_toArray, List.set_cons_zero, List.set_cons_succ, List.getElem_toArray, List.getElem_cons_zero]
      refine wpAnyH_take (i := 1) (v := ?_) rfl (by kernel_rfl) (by kernel_rfl) (by kernel_rfl) (fun _ _ _ h => h) (Or.inl ⟨by rfl, ?_⟩) (by assumption) ?_
      rotate_left 1
      · (intro w hSw; (try dsimp only at hSw); go_simp; try with_reducible rfl)
      simp only [Act.put, List.setIfInBounds_toArray, List.set_cons_zero, List.set_cons_succ, List.getElem_toArray, List.getElem_cons_zero, List.getElem_cons_succ]
      refine wpAnyH_take (i := 2) (v := ?_) rfl (by kernel_rfl) (by kernel_rfl) (by kernel_rfl) (fun _ _ _ h => h) (Or.inl ⟨by rfl, ?_⟩) (by assumption) ?_
      rotate_left 1
      · (intro w hSw; (try dsimp only at hSw); go_simp; try with_reducible rfl)
      simp only [Act.put, List.setIfInBounds_toArray, List.set_cons_zero, List.set_cons_succ, List.getElem_toArray, List.getElem_cons_zero, List.getElem_cons_succ]
      refine wpAnyH_take (i := 3) (v := ?_) rfl (by kernel_rfl) (by kernel_rfl) (by kernel_rfl) (fun _ _ _ h => h) (Or.inl ⟨by rfl, ?_⟩) (by assumption) ?_
      rotate_left 1
      · (intro w hSw; (try dsimp only at hSw); go_simp; try with_reducible rfl)
      simp only [Act.put, List.setIfInBounds_toArray, List.set_cons_zero, List.set_cons_succ, List.getElem_toArray, List.getElem_cons_zero, List.getElem_cons_succ]
      refine wpAnyH_take (i := 4) (v := ?_) rfl (by kernel_rfl) (by kernel_rfl) (by kernel_rfl) (fun _ _ _ h => h) (Or.inl ⟨by rfl, ?_⟩) (by assumption) ?_
      rotate_left 1
      · (intro w hSw; (try dsimp only at hSw); go_simp; try with_reducible rfl)
      simp only [Act.put, List.setIfInBounds_toArray, List.set_cons_zero, List.set_cons_succ, List.getElem_toArray, List.getElem_cons_zero, List.getElem_cons_succ]
      refine wpAnyH_ready (rs := [5, 9]) (by kernel_rfl) (by simp) ?_
      refine AllReadyH.cons rfl (fun K hK => ?_) ?_
      · go_simp
        have zlo := Kt.size
        try (have RLc := RB.lt)
        refine (l25Make_any h' (runK d ss k).1 B5 m e s _ M.desk.sees GK.out hin hm HV.out).mono ?_
        rw [HMB.out]
        rintro x wz ⟨h2, rfl, M2, C5, b⟩
        replace x0 := (cell_only (S := fun _ => False) (Only.of_below b) (fun h => h) hbx).trans x0
        replace x1 := (cell_only (S := fun _ => False) (Only.of_below b) (fun h => h) hbx).trans x1
        replace x2 := (cell_only (S := fun _ => False) (Only.of_below b) (fun h => h) hbx).trans x2
        replace x3 := (cell_only (S := fun _ => False) (Only.of_below b) (fun h => h) hbx).trans x3
        replace x4 := (cell_only (S := fun _ => False) (Only.of_below b) (fun h => h) hbx).trans x4
        replace x5 := (cell_only (S := fun _ => False) (Only.of_below b) (fun h => h) hbx).trans x5
        replace hbx := Nat.lt_of_lt_of_le hbx b.size
        replace B := B.next b
        replace R := R.next b
        replace M := M.next b
        replace Kq := bel_then Kq b
        replace Kt := bel_then Kt b
        replace hin := hin.next b
        try (replace RB := RB.next b)
        have bc := B.cell
        try (have RBc := RB.cell)
        try (have RBf := RB.frozen)
        have zhi := b.size
        clear b
        go_wp2_with fail
        refine hK.out _ _ (by (try dsimp only); exact ⟨bc 0, bc 1, bc 2, bc 3, bc 4, x0, x1, x2, x3, x4, x5⟩) (fun hHeld => ?_)
        clear hK K
        refine wpAnyH_take (i := 6) (v := ?_) rfl (by kernel_rfl) (by kernel_rfl) (by kernel_rfl) (fun _ _ _ h => h) (Or.inl ⟨by rfl, ?_⟩) (by assumption) ?_
        rotate_left 1
        · (intro w hSw; (try dsimp only at hSw); go_simp; try with_reducible rfl)
        simp only [Act.put, List.setIfInBounds_toArray, List.set_cons_zero, List.set_cons_succ, List.getElem_toArray, List.getElem_cons_zero, List.getElem_cons_succ]
        refine wpAnyH_take (i := 7) (v := ?_) rfl (by kernel_rfl) (by kernel_rfl) (by kernel_rfl) (fun _ _ _ h => h) (Or.inl ⟨by rfl, ?_⟩) (by assumption) ?_
        rotate_left 1
        · (intro w hSw; (try dsimp only at hSw); go_simp; try with_reducible rfl)
        simp only [Act.put, List.setIfInBounds_toArray, List.set_cons_zero, List.set_cons_succ, List.getElem_toArray, List.getElem_cons_zero, List.getElem_cons_succ]
        refine wpAnyH_take (i := 8) (v := ?_) rfl (by kernel_rfl) (by kernel_rfl) (by kernel_rfl) (fun _ _ _ h => h) (Or.inl ⟨by rfl, ?_⟩) (by assumption) ?_
        rotate_left 1
        · (intro w hSw; (try dsimp only at hSw); go_simp; try with_reducible rfl)
        simp only [Act.put, List.setIfInBounds_toArray, List.set_cons_zero, List.set_cons_succ, List.getElem_toArray, List.getElem_cons_zero, List.getElem_cons_succ]
        refine wpAnyH_ready (rs := [9]) (by kernel_rfl) (by simp) ?_
        refine AllReadyH.cons rfl (fun K hK => ?_) AllReadyH.nil
        go_simp
        have zg := Kt.size
        have b : Below wz.heap.size wz (wz.alloc (.cells #[.slice none 0 0, .slice none 0 0, .slice none 0 0, .slice none 0 0, .slice none 0 0] 37)) := (Below.refl _ _).alloc (Nat.le_refl _) _
        try (replace M2 := M2.next b)
        replace x0 := (cell_only (S := fun _ => False) (Only.of_below b) (fun h => h) hbx).trans x0
        replace x1 := (cell_only (S := fun _ => False) (Only.of_below b) (fun h => h) hbx).trans x1
        replace x2 := (cell_only (S := fun _ => False) (Only.of_below b) (fun h => h) hbx).trans x2
        replace x3 := (cell_only (S := fun _ => False) (Only.of_below b) (fun h => h) hbx).trans x3
        replace x4 := (cell_only (S := fun _ => False) (Only.of_below b) (fun h => h) hbx).trans x4
        replace x5 := (cell_only (S := fun _ => False) (Only.of_below b) (fun h => h) hbx).trans x5
        replace hbx := Nat.lt_of_lt_of_le hbx b.size
        replace B := B.next b
        replace R := R.next b
        replace M := M.next b
        replace Kq := bel_then Kq b
        replace Kt := bel_then Kt b
        replace hin := hin.next b
        try (replace RB := RB.next b)
        have bc := B.cell
        try (have RBc := RB.cell)
        try (have RBf := RB.frozen)
        have RB : Blk (wz.alloc (.cells #[.slice none 0 0, .slice none 0 0, .slice none 0 0, .slice none 0 0, .slice none 0 0] 37)) wz.heap.size 37 [.slice none 0 0, .slice none 0 0, .slice none 0 0, .slice none 0 0, .slice none 0 0] := Blk.at_ rfl
        have RBc := RB.cell
        have RBf := RB.frozen
        have RL := RB.lt
        clear b
        generalize wz.heap.size = gR at *
        generalize wz.alloc (.cells #[.slice none 0 0, .slice none 0 0, .slice none 0 0, .slice none 0 0, .slice none 0 0] 37) = wz at *
        refine hK.out _ _ (by (try dsimp only); exact ⟨bc 0, bc 1, bc 2, bc 3, bc 4, x0, x1, x2, x3, x4, x5⟩) (fun hHeld => ?_)
        clear hK K
        try simp only [Act.put, List.setIfInBounds_toArray, List.set_cons_zero, List.set_cons_succ, List.getElem_toArray, List.getElem_cons_zero, List.getElem_cons_succ]
        refine wpAnyH_ready (rs := [10]) (by kernel_rfl) (by simp) ?_
        refine AllReadyH.cons rfl (fun K hK => ?_) AllReadyH.nil
        go_simp
        refine hK.out _ _ (by (try dsimp only); have E := ((((((Only.refl (fun b => b = gR) wz).setCell (p := ⟨gR, 0, none⟩) rfl (.slice h2.A0 h2.n0 h2.c0)).setCell (p := ⟨gR, 1, none⟩) rfl (.slice h2.A1 h2.n1 h2.c1)).setCell (p := ⟨gR, 2, none⟩) rfl (.slice h2.A2 h2.n2 h2.c2)).setCell (p := ⟨gR, 3, none⟩) rfl (.slice h2.A3 h2.n3 h2.c3)).setCell (p := ⟨gR, 4, none⟩) rfl (.slice h2.A4 h2.n4 h2.c4)); exact ⟨(B.only E (fun h => by omega)).cell 0, (B.only E (fun h => by omega)).cell 1, (B.only E (fun h => by omega)).cell 2, (B.only E (fun h => by omega)).cell 3, (B.only E (fun h => by omega)).cell 4, (cell_only E (fun (h : _ = _) => by omega) hbx).trans x0, (cell_only E (fun (h : _ = _) => by omega) hbx).trans x1, (cell_only E (fun (h : _ = _) => by omega) hbx).trans x2, (cell_only E (fun (h : _ = _) => by omega) hbx).trans x3, (cell_only E (fun (h : _ = _) => by omega) hbx).trans x4, (cell_only E (fun (h : _ = _) => by omega) hbx).trans x5⟩) (fun hHeld => ?_)
        clear hK K
        try simp only [Act.put, List.setIfInBounds_toArray, List.set_cons_zero, List.set_cons_succ, List.getElem_toArray, List.getElem_cons_zero, List.getElem_cons_succ]
        refine wpAnyH_take (i := 11) (v := ?_) rfl (by kernel_rfl) (by kernel_rfl) (by kernel_rfl) (fun _ _ _ h => h) (Or.inl ⟨by rfl, ?_⟩) (by assumption) ?_
        rotate_left 1
        · (intro w hSw; (try dsimp only at hSw); go_simp; try with_reducible rfl)
        simp only [Act.put, List.setIfInBounds_toArray, List.set_cons_zero, List.set_cons_succ, List.getElem_toArray, List.getElem_cons_zero, List.getElem_cons_succ]
        refine wpAnyH_done (by kernel_rfl) ?_ _
        have E1 := ((((((Only.refl (fun b => b = gR) wz).setCell (p := ⟨gR, 0, none⟩) rfl (.slice h2.A0 h2.n0 h2.c0)).setCell (p := ⟨gR, 1, none⟩) rfl (.slice h2.A1 h2.n1 h2.c1)).setCell (p := ⟨gR, 2, none⟩) rfl (.slice h2.A2 h2.n2 h2.c2)).setCell (p := ⟨gR, 3, none⟩) rfl (.slice h2.A3 h2.n3 h2.c3)).setCell (p := ⟨gR, 4, none⟩) rfl (.slice h2.A4 h2.n4 h2.c4))
        have zE1 := E1.size
        have zKt := Kt.size
        have hbg := B.lt
        have RLz := RB.lt
        have RBz : Blk (((((wz.setCell ⟨gR, 0, none⟩ (.slice h2.A0 h2.n0 h2.c0)).setCell ⟨gR, 1, none⟩ (.slice h2.A1 h2.n1 h2.c1)).setCell ⟨gR, 2, none⟩ (.slice h2.A2 h2.n2 h2.c2)).setCell ⟨gR, 3, none⟩ (.slice h2.A3 h2.n3 h2.c3)).setCell ⟨gR, 4, none⟩ (.slice h2.A4 h2.n4 h2.c4)) gR 37 [.slice h2.A0 h2.n0 h2.c0, .slice h2.A1 h2.n1 h2.c1, .slice h2.A2 h2.n2 h2.c2, .slice h2.A3 h2.n3 h2.c3, .slice h2.A4 h2.n4 h2.c4] := (((((RB.set_ 0 (.slice h2.A0 h2.n0 h2.c0)).set_ 1 (.slice h2.A1 h2.n1 h2.c1)).set_ 2 (.slice h2.A2 h2.n2 h2.c2)).set_ 3 (.slice h2.A3 h2.n3 h2.c3)).set_ 4 (.slice h2.A4 h2.n4 h2.c4))
        replace M2 := M2.only E1 (fun b h1 (h2 : b = gR) => by have := h1.1; have := h1.2; omega)
        replace B := B.only E1 (fun h => by omega)
        replace R := R.only E1 (fun h => by omega)
        replace M := M.only E1 (fun b h1 (h2 : b = gR) => by have := h1.2.2; omega)
        replace Kq := Kq.trans (E1.below (fun b hb => by omega) Kq.size)
        clear E1 bc bc0 x0 x1 x2 x3 x4 x5 RBc RBf RB hin
        generalize (((((wz.setCell ⟨gR, 0, none⟩ (.slice h2.A0 h2.n0 h2.c0)).setCell ⟨gR, 1, none⟩ (.slice h2.A1 h2.n1 h2.c1)).setCell ⟨gR, 2, none⟩ (.slice h2.A2 h2.n2 h2.c2)).setCell ⟨gR, 3, none⟩ (.slice h2.A3 h2.n3 h2.c3)).setCell ⟨gR, 4, none⟩ (.slice h2.A4 h2.n4 h2.c4)) = wy at *
        have bn := B.cell
        have bf := B.frozen
        have hgn := B.lt
        have rz := RBz.cell
        have zRz := RBz.lt
        cases hb : stepB (runK d ss k).1 s
        · have HE := Lib.hid (show runK d ss (k + 1) = runK d ss k by rw [HN.out]; unfold stepAcc; rw [hb]; rfl)
          have HB := Lib.hid hb
          clear hb
          go_wp2_with fail
          go_roundw
          case rel => exact ⟨h', k + 1, cn, by omega, by go_num, rfl, by omega, Lib.hid (by rw [HE.out]; exact HC.out), B, by rw [HE.out]; exact M.wide (fun b hb => ⟨hb.1, hb.2.1, by have := hb.2.2; omega⟩), R, Kq⟩
          case measure => simp [intOf]; omega
        have HE := Lib.hid (show runK d ss (k + 1) = (stepOut (runK d ss k).1 s, (runK d ss k).2 + 1) by rw [HN.out]; unfold stepAcc; rw [hb]; rfl)
        have HO := Lib.hid (HS2.out hb)
        have HB := Lib.hid hb
        clear hb
        have E := ((((((Only.refl (fun b => b = g5) wy).setCell (p := ⟨g5, 0, none⟩) rfl (.slice h2.A0 h2.n0 h2.c0)).setCell (p := ⟨g5, 1, none⟩) rfl (.slice h2.A1 h2.n1 h2.c1)).setCell (p := ⟨g5, 2, none⟩) rfl (.slice h2.A2 h2.n2 h2.c2)).setCell (p := ⟨g5, 3, none⟩) rfl (.slice h2.A3 h2.n3 h2.c3)).setCell (p := ⟨g5, 4, none⟩) rfl (.slice h2.A4 h2.n4 h2.c4))
        have zE := E.size
        have Bz : Blk (((((wy.setCell ⟨g5, 0, none⟩ (.slice h2.A0 h2.n0 h2.c0)).setCell ⟨g5, 1, none⟩ (.slice h2.A1 h2.n1 h2.c1)).setCell ⟨g5, 2, none⟩ (.slice h2.A2 h2.n2 h2.c2)).setCell ⟨g5, 3, none⟩ (.slice h2.A3 h2.n3 h2.c3)).setCell ⟨g5, 4, none⟩ (.slice h2.A4 h2.n4 h2.c4)) g5 37 [.slice h2.A0 h2.n0 h2.c0, .slice h2.A1 h2.n1 h2.c1, .slice h2.A2 h2.n2 h2.c2, .slice h2.A3 h2.n3 h2.c3, .slice h2.A4 h2.n4 h2.c4] := (((((B.set_ 0 (.slice h2.A0 h2.n0 h2.c0)).set_ 1 (.slice h2.A1 h2.n1 h2.c1)).set_ 2 (.slice h2.A2 h2.n2 h2.c2)).set_ 3 (.slice h2.A3 h2.n3 h2.c3)).set_ 4 (.slice h2.A4 h2.n4 h2.c4))
        have Mz := M2.only E (fun b h1 (h2 : b = g5) => by have := h1.1; omega)
        have Rz := R.only E (fun h => by omega)
        have Kz := Kq.trans (E.below (fun b hb => by omega) Kq.size)
        have hc1 : (cn : Int) + 1 ≤ 1000000000 := by omega
        go_wp2_with fail
        go_roundw
        case rel => exact ⟨h2, k + 1, cn + 1, by omega, by go_num, by go_num, by omega, Lib.hid (by rw [HE.out, HC.out]), Bz, by rw [HE.out, HO.out]; exact Mz.wide (fun b hb => ⟨by have := hb.1; omega, by have := hb.1; omega, by have := hb.2; omega⟩), Rz, Kz⟩
        case measure => simp [intOf]; omega
      refine AllReadyH.cons rfl (fun K hK => ?_) AllReadyH.nil
      · go_simp
        have zg := Kt.size
        have b : Below wz.heap.size wz (wz.alloc (.cells #[.slice none 0 0, .slice none 0 0, .slice none 0 0, .slice none 0 0, .slice none 0 0] 37)) := (Below.refl _ _).alloc (Nat.le_refl _) _
        try (replace M2 := M2.next b)
        replace x0 := (cell_only (S := fun _ => False) (Only.of_below b) (fun h => h) hbx).trans x0
        replace x1 := (cell_only (S := fun _ => False) (Only.of_below b) (fun h => h) hbx).trans x1
        replace x2 := (cell_only (S := fun _ => False) (Only.of_below b) (fun h => h) hbx).trans x2
        replace x3 := (cell_only (S := fun _ => False) (Only.of_below b) (fun h => h) hbx).trans x3
        replace x4 := (cell_only (S := fun _ => False) (Only.of_below b) (fun h => h) hbx).trans x4
        replace x5 := (cell_only (S := fun _ => False) (Only.of_below b) (fun h => h) hbx).trans x5
        replace hbx := Nat.lt_of_lt_of_le hbx b.size
        replace B := B.next b
        replace R := R.next b
        replace M := M.next b
        replace Kq := bel_then Kq b
        replace Kt := bel_then Kt b
        replace hin := hin.next b
        try (replace RB := RB.next b)
        have bc := B.cell
        try (have RBc := RB.cell)
        try (have RBf := RB.frozen)
        have RB : Blk (wz.alloc (.cells #[.slice none 0 0, .slice none 0 0, .slice none 0 0, .slice none 0 0, .slice none 0 0] 37)) wz.heap.size 37 [.slice none 0 0, .slice none 0 0, .slice none 0 0, .slice none 0 0, .slice none 0 0] := Blk.at_ rfl
        have RBc := RB.cell
        have RBf := RB.frozen
        have RL := RB.lt
        clear b
        generalize wz.heap.size = gR at *
        generalize wz.alloc (.cells #[.slice none 0 0, .slice none 0 0, .slice none 0 0, .slice none 0 0, .slice none 0 0] 37) = wz at *
        refine hK.out _ _ (by (try dsimp only); exact ⟨bc 0, bc 1, bc 2, bc 3, bc 4, x0, x1, x2, x3, x4, x5⟩) (fun hHeld => ?_)
        clear hK K
        try simp only [Act.put, List.setIfInBounds_toArray, List.set_cons_zero, List.set_cons_succ, List.getElem_toArray, List.getElem_cons_zero, List.getElem_cons_succ]
        refine wpAnyH_ready (rs := [5]) (by kernel_rfl) (by simp) ?_
        refine AllReadyH.cons rfl (fun K hK => ?_) AllReadyH.nil
        go_simp
        have zlo := Kt.size
        try (have RLc := RB.lt)
        refine (l25Make_any h' (runK d ss k).1 B5 m e s _ M.desk.sees GK.out hin hm HV.out).mono ?_
        rw [HMB.out]
        rintro x wz ⟨h2, rfl, M2, C5, b⟩
        replace x0 := (cell_only (S := fun _ => False) (Only.of_below b) (fun h => h) hbx).trans x0
        replace x1 := (cell_only (S := fun _ => False) (Only.of_below b) (fun h => h) hbx).trans x1
        replace x2 := (cell_only (S := fun _ => False) (Only.of_below b) (fun h => h) hbx).trans x2
        replace x3 := (cell_only (S := fun _ => False) (Only.of_below b) (fun h => h) hbx).trans x3
        replace x4 := (cell_only (S := fun _ => False) (Only.of_below b) (fun h => h) hbx).trans x4
        replace x5 := (cell_only (S := fun _ => False) (Only.of_below b) (fun h => h) hbx).trans x5
        replace hbx := Nat.lt_of_lt_of_le hbx b.size
        replace B := B.next b
        replace R := R.next b
        replace M := M.next b
        replace Kq := bel_then Kq b
        replace Kt := bel_then Kt b
        replace hin := hin.next b
        try (replace RB := RB.next b)
        have bc := B.cell
        try (have RBc := RB.cell)
        try (have RBf := RB.frozen)
        have zhi := b.size
        clear b
        go_wp2_with fail
        refine hK.out _ _ (by (try dsimp only); exact ⟨bc 0, bc 1, bc 2, bc 3, bc 4, x0, x1, x2, x3, x4, x5⟩) (fun hHeld => ?_)
        clear hK K
        refine wpAnyH_take (i := 6) (v := ?_) rfl (by kernel_rfl) (by kernel_rfl) (by kernel_rfl) (fun _ _ _ h => h) (Or.inl ⟨by rfl, ?_⟩) (by assumption) ?_
        rotate_left 1
        · (intro w hSw; (try dsimp only at hSw); go_simp; try with_reducible rfl)
        simp only [Act.put, List.setIfInBounds_toArray, List.set_cons_zero, List.set_cons_succ, List.getElem_toArray, List.getElem_cons_zero, List.getElem_cons_succ]
        refine wpAnyH_take (i := 7) (v := ?_) rfl (by kernel_rfl) (by kernel_rfl) (by kernel_rfl) (fun _ _ _ h => h) (Or.inl ⟨by rfl, ?_⟩) (by assumption) ?_
        rotate_left 1
        · (intro w hSw; (try dsimp only at hSw); go_simp; try with_reducible rfl)
        simp only [Act.put, List.setIfInBounds_toArray, List.set_cons_zero, List.set_cons_succ, List.getElem_toArray, List.getElem_cons_zero, List.getElem_cons_succ]
        refine wpAnyH_take (i := 8) (v := ?_) rfl (by kernel_rfl) (by kernel_rfl) (by kernel_rfl) (fun _ _ _ h => h) (Or.inl ⟨by rfl, ?_⟩) (by assumption) ?_
        rotate_left 1
        · (intro w hSw; (try dsimp only at hSw); go_simp; try with_reducible rfl)
        simp only [Act.put, List.setIfInBounds_toArray, List.set_cons_zero, List.set_cons_succ, List.getElem_toArray, List.getElem_cons_zero, List.getElem_cons_succ]
        refine wpAnyH_ready (rs := [10]) (by kernel_rfl) (by simp) ?_
        refine AllReadyH.cons rfl (fun K hK => ?_) AllReadyH.nil
        go_simp
        refine hK.out _ _ (by (try dsimp only); have E := ((((((Only.refl (fun b => b = gR) wz).setCell (p := ⟨gR, 0, none⟩) rfl (.slice h2.A0 h2.n0 h2.c0)).setCell (p := ⟨gR, 1, none⟩) rfl (.slice h2.A1 h2.n1 h2.c1)).setCell (p := ⟨gR, 2, none⟩) rfl (.slice h2.A2 h2.n2 h2.c2)).setCell (p := ⟨gR, 3, none⟩) rfl (.slice h2.A3 h2.n3 h2.c3)).setCell (p := ⟨gR, 4, none⟩) rfl (.slice h2.A4 h2.n4 h2.c4)); exact ⟨(B.only E (fun h => by omega)).cell 0, (B.only E (fun h => by omega)).cell 1, (B.only E (fun h => by omega)).cell 2, (B.only E (fun h => by omega)).cell 3, (B.only E (fun h => by omega)).cell 4, (cell_only E (fun (h : _ = _) => by omega) hbx).trans x0, (cell_only E (fun (h : _ = _) => by omega) hbx).trans x1, (cell_only E (fun (h : _ = _) => by omega) hbx).trans x2, (cell_only E (fun (h : _ = _) => by omega) hbx).trans x3, (cell_only E (fun (h : _ = _) => by omega) hbx).trans x4, (cell_only E (fun (h : _ = _) => by omega) hbx).trans x5⟩) (fun hHeld => ?_)
        clear hK K
        try simp only [Act.put, List.setIfInBounds_toArray, List.set_cons_zero, List.set_cons_succ, List.getElem_toArray, List.getElem_cons_zero, List.getElem_cons_succ]
        refine wpAnyH_take (i := 11) (v := ?_) rfl (by kernel_rfl) (by kernel_rfl) (by kernel_rfl) (fun _ _ _ h => h) (Or.inl ⟨by rfl, ?_⟩) (by assumption) ?_
        rotate_left 1
        · (intro w hSw; (try dsimp only at hSw); go_simp; try with_reducible rfl)
        simp only [Act.put, List.setIfInBounds_toArray, List.set_cons_zero, List.set_cons_succ, List.getElem_toArray, List.getElem_cons_zero, List.getElem_cons_succ]
        refine wpAnyH_done (by kernel_rfl) ?_ _
        have E1 := ((((((Only.refl (fun b => b = gR) wz).setCell (p := ⟨gR, 0, none⟩) rfl (.slice h2.A0 h2.n0 h2.c0)).setCell (p := ⟨gR, 1, none⟩) rfl (.slice h2.A1 h2.n1 h2.c1)).setCell (p := ⟨gR, 2, none⟩) rfl (.slice h2.A2 h2.n2 h2.c2)).setCell (p := ⟨gR, 3, none⟩) rfl (.slice h2.A3 h2.n3 h2.c3)).setCell (p := ⟨gR, 4, none⟩) rfl (.slice h2.A4 h2.n4 h2.c4))
        have zE1 := E1.size
        have zKt := Kt.size
        have hbg := B.lt
        have RLz := RB.lt
        have RBz : Blk (((((wz.setCell ⟨gR, 0, none⟩ (.slice h2.A0 h2.n0 h2.c0)).setCell ⟨gR, 1, none⟩ (.slice h2.A1 h2.n1 h2.c1)).setCell ⟨gR, 2, none⟩ (.slice h2.A2 h2.n2 h2.c2)).setCell ⟨gR, 3, none⟩ (.slice h2.A3 h2.n3 h2.c3)).setCell ⟨gR, 4, none⟩ (.slice h2.A4 h2.n4 h2.c4)) gR 37 [.slice h2.A0 h2.n0 h2.c0, .slice h2.A1 h2.n1 h2.c1, .slice h2.A2 h2.n2 h2.c2, .slice h2.A3 h2.n3 h2.c3, .slice h2.A4 h2.n4 h2.c4] := (((((RB.set_ 0 (.slice h2.A0 h2.n0 h2.c0)).set_ 1 (.slice h2.A1 h2.n1 h2.c1)).set_ 2 (.slice h2.A2 h2.n2 h2.c2)).set_ 3 (.slice h2.A3 h2.n3 h2.c3)).set_ 4 (.slice h2.A4 h2.n4 h2.c4))
        replace M2 := M2.only E1 (fun b h1 (h2 : b = gR) => by have := h1.1; have := h1.2; omega)
        replace B := B.only E1 (fun h => by omega)
        replace R := R.only E1 (fun h => by omega)
        replace M := M.only E1 (fun b h1 (h2 : b = gR) => by have := h1.2.2; omega)
        replace Kq := Kq.trans (E1.below (fun b hb => by omega) Kq.size)
        clear E1 bc bc0 x0 x1 x2 x3 x4 x5 RBc RBf RB hin
        generalize (((((wz.setCell ⟨gR, 0, none⟩ (.slice h2.A0 h2.n0 h2.c0)).setCell ⟨gR, 1, none⟩ (.slice h2.A1 h2.n1 h2.c1)).setCell ⟨gR, 2, none⟩ (.slice h2.A2 h2.n2 h2.c2)).setCell ⟨gR, 3, none⟩ (.slice h2.A3 h2.n3 h2.c3)).setCell ⟨gR, 4, none⟩ (.slice h2.A4 h2.n4 h2.c4)) = wy at *
        have bn := B.cell
        have bf := B.frozen
        have hgn := B.lt
        have rz := RBz.cell
        have zRz := RBz.lt
        cases hb : stepB (runK d ss k).1 s
        · have HE := Lib.hid (show runK d ss (k + 1) = runK d ss k by rw [HN.out]; unfold stepAcc; rw [hb]; rfl)
          have HB := Lib.hid hb
          clear hb
          go_wp2_with fail
          go_roundw
          case rel => exact ⟨h', k + 1, cn, by omega, by go_num, rfl, by omega, Lib.hid (by rw [HE.out]; exact HC.out), B, by rw [HE.out]; exact M.wide (fun b hb => ⟨hb.1, hb.2.1, by have := hb.2.2; omega⟩), R, Kq⟩
          case measure => simp [intOf]; omega
        have HE := Lib.hid (show runK d ss (k + 1) = (stepOut (runK d ss k).1 s, (runK d ss k).2 + 1) by rw [HN.out]; unfold stepAcc; rw [hb]; rfl)
        have HO := Lib.hid (HS2.out hb)
        have HB := Lib.hid hb
        clear hb
        have E := ((((((Only.refl (fun b => b = g5) wy).setCell (p := ⟨g5, 0, none⟩) rfl (.slice h2.A0 h2.n0 h2.c0)).setCell (p := ⟨g5, 1, none⟩) rfl (.slice h2.A1 h2.n1 h2.c1)).setCell (p := ⟨g5, 2, none⟩) rfl (.slice h2.A2 h2.n2 h2.c2)).setCell (p := ⟨g5, 3, none⟩) rfl (.slice h2.A3 h2.n3 h2.c3)).setCell (p := ⟨g5, 4, none⟩) rfl (.slice h2.A4 h2.n4 h2.c4))
        have zE := E.size
        have Bz : Blk (((((wy.setCell ⟨g5, 0, none⟩ (.slice h2.A0 h2.n0 h2.c0)).setCell ⟨g5, 1, none⟩ (.slice h2.A1 h2.n1 h2.c1)).setCell ⟨g5, 2, none⟩ (.slice h2.A2 h2.n2 h2.c2)).setCell ⟨g5, 3, none⟩ (.slice h2.A3 h2.n3 h2.c3)).setCell ⟨g5, 4, none⟩ (.slice h2.A4 h2.n4 h2.c4)) g5 37 [.slice h2.A0 h2.n0 h2.c0, .slice h2.A1 h2.n1 h2.c1, .slice h2.A2 h2.n2 h2.c2, .slice h2.A3 h2.n3 h2.c3, .slice h2.A4 h2.n4 h2.c4] := (((((B.set_ 0 (.slice h2.A0 h2.n0 h2.c0)).set_ 1 (.slice h2.A1 h2.n1 h2.c1)).set_ 2 (.slice h2.A2 h2.n2 h2.c2)).set_ 3 (.slice h2.A3 h2.n3 h2.c3)).set_ 4 (.slice h2.A4 h2.n4 h2.c4))
        have Mz := M2.only E (fun b h1 (h2 : b = g5) => by have := h1.1; omega)
        have Rz := R.only E (fun h => by omega)
        have Kz := Kq.trans (E.below (fun b hb => by omega) Kq.size)
        have hc1 : (cn : Int) + 1 ≤ 1000000000 := by omega
        go_wp2_with fail
        go_roundw
        case rel => exact ⟨h2, k + 1, cn + 1, by omega, by go_num, by go_num, by omega, Lib.hid (by rw [HE.out, HC.out]), Bz, by rw [HE.out, HO.out]; exact Mz.wide (fun b hb => ⟨by have := hb.1; omega, by have := hb.1; omega, by have := hb.2; omega⟩), Rz, Kz⟩
        case measure => simp [intOf]; omega
    · obtain rfl : k = n := by omega
      have rc := R.cell
      have rf := R.frozen
      have hnp : ¬ (k : Int) < (k : Int) := by omega
      have HM := Lib.hid (show runP d ss = (some (runK d ss k).1, (cn : Int)) by rw [HR.out, HL.out, HC.out])
      clear hx hi
      go_wp2_with fail
      refine bodyPost_ret (v := .tuple #[.agg #[.slice h'.A0 h'.n0 h'.c0, .slice h'.A1 h'.n1 h'.c1, .slice h'.A2 h'.n2 h'.c2, .slice h'.A3 h'.n3 h'.c3, .slice h'.A4 h'.n4 h'.c4], .int .i64 (cn : Int), .bool true]) (by simp [results, Tryz.results17, go_sem, rc]) rfl ?_
      rw [HM.out]
      have E := ((((((Only.refl (fun b => b = w.heap.size + 1) wr).setCell (p := ⟨w.heap.size + 1, 0, none⟩) rfl (.slice h'.A0 h'.n0 h'.c0)).setCell (p := ⟨w.heap.size + 1, 1, none⟩) rfl (.slice h'.A1 h'.n1 h'.c1)).setCell (p := ⟨w.heap.size + 1, 2, none⟩) rfl (.slice h'.A2 h'.n2 h'.c2)).setCell (p := ⟨w.heap.size + 1, 3, none⟩) rfl (.slice h'.A3 h'.n3 h'.c3)).setCell (p := ⟨w.heap.size + 1, 4, none⟩) rfl (.slice h'.A4 h'.n4 h'.c4))
      have zF := E.size
      have M4 := M.only E (fun b h1 h2 => by have := h1.2.1; omega)
      exact ⟨h', rfl, (M4.wide (fun b hb => by have := hb.2.1; have := hb.2.2; exact ⟨by omega, by omega⟩)).desk, (deskB_small (runK_good G.out _)).fit M.desk.sees (by decide) (by decide), M.cap3, Kq.trans (E.below (fun k hk => by omega) Kq.size)⟩

end Go.Proofs.YtkchdhmnomelkaaGreat
