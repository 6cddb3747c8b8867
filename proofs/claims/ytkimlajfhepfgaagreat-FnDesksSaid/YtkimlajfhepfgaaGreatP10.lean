/- Joined texts of this proof: StepDD. -/
import Derived.Deep.CutBlock
import Derived.Test.YtkimlajfhepfgaaGreatP06
import Derived.Test.YtkimlajfhepfgaaGreatP02
import Derived.Test.YtkimlajfhepfgaaGreatP07
import Derived.Test.YtkimlajfhepfgaaGreatP09
namespace Go.Proofs.YtkimlajfhepfgaaGreat
open Go.RowKit

set_option maxRecDepth 100000 in
set_option maxHeartbeats 4000000 in
theorem l25Step_any (A : Option Addr) (n c : Nat) (s : DeskStep) (w : World) (hx : Sees w 0 2 A n (s.card.punches.flatMap Punch.enc)) (hn : n ≤ 1048576) :
    Calls Tryz.prog 36 #[.agg #[.int .i64 s.kind, .int .i64 s.number, .int .i64 s.cnumber, .int .i64 s.cstart, .int .i64 s.cfinish, .slice A n c]] w fun e w' => e = .returned (.bool (validS s)) ∧ Below w.heap.size w w' := by
  have K0 : Below w.heap.size w (w.alloc (.cells #[.int .i64 s.kind, .int .i64 s.number, .int .i64 s.cnumber, .int .i64 s.cstart, .int .i64 s.cfinish, .slice A n c] 33)) := (Below.refl _ _).alloc (Nat.le_refl _) _
  have P : Blk (w.alloc (.cells #[.int .i64 s.kind, .int .i64 s.number, .int .i64 s.cnumber, .int .i64 s.cstart, .int .i64 s.cfinish, .slice A n c] 33)) w.heap.size 33 [.int .i64 s.kind, .int .i64 s.number, .int .i64 s.cnumber, .int .i64 s.cstart, .int .i64 s.cfinish, .slice A n c] := Blk.at_ rfl
  have X := hx.next K0
  go_enter Tryz.func36, Tryz.ntmps36
  go_upto_block 0 with fail
  generalize w.alloc (.cells #[.int .i64 s.kind, .int .i64 s.number, .int .i64 s.cnumber, .int .i64 s.cstart, .int .i64 s.cfinish, .slice A n c] 33) = w3 at *
  have pb := P.cell
  by_cases k1 : s.kind = 1
  · have HV := Lib.hid (show validS s = (decide (s.number = 0) && finB s.card) by unfold validS; rw [if_pos k1])
    have f1 : (s.kind == 1) = true := beq_iff_eq.2 k1
    clear k1
    by_cases n0 : s.number = 0
    rotate_left 1
    · have f2 : (s.number == 0) = false := beq_eq_false_iff_ne.2 n0
      have HR := Lib.hid (show validS s = false by rw [HV.out]; simp [n0])
      clear n0 HV
      go_wp2_with fail
      go_ret
      exact ⟨ret_bool HR.out.symm, K0⟩
    have f2 : (s.number == 0) = true := beq_iff_eq.2 n0
    cases hc : cardB s.card
    · have HR := Lib.hid (show validS s = false by rw [HV.out]; unfold finB; rw [hc]; simp)
      have HC := Lib.hid hc
      clear n0 HV hc
      go_wp2_with (go_at_call 80
                   refine (l12Card_any A n c 0 s.card _ X hn).mono ?_
                   rw [HC.out]
                   rintro e w4 ⟨rfl, b⟩
                   replace P := P.next b
                   clear pb
                   have pb := P.cell
                   replace K0 := bel_then K0 b
                   clear b)
      go_ret
      exact ⟨ret_bool HR.out.symm, K0⟩
    have HR := Lib.hid (show validS s = decide (s.card.finish ≠ -1) by rw [HV.out]; unfold finB; rw [hc]; simp [n0])
    have HC := Lib.hid hc
    clear n0 HV hc
    by_cases hf : s.cfinish = -1
    · have f3 : (s.cfinish == -1) = true := beq_iff_eq.2 hf
      have f4 : (s.cfinish != -1) = false := by simp [hf]
      have HR2 := Lib.hid (show validS s = false by rw [HR.out]; exact decide_eq_false (fun h => h hf))
      clear hf
      go_wp2_with (go_at_call 80
                   refine (l12Card_any A n c 0 s.card _ X hn).mono ?_
                   rw [HC.out]
                   rintro e w4 ⟨rfl, b⟩
                   replace P := P.next b
                   clear pb
                   have pb := P.cell
                   replace K0 := bel_then K0 b
                   clear b)
      go_ret
      exact ⟨ret_bool HR2.out.symm, K0⟩
    · have f3 : (s.cfinish == -1) = false := beq_eq_false_iff_ne.2 hf
      have f4 : (s.cfinish != -1) = true := by simp [hf]
      have HR2 := Lib.hid (show validS s = true by rw [HR.out]; exact decide_eq_true hf)
      clear hf
      go_wp2_with (go_at_call 80
                   refine (l12Card_any A n c 0 s.card _ X hn).mono ?_
                   rw [HC.out]
                   rintro e w4 ⟨rfl, b⟩
                   replace P := P.next b
                   clear pb
                   have pb := P.cell
                   replace K0 := bel_then K0 b
                   clear b)
      go_ret
      exact ⟨ret_bool HR2.out.symm, K0⟩
  have f1 : (s.kind == 1) = false := beq_eq_false_iff_ne.2 k1
  by_cases k2 : s.kind = 2
  · have HV := Lib.hid (show validS s = (decide (s.number = 0) && zeroB s.card) by unfold validS; rw [if_neg k1, if_pos k2])
    have f2 : (s.kind == 2) = true := beq_iff_eq.2 k2
    clear k1 k2
    by_cases n0 : s.number = 0
    rotate_left 1
    · have f3 : (s.number == 0) = false := beq_eq_false_iff_ne.2 n0
      have HR := Lib.hid (show validS s = false by rw [HV.out]; simp [n0])
      clear n0 HV
      go_wp2_with fail
      go_ret
      exact ⟨ret_bool HR.out.symm, K0⟩
    have f3 : (s.number == 0) = true := beq_iff_eq.2 n0
    have HR := Lib.hid (show validS s = zeroB s.card by rw [HV.out]; simp [n0])
    clear n0 HV
    obtain ⟨zb, hz⟩ : ∃ zb, zeroB s.card = zb := ⟨_, rfl⟩
    have HZ := Lib.hid hz
    have HR2 := Lib.hid (HR.out.trans hz)
    clear hz HR
    go_wp2_with (go_at_call 81
                 refine (l21None_any A n c 0 s.card _ X).mono ?_
                 rw [HZ.out]
                 rintro e w4 ⟨rfl, b⟩
                 replace K0 := bel_then K0 b
                 clear b)
    go_ret
    exact ⟨ret_bool HR2.out.symm, K0⟩
  have f2 : (s.kind == 2) = false := beq_eq_false_iff_ne.2 k2
  have HV := Lib.hid (show validS s = (inB s.kind 3 4 && (inB s.number 1 9999 && zeroB s.card)) by unfold validS; rw [if_neg k1, if_neg k2])
  clear k1 k2
  cases hi : inB s.kind 3 4
  · have HR := Lib.hid (show validS s = false by rw [HV.out, hi]; rfl)
    clear HV
    go_wp2_with (go_at_call 77
                 refine (l1In_any _ _ _ _).mono ?_
                 rintro e w' ⟨rfl, rfl⟩)
    go_ret
    exact ⟨ret_bool HR.out.symm, K0⟩
  cases hj : inB s.number 1 9999
  · have HR := Lib.hid (show validS s = false by rw [HV.out, hi, hj]; rfl)
    clear HV
    go_wp2_with (go_at_call 77
                 refine (l1In_any _ _ _ _).mono ?_
                 rintro e w' ⟨rfl, rfl⟩)
    go_ret
    exact ⟨ret_bool HR.out.symm, K0⟩
  have HR := Lib.hid (show validS s = zeroB s.card by rw [HV.out, hi, hj]; rfl)
  clear HV
  obtain ⟨zb, hz⟩ : ∃ zb, zeroB s.card = zb := ⟨_, rfl⟩
  have HZ := Lib.hid hz
  have HR2 := Lib.hid (HR.out.trans hz)
  clear hz HR
  go_wp2_with (first
    | (go_at_call 77
       refine (l1In_any _ _ _ _).mono ?_
       rintro e w' ⟨rfl, rfl⟩)
    | (go_at_call 81
       refine (l21None_any A n c 0 s.card _ X).mono ?_
       rw [HZ.out]
       rintro e w4 ⟨rfl, b⟩
       replace K0 := bel_then K0 b
       clear b))
  go_ret
  exact ⟨ret_bool HR2.out.symm, K0⟩

end Go.Proofs.YtkimlajfhepfgaaGreat

namespace Go.Proofs.YtkimlajfhepfgaaGreat
open Go.RowKit

/-- The reference's step. -/
def stepR (d : DeskV) (s : DeskStep) : Option DeskV := if deskB d && (validS s && makeB d s) then some (makeOut d s) else none
theorem stepR_same (d : DeskV) (s : DeskStep) : stepR d s = stepM d s := by
  unfold stepR stepM
  by_cases h : deskB d = true
  · obtain ⟨h1, h2⟩ := step_same h s
    rw [h, ← h1]
    by_cases hb : stepB d s = true
    · rw [hb, h2 hb]
    · simp [hb]
  · simp [h]

set_option maxRecDepth 100000 in
set_option maxHeartbeats 4000000 in
theorem StepDesk_any (h : DeskH) (d : DeskV) (A : Option Addr) (n c : Nat) (s : DeskStep) (w : World) (hs : SeesDesk w 0 h d) (hf : DeskFit 1048576 h d) (hc : h.n3 ≤ h.c3) (hx : Sees w 0 2 A n (s.card.punches.flatMap Punch.enc)) (hn : n ≤ 1048576) :
    Calls Tryz.prog 7 #[.agg #[.slice h.A0 h.n0 h.c0, .slice h.A1 h.n1 h.c1, .slice h.A2 h.n2 h.c2, .slice h.A3 h.n3 h.c3, .slice h.A4 h.n4 h.c4], .agg #[.int .i64 s.kind, .int .i64 s.number, .int .i64 s.cnumber, .int .i64 s.cstart, .int .i64 s.cfinish, .slice A n c]] w (GivesDeskO w (stepM d s)) := by
  have K0 : Below w.heap.size w (((w.alloc (.cells #[.slice h.A0 h.n0 h.c0, .slice h.A1 h.n1 h.c1, .slice h.A2 h.n2 h.c2, .slice h.A3 h.n3 h.c3, .slice h.A4 h.n4 h.c4] 28)).alloc (.cells #[.int .i64 s.kind, .int .i64 s.number, .int .i64 s.cnumber, .int .i64 s.cstart, .int .i64 s.cfinish, .slice A n c] 33)).alloc (.cells #[.slice none 0 0, .slice none 0 0, .slice none 0 0, .slice none 0 0, .slice none 0 0] 28)) := (((Below.refl w.heap.size w).alloc (Nat.le_refl _) _).alloc (by simp) _).alloc (by simp; omega) _
  have P : Blk (((w.alloc (.cells #[.slice h.A0 h.n0 h.c0, .slice h.A1 h.n1 h.c1, .slice h.A2 h.n2 h.c2, .slice h.A3 h.n3 h.c3, .slice h.A4 h.n4 h.c4] 28)).alloc (.cells #[.int .i64 s.kind, .int .i64 s.number, .int .i64 s.cnumber, .int .i64 s.cstart, .int .i64 s.cfinish, .slice A n c] 33)).alloc (.cells #[.slice none 0 0, .slice none 0 0, .slice none 0 0, .slice none 0 0, .slice none 0 0] 28)) w.heap.size 28 [.slice h.A0 h.n0 h.c0, .slice h.A1 h.n1 h.c1, .slice h.A2 h.n2 h.c2, .slice h.A3 h.n3 h.c3, .slice h.A4 h.n4 h.c4] := ((Blk.at_ rfl).alloc _).alloc _
  have Q : Blk (((w.alloc (.cells #[.slice h.A0 h.n0 h.c0, .slice h.A1 h.n1 h.c1, .slice h.A2 h.n2 h.c2, .slice h.A3 h.n3 h.c3, .slice h.A4 h.n4 h.c4] 28)).alloc (.cells #[.int .i64 s.kind, .int .i64 s.number, .int .i64 s.cnumber, .int .i64 s.cstart, .int .i64 s.cfinish, .slice A n c] 33)).alloc (.cells #[.slice none 0 0, .slice none 0 0, .slice none 0 0, .slice none 0 0, .slice none 0 0] 28)) (w.heap.size + 1) 33 [.int .i64 s.kind, .int .i64 s.number, .int .i64 s.cnumber, .int .i64 s.cstart, .int .i64 s.cfinish, .slice A n c] := (Blk.at_ (by simp)).alloc _
  have R : Blk (((w.alloc (.cells #[.slice h.A0 h.n0 h.c0, .slice h.A1 h.n1 h.c1, .slice h.A2 h.n2 h.c2, .slice h.A3 h.n3 h.c3, .slice h.A4 h.n4 h.c4] 28)).alloc (.cells #[.int .i64 s.kind, .int .i64 s.number, .int .i64 s.cnumber, .int .i64 s.cstart, .int .i64 s.cfinish, .slice A n c] 33)).alloc (.cells #[.slice none 0 0, .slice none 0 0, .slice none 0 0, .slice none 0 0, .slice none 0 0] 28)) (w.heap.size + 1 + 1) 28 [.slice none 0 0, .slice none 0 0, .slice none 0 0, .slice none 0 0, .slice none 0 0] := Blk.at_ (by simp)
  have z0 : w.heap.size + 3 ≤ ((((w.alloc (.cells #[.slice h.A0 h.n0 h.c0, .slice h.A1 h.n1 h.c1, .slice h.A2 h.n2 h.c2, .slice h.A3 h.n3 h.c3, .slice h.A4 h.n4 h.c4] 28)).alloc (.cells #[.int .i64 s.kind, .int .i64 s.number, .int .i64 s.cnumber, .int .i64 s.cstart, .int .i64 s.cfinish, .slice A n c] 33)).alloc (.cells #[.slice none 0 0, .slice none 0 0, .slice none 0 0, .slice none 0 0, .slice none 0 0] 28))).heap.size := by simp
  go_enter Tryz.func7, Tryz.ntmps7
  go_wp2_with fail
  generalize (((w.alloc (.cells #[.slice h.A0 h.n0 h.c0, .slice h.A1 h.n1 h.c1, .slice h.A2 h.n2 h.c2, .slice h.A3 h.n3 h.c3, .slice h.A4 h.n4 h.c4] 28)).alloc (.cells #[.int .i64 s.kind, .int .i64 s.number, .int .i64 s.cnumber, .int .i64 s.cstart, .int .i64 s.cfinish, .slice A n c] 33)).alloc (.cells #[.slice none 0 0, .slice none 0 0, .slice none 0 0, .slice none 0 0, .slice none 0 0] 28)) = w0 at *
  refine (IsDesk_any h d _ (hs.below K0 (Nat.le_refl _)) hf hc).mono ?_
  cases g : deskB d
  · rintro x w1 ⟨rfl, b1⟩
    have K1 := bel_then K0 b1
    have R1 := R.next b1
    have rc := R1.cell
    have rf := R1.frozen
    have HM := Lib.hid (show stepM d s = none by unfold stepM; rw [g]; rfl)
    clear g
    go_wp2_with fail
    refine bodyPost_ret (v := .tuple #[.agg #[.slice none 0 0, .slice none 0 0, .slice none 0 0, .slice none 0 0, .slice none 0 0], .bool false]) (by simp [results, Tryz.results7, go_sem, rc]) rfl ?_
    rw [HM.out]
    exact givesDO_none (K1.trans ((((((((Only.refl (fun b => b = w.heap.size + 1 + 1) w1).setCell (p := ⟨w.heap.size + 1 + 1, 0, none⟩) rfl (.slice none 0 0)).setCell (p := ⟨w.heap.size + 1 + 1, 1, none⟩) rfl (.slice none 0 0)).setCell (p := ⟨w.heap.size + 1 + 1, 2, none⟩) rfl (.slice none 0 0)).setCell (p := ⟨w.heap.size + 1 + 1, 3, none⟩) rfl (.slice none 0 0)).setCell (p := ⟨w.heap.size + 1 + 1, 4, none⟩) rfl (.slice none 0 0))).below (fun k hk => by omega) K1.size))
  rintro x w1 ⟨rfl, b1⟩
  have K1 := bel_then K0 b1
  replace P := P.next b1
  replace Q := Q.next b1
  replace R := R.next b1
  have z1 := b1.size
  have pc := P.cell
  have qc := Q.cell
  clear K0 b1
  go_wp2_with fail
  refine (stepDesk_any h d A n c s _ (hs.below K1 (Nat.le_refl _)) g (hx.next K1) hn).mono ?_
  rintro x w2 ⟨H, rfl, M, C2, b2⟩
  have K2 := bel_then K1 b2
  have z2 := b2.size
  have R2 := R.next b2
  have zR := R2.lt
  have U : Below w2.heap.size w2 (w2.alloc (.cells #[.slice H.A0 H.n0 H.c0, .slice H.A1 H.n1 H.c1, .slice H.A2 H.n2 H.c2, .slice H.A3 H.n3 H.c3, .slice H.A4 H.n4 H.c4] 28)) := (Below.refl _ _).alloc (Nat.le_refl _) _
  have K3 := bel_then K2 U
  have R3 := R2.next U
  have M3 := M.next U
  have B3 : Blk (w2.alloc (.cells #[.slice H.A0 H.n0 H.c0, .slice H.A1 H.n1 H.c1, .slice H.A2 H.n2 H.c2, .slice H.A3 H.n3 H.c3, .slice H.A4 H.n4 H.c4] 28)) w2.heap.size 28 [.slice H.A0 H.n0 H.c0, .slice H.A1 H.n1 H.c1, .slice H.A2 H.n2 H.c2, .slice H.A3 H.n3 H.c3, .slice H.A4 H.n4 H.c4] := Blk.at_ rfl
  have rc2 := R2.cell
  have rf2 := R2.frozen
  cases hb : stepB d s
  · have HM := Lib.hid (show stepM d s = none by unfold stepM; rw [g, hb]; rfl)
    have HB := Lib.hid hb
    clear hb pc qc
    have E := ((((((Only.refl (fun b => b = w.heap.size + 1 + 1) w2).setCell (p := ⟨w.heap.size + 1 + 1, 0, none⟩) rfl (.slice none 0 0)).setCell (p := ⟨w.heap.size + 1 + 1, 1, none⟩) rfl (.slice none 0 0)).setCell (p := ⟨w.heap.size + 1 + 1, 2, none⟩) rfl (.slice none 0 0)).setCell (p := ⟨w.heap.size + 1 + 1, 3, none⟩) rfl (.slice none 0 0)).setCell (p := ⟨w.heap.size + 1 + 1, 4, none⟩) rfl (.slice none 0 0))
    have bA : Below ((((((w2.setCell ⟨w.heap.size + 1 + 1, 0, none⟩ (.slice none 0 0)).setCell ⟨w.heap.size + 1 + 1, 1, none⟩ (.slice none 0 0)).setCell ⟨w.heap.size + 1 + 1, 2, none⟩ (.slice none 0 0)).setCell ⟨w.heap.size + 1 + 1, 3, none⟩ (.slice none 0 0)).setCell ⟨w.heap.size + 1 + 1, 4, none⟩ (.slice none 0 0))).heap.size (((((w2.setCell ⟨w.heap.size + 1 + 1, 0, none⟩ (.slice none 0 0)).setCell ⟨w.heap.size + 1 + 1, 1, none⟩ (.slice none 0 0)).setCell ⟨w.heap.size + 1 + 1, 2, none⟩ (.slice none 0 0)).setCell ⟨w.heap.size + 1 + 1, 3, none⟩ (.slice none 0 0)).setCell ⟨w.heap.size + 1 + 1, 4, none⟩ (.slice none 0 0)) (((((((w2.setCell ⟨w.heap.size + 1 + 1, 0, none⟩ (.slice none 0 0)).setCell ⟨w.heap.size + 1 + 1, 1, none⟩ (.slice none 0 0)).setCell ⟨w.heap.size + 1 + 1, 2, none⟩ (.slice none 0 0)).setCell ⟨w.heap.size + 1 + 1, 3, none⟩ (.slice none 0 0)).setCell ⟨w.heap.size + 1 + 1, 4, none⟩ (.slice none 0 0))).alloc (.cells #[.slice H.A0 H.n0 H.c0, .slice H.A1 H.n1 H.c1, .slice H.A2 H.n2 H.c2, .slice H.A3 H.n3 H.c3, .slice H.A4 H.n4 H.c4] 28)) := (Below.refl _ _).alloc (Nat.le_refl _) _
    have RF : Blk (((((((w2.setCell ⟨w.heap.size + 1 + 1, 0, none⟩ (.slice none 0 0)).setCell ⟨w.heap.size + 1 + 1, 1, none⟩ (.slice none 0 0)).setCell ⟨w.heap.size + 1 + 1, 2, none⟩ (.slice none 0 0)).setCell ⟨w.heap.size + 1 + 1, 3, none⟩ (.slice none 0 0)).setCell ⟨w.heap.size + 1 + 1, 4, none⟩ (.slice none 0 0))).alloc (.cells #[.slice H.A0 H.n0 H.c0, .slice H.A1 H.n1 H.c1, .slice H.A2 H.n2 H.c2, .slice H.A3 H.n3 H.c3, .slice H.A4 H.n4 H.c4] 28)) (w.heap.size + 1 + 1) 28 [.slice none 0 0, .slice none 0 0, .slice none 0 0, .slice none 0 0, .slice none 0 0] := ((((((R2.set_ 0 (.slice none 0 0)).set_ 1 (.slice none 0 0)).set_ 2 (.slice none 0 0)).set_ 3 (.slice none 0 0)).set_ 4 (.slice none 0 0))).alloc _
    have rcF := RF.cell
    go_wp2_with fail
    refine bodyPost_ret (v := .tuple #[.agg #[.slice none 0 0, .slice none 0 0, .slice none 0 0, .slice none 0 0, .slice none 0 0], .bool false]) (by simp [results, Tryz.results7, go_sem, rcF]) rfl ?_
    rw [HM.out]
    exact givesDO_none (bel_then (K2.trans (E.below (fun k hk => by omega) K2.size)) bA)
  have HM := Lib.hid (show stepM d s = some (stepOut d s) by unfold stepM; rw [g, hb]; rfl)
  have SM : Small 1000 (stepOut d s) := deskB_small (by unfold stepB at hb; simp only [Bool.and_eq_true] at hb; exact hb.2)
  have HB := Lib.hid hb
  clear hb pc qc
  have E := ((((((Only.refl (fun b => b = w.heap.size + 1 + 1) w2).setCell (p := ⟨w.heap.size + 1 + 1, 0, none⟩) rfl (.slice H.A0 H.n0 H.c0)).setCell (p := ⟨w.heap.size + 1 + 1, 1, none⟩) rfl (.slice H.A1 H.n1 H.c1)).setCell (p := ⟨w.heap.size + 1 + 1, 2, none⟩) rfl (.slice H.A2 H.n2 H.c2)).setCell (p := ⟨w.heap.size + 1 + 1, 3, none⟩) rfl (.slice H.A3 H.n3 H.c3)).setCell (p := ⟨w.heap.size + 1 + 1, 4, none⟩) rfl (.slice H.A4 H.n4 H.c4))
  have bA : Below ((((((w2.setCell ⟨w.heap.size + 1 + 1, 0, none⟩ (.slice H.A0 H.n0 H.c0)).setCell ⟨w.heap.size + 1 + 1, 1, none⟩ (.slice H.A1 H.n1 H.c1)).setCell ⟨w.heap.size + 1 + 1, 2, none⟩ (.slice H.A2 H.n2 H.c2)).setCell ⟨w.heap.size + 1 + 1, 3, none⟩ (.slice H.A3 H.n3 H.c3)).setCell ⟨w.heap.size + 1 + 1, 4, none⟩ (.slice H.A4 H.n4 H.c4))).heap.size (((((w2.setCell ⟨w.heap.size + 1 + 1, 0, none⟩ (.slice H.A0 H.n0 H.c0)).setCell ⟨w.heap.size + 1 + 1, 1, none⟩ (.slice H.A1 H.n1 H.c1)).setCell ⟨w.heap.size + 1 + 1, 2, none⟩ (.slice H.A2 H.n2 H.c2)).setCell ⟨w.heap.size + 1 + 1, 3, none⟩ (.slice H.A3 H.n3 H.c3)).setCell ⟨w.heap.size + 1 + 1, 4, none⟩ (.slice H.A4 H.n4 H.c4)) (((((((w2.setCell ⟨w.heap.size + 1 + 1, 0, none⟩ (.slice H.A0 H.n0 H.c0)).setCell ⟨w.heap.size + 1 + 1, 1, none⟩ (.slice H.A1 H.n1 H.c1)).setCell ⟨w.heap.size + 1 + 1, 2, none⟩ (.slice H.A2 H.n2 H.c2)).setCell ⟨w.heap.size + 1 + 1, 3, none⟩ (.slice H.A3 H.n3 H.c3)).setCell ⟨w.heap.size + 1 + 1, 4, none⟩ (.slice H.A4 H.n4 H.c4))).alloc (.cells #[.slice H.A0 H.n0 H.c0, .slice H.A1 H.n1 H.c1, .slice H.A2 H.n2 H.c2, .slice H.A3 H.n3 H.c3, .slice H.A4 H.n4 H.c4] 28)) := (Below.refl _ _).alloc (Nat.le_refl _) _
  have RF : Blk (((((((w2.setCell ⟨w.heap.size + 1 + 1, 0, none⟩ (.slice H.A0 H.n0 H.c0)).setCell ⟨w.heap.size + 1 + 1, 1, none⟩ (.slice H.A1 H.n1 H.c1)).setCell ⟨w.heap.size + 1 + 1, 2, none⟩ (.slice H.A2 H.n2 H.c2)).setCell ⟨w.heap.size + 1 + 1, 3, none⟩ (.slice H.A3 H.n3 H.c3)).setCell ⟨w.heap.size + 1 + 1, 4, none⟩ (.slice H.A4 H.n4 H.c4))).alloc (.cells #[.slice H.A0 H.n0 H.c0, .slice H.A1 H.n1 H.c1, .slice H.A2 H.n2 H.c2, .slice H.A3 H.n3 H.c3, .slice H.A4 H.n4 H.c4] 28)) (w.heap.size + 1 + 1) 28 [.slice H.A0 H.n0 H.c0, .slice H.A1 H.n1 H.c1, .slice H.A2 H.n2 H.c2, .slice H.A3 H.n3 H.c3, .slice H.A4 H.n4 H.c4] := ((((((R2.set_ 0 (.slice H.A0 H.n0 H.c0)).set_ 1 (.slice H.A1 H.n1 H.c1)).set_ 2 (.slice H.A2 H.n2 H.c2)).set_ 3 (.slice H.A3 H.n3 H.c3)).set_ 4 (.slice H.A4 H.n4 H.c4))).alloc _
  have rcF := RF.cell
  go_wp2_with fail
  refine bodyPost_ret (v := .tuple #[.agg #[.slice H.A0 H.n0 H.c0, .slice H.A1 H.n1 H.c1, .slice H.A2 H.n2 H.c2, .slice H.A3 H.n3 H.c3, .slice H.A4 H.n4 H.c4], .bool true]) (by simp [results, Tryz.results7, go_sem, rcF]) rfl ?_
  rw [HM.out]
  have zF := E.size
  have zA := bA.size
  have M4 := (M.only E (fun b h1 h2 => by have := h1.1; omega)).next bA
  exact ⟨H, rfl, (M4.wide (fun b hb => by have := hb.1; have := hb.2; exact ⟨by omega, by omega⟩)).desk, SM.fit M.desk.sees (by decide) (by decide), M.cap3, bel_then (K2.trans (E.below (fun k hk => by omega) K2.size)) bA⟩

/-- A desk in memory of the call's own whose trouble begins at its block's head, or none. -/
def GivesDeskOW (w : World) (R : Option DeskV) (e : Ending) (w' : World) : Prop :=
  ∃ H : DeskH, e = .returned (.tuple #[.agg #[.slice H.A0 H.n0 H.c0, .slice H.A1 H.n1 H.c1, .slice H.A2 H.n2 H.c2, .slice H.A3 H.n3 H.c3, .slice H.A4 H.n4 H.c4], .bool R.isSome]) ∧ MineW w' (In w.heap.size w'.heap.size) H (R.getD deskZ) ∧ DeskFit 1048576 H (R.getD deskZ) ∧ H.n3 ≤ H.c3 ∧ Below w.heap.size w w'
theorem GivesDeskOW.toO {w : World} {R : Option DeskV} {e : Ending} {w' : World} (h : GivesDeskOW w R e w') : GivesDeskO w R e w' := by
  obtain ⟨H, h1, m, h2, h3, h4⟩ := h
  exact ⟨H, h1, m.desk, h2, h3, h4⟩
theorem givesDOW_none {w w' : World} (h : Below w.heap.size w w') : GivesDeskOW w none (.returned (.tuple #[.agg #[.slice none 0 0, .slice none 0 0, .slice none 0 0, .slice none 0 0, .slice none 0 0], .bool false])) w' :=
  ⟨⟨none, 0, 0, none, 0, 0, none, 0, 0, none, 0, 0, none, 0, 0⟩, rfl, ⟨fun _ => 0, ⟨mine_nil _ _ _ _, mine_nil _ _ _ _, MineO.empty _ _ _ _ _, mine_nil _ _ _ _, MineN.nil _ _ _ _⟩⟩, deskZ_fit, Nat.le_refl _, h⟩

set_option maxRecDepth 100000 in
set_option maxHeartbeats 4000000 in
theorem specStepDeskR_any (h : DeskH) (d : DeskV) (A : Option Addr) (n c : Nat) (s : DeskStep) (w : World) (hs : SeesDesk w 0 h d) (hf : DeskFit 1048576 h d) (hc : h.n3 ≤ h.c3) (hx : Sees w 0 2 A n (s.card.punches.flatMap Punch.enc)) (hn : n ≤ 1048576) :
    Calls Tryz.prog 8 #[.agg #[.slice h.A0 h.n0 h.c0, .slice h.A1 h.n1 h.c1, .slice h.A2 h.n2 h.c2, .slice h.A3 h.n3 h.c3, .slice h.A4 h.n4 h.c4], .agg #[.int .i64 s.kind, .int .i64 s.number, .int .i64 s.cnumber, .int .i64 s.cstart, .int .i64 s.cfinish, .slice A n c]] w (GivesDeskOW w (stepR d s)) := by
  have K0 : Below w.heap.size w (((w.alloc (.cells #[.slice h.A0 h.n0 h.c0, .slice h.A1 h.n1 h.c1, .slice h.A2 h.n2 h.c2, .slice h.A3 h.n3 h.c3, .slice h.A4 h.n4 h.c4] 28)).alloc (.cells #[.int .i64 s.kind, .int .i64 s.number, .int .i64 s.cnumber, .int .i64 s.cstart, .int .i64 s.cfinish, .slice A n c] 33)).alloc (.cells #[.slice none 0 0, .slice none 0 0, .slice none 0 0, .slice none 0 0, .slice none 0 0] 28)) := (((Below.refl w.heap.size w).alloc (Nat.le_refl _) _).alloc (by simp) _).alloc (by simp; omega) _
  have P : Blk (((w.alloc (.cells #[.slice h.A0 h.n0 h.c0, .slice h.A1 h.n1 h.c1, .slice h.A2 h.n2 h.c2, .slice h.A3 h.n3 h.c3, .slice h.A4 h.n4 h.c4] 28)).alloc (.cells #[.int .i64 s.kind, .int .i64 s.number, .int .i64 s.cnumber, .int .i64 s.cstart, .int .i64 s.cfinish, .slice A n c] 33)).alloc (.cells #[.slice none 0 0, .slice none 0 0, .slice none 0 0, .slice none 0 0, .slice none 0 0] 28)) w.heap.size 28 [.slice h.A0 h.n0 h.c0, .slice h.A1 h.n1 h.c1, .slice h.A2 h.n2 h.c2, .slice h.A3 h.n3 h.c3, .slice h.A4 h.n4 h.c4] := ((Blk.at_ rfl).alloc _).alloc _
  have Q : Blk (((w.alloc (.cells #[.slice h.A0 h.n0 h.c0, .slice h.A1 h.n1 h.c1, .slice h.A2 h.n2 h.c2, .slice h.A3 h.n3 h.c3, .slice h.A4 h.n4 h.c4] 28)).alloc (.cells #[.int .i64 s.kind, .int .i64 s.number, .int .i64 s.cnumber, .int .i64 s.cstart, .int .i64 s.cfinish, .slice A n c] 33)).alloc (.cells #[.slice none 0 0, .slice none 0 0, .slice none 0 0, .slice none 0 0, .slice none 0 0] 28)) (w.heap.size + 1) 33 [.int .i64 s.kind, .int .i64 s.number, .int .i64 s.cnumber, .int .i64 s.cstart, .int .i64 s.cfinish, .slice A n c] := (Blk.at_ (by simp)).alloc _
  have R : Blk (((w.alloc (.cells #[.slice h.A0 h.n0 h.c0, .slice h.A1 h.n1 h.c1, .slice h.A2 h.n2 h.c2, .slice h.A3 h.n3 h.c3, .slice h.A4 h.n4 h.c4] 28)).alloc (.cells #[.int .i64 s.kind, .int .i64 s.number, .int .i64 s.cnumber, .int .i64 s.cstart, .int .i64 s.cfinish, .slice A n c] 33)).alloc (.cells #[.slice none 0 0, .slice none 0 0, .slice none 0 0, .slice none 0 0, .slice none 0 0] 28)) (w.heap.size + 1 + 1) 28 [.slice none 0 0, .slice none 0 0, .slice none 0 0, .slice none 0 0, .slice none 0 0] := Blk.at_ (by simp)
  have z0 : w.heap.size + 3 ≤ ((((w.alloc (.cells #[.slice h.A0 h.n0 h.c0, .slice h.A1 h.n1 h.c1, .slice h.A2 h.n2 h.c2, .slice h.A3 h.n3 h.c3, .slice h.A4 h.n4 h.c4] 28)).alloc (.cells #[.int .i64 s.kind, .int .i64 s.number, .int .i64 s.cnumber, .int .i64 s.cstart, .int .i64 s.cfinish, .slice A n c] 33)).alloc (.cells #[.slice none 0 0, .slice none 0 0, .slice none 0 0, .slice none 0 0, .slice none 0 0] 28))).heap.size := by simp
  go_enter Tryz.func8, Tryz.ntmps8
  go_wp2_with fail
  generalize (((w.alloc (.cells #[.slice h.A0 h.n0 h.c0, .slice h.A1 h.n1 h.c1, .slice h.A2 h.n2 h.c2, .slice h.A3 h.n3 h.c3, .slice h.A4 h.n4 h.c4] 28)).alloc (.cells #[.int .i64 s.kind, .int .i64 s.number, .int .i64 s.cnumber, .int .i64 s.cstart, .int .i64 s.cfinish, .slice A n c] 33)).alloc (.cells #[.slice none 0 0, .slice none 0 0, .slice none 0 0, .slice none 0 0, .slice none 0 0] 28)) = w0 at *
  refine (l25Good_any h d _ (hs.below K0 (Nat.le_refl _)) hf hc).mono ?_
  cases g : deskB d
  · rintro x w1 ⟨rfl, b1⟩
    have K1 := bel_then K0 b1
    have R1 := R.next b1
    have rc := R1.cell
    have rf := R1.frozen
    have HM := Lib.hid (show stepR d s = none by unfold stepR; rw [g]; rfl)
    clear g
    go_wp2_with fail
    refine bodyPost_ret (v := .tuple #[.agg #[.slice none 0 0, .slice none 0 0, .slice none 0 0, .slice none 0 0, .slice none 0 0], .bool false]) (by simp [results, Tryz.results8, go_sem, rc]) rfl ?_
    rw [HM.out]
    exact givesDOW_none (K1.trans ((((((((Only.refl (fun b => b = w.heap.size + 1 + 1) w1).setCell (p := ⟨w.heap.size + 1 + 1, 0, none⟩) rfl (.slice none 0 0)).setCell (p := ⟨w.heap.size + 1 + 1, 1, none⟩) rfl (.slice none 0 0)).setCell (p := ⟨w.heap.size + 1 + 1, 2, none⟩) rfl (.slice none 0 0)).setCell (p := ⟨w.heap.size + 1 + 1, 3, none⟩) rfl (.slice none 0 0)).setCell (p := ⟨w.heap.size + 1 + 1, 4, none⟩) rfl (.slice none 0 0))).below (fun k hk => by omega) K1.size))
  rintro x w1 ⟨rfl, b1⟩
  have K1 := bel_then K0 b1
  replace P := P.next b1
  replace Q := Q.next b1
  replace R := R.next b1
  have z1 := b1.size
  have pc := P.cell
  have qc := Q.cell
  clear K0 b1
  go_upto_if 15 with fail
  refine (l25Step_any A n c s _ (hx.next K1) hn).mono ?_
  cases hv : validS s
  · rintro x w4 ⟨rfl, b4⟩
    have K4 := bel_then K1 b4
    have R4 := R.next b4
    have rc := R4.cell
    have rf := R4.frozen
    have HM := Lib.hid (show stepR d s = none by unfold stepR; rw [g, hv]; rfl)
    have HV := Lib.hid hv
    clear g hv
    go_wp2_with fail
    refine bodyPost_ret (v := .tuple #[.agg #[.slice none 0 0, .slice none 0 0, .slice none 0 0, .slice none 0 0, .slice none 0 0], .bool false]) (by simp [results, Tryz.results8, go_sem, rc]) rfl ?_
    rw [HM.out]
    exact givesDOW_none (K4.trans ((((((((Only.refl (fun b => b = w.heap.size + 1 + 1) w4).setCell (p := ⟨w.heap.size + 1 + 1, 0, none⟩) rfl (.slice none 0 0)).setCell (p := ⟨w.heap.size + 1 + 1, 1, none⟩) rfl (.slice none 0 0)).setCell (p := ⟨w.heap.size + 1 + 1, 2, none⟩) rfl (.slice none 0 0)).setCell (p := ⟨w.heap.size + 1 + 1, 3, none⟩) rfl (.slice none 0 0)).setCell (p := ⟨w.heap.size + 1 + 1, 4, none⟩) rfl (.slice none 0 0))).below (fun k hk => by omega) K4.size))
  rintro x w4 ⟨rfl, b4⟩
  replace K1 := bel_then K1 b4
  replace P := P.next b4
  replace Q := Q.next b4
  replace R := R.next b4
  have z4 := b4.size
  clear pc qc b4
  have pc := P.cell
  have qc := Q.cell
  have HV := Lib.hid hv
  clear hv
  go_wp2_with fail
  refine (l25Make_any h d A n c s _ (hs.below K1 (Nat.le_refl _)) g (hx.next K1) hn HV.out).mono ?_
  rintro x w2 ⟨H, rfl, M, C2, b2⟩
  have K2 := bel_then K1 b2
  have z2 := b2.size
  have R2 := R.next b2
  have zR := R2.lt
  have U : Below w2.heap.size w2 (w2.alloc (.cells #[.slice H.A0 H.n0 H.c0, .slice H.A1 H.n1 H.c1, .slice H.A2 H.n2 H.c2, .slice H.A3 H.n3 H.c3, .slice H.A4 H.n4 H.c4] 28)) := (Below.refl _ _).alloc (Nat.le_refl _) _
  have K3 := bel_then K2 U
  have R3 := R2.next U
  have M3 := M.next U
  have B3 : Blk (w2.alloc (.cells #[.slice H.A0 H.n0 H.c0, .slice H.A1 H.n1 H.c1, .slice H.A2 H.n2 H.c2, .slice H.A3 H.n3 H.c3, .slice H.A4 H.n4 H.c4] 28)) w2.heap.size 28 [.slice H.A0 H.n0 H.c0, .slice H.A1 H.n1 H.c1, .slice H.A2 H.n2 H.c2, .slice H.A3 H.n3 H.c3, .slice H.A4 H.n4 H.c4] := Blk.at_ rfl
  have rc2 := R2.cell
  have rf2 := R2.frozen
  cases hb : makeB d s
  · have HM := Lib.hid (show stepR d s = none by unfold stepR; rw [g, HV.out, hb]; rfl)
    have HB := Lib.hid hb
    clear hb pc qc
    have E := ((((((Only.refl (fun b => b = w.heap.size + 1 + 1) w2).setCell (p := ⟨w.heap.size + 1 + 1, 0, none⟩) rfl (.slice none 0 0)).setCell (p := ⟨w.heap.size + 1 + 1, 1, none⟩) rfl (.slice none 0 0)).setCell (p := ⟨w.heap.size + 1 + 1, 2, none⟩) rfl (.slice none 0 0)).setCell (p := ⟨w.heap.size + 1 + 1, 3, none⟩) rfl (.slice none 0 0)).setCell (p := ⟨w.heap.size + 1 + 1, 4, none⟩) rfl (.slice none 0 0))
    have bA : Below ((((((w2.setCell ⟨w.heap.size + 1 + 1, 0, none⟩ (.slice none 0 0)).setCell ⟨w.heap.size + 1 + 1, 1, none⟩ (.slice none 0 0)).setCell ⟨w.heap.size + 1 + 1, 2, none⟩ (.slice none 0 0)).setCell ⟨w.heap.size + 1 + 1, 3, none⟩ (.slice none 0 0)).setCell ⟨w.heap.size + 1 + 1, 4, none⟩ (.slice none 0 0))).heap.size (((((w2.setCell ⟨w.heap.size + 1 + 1, 0, none⟩ (.slice none 0 0)).setCell ⟨w.heap.size + 1 + 1, 1, none⟩ (.slice none 0 0)).setCell ⟨w.heap.size + 1 + 1, 2, none⟩ (.slice none 0 0)).setCell ⟨w.heap.size + 1 + 1, 3, none⟩ (.slice none 0 0)).setCell ⟨w.heap.size + 1 + 1, 4, none⟩ (.slice none 0 0)) (((((((w2.setCell ⟨w.heap.size + 1 + 1, 0, none⟩ (.slice none 0 0)).setCell ⟨w.heap.size + 1 + 1, 1, none⟩ (.slice none 0 0)).setCell ⟨w.heap.size + 1 + 1, 2, none⟩ (.slice none 0 0)).setCell ⟨w.heap.size + 1 + 1, 3, none⟩ (.slice none 0 0)).setCell ⟨w.heap.size + 1 + 1, 4, none⟩ (.slice none 0 0))).alloc (.cells #[.slice H.A0 H.n0 H.c0, .slice H.A1 H.n1 H.c1, .slice H.A2 H.n2 H.c2, .slice H.A3 H.n3 H.c3, .slice H.A4 H.n4 H.c4] 28)) := (Below.refl _ _).alloc (Nat.le_refl _) _
    have RF : Blk (((((((w2.setCell ⟨w.heap.size + 1 + 1, 0, none⟩ (.slice none 0 0)).setCell ⟨w.heap.size + 1 + 1, 1, none⟩ (.slice none 0 0)).setCell ⟨w.heap.size + 1 + 1, 2, none⟩ (.slice none 0 0)).setCell ⟨w.heap.size + 1 + 1, 3, none⟩ (.slice none 0 0)).setCell ⟨w.heap.size + 1 + 1, 4, none⟩ (.slice none 0 0))).alloc (.cells #[.slice H.A0 H.n0 H.c0, .slice H.A1 H.n1 H.c1, .slice H.A2 H.n2 H.c2, .slice H.A3 H.n3 H.c3, .slice H.A4 H.n4 H.c4] 28)) (w.heap.size + 1 + 1) 28 [.slice none 0 0, .slice none 0 0, .slice none 0 0, .slice none 0 0, .slice none 0 0] := ((((((R2.set_ 0 (.slice none 0 0)).set_ 1 (.slice none 0 0)).set_ 2 (.slice none 0 0)).set_ 3 (.slice none 0 0)).set_ 4 (.slice none 0 0))).alloc _
    have rcF := RF.cell
    go_wp2_with fail
    refine bodyPost_ret (v := .tuple #[.agg #[.slice none 0 0, .slice none 0 0, .slice none 0 0, .slice none 0 0, .slice none 0 0], .bool false]) (by simp [results, Tryz.results8, go_sem, rcF]) rfl ?_
    rw [HM.out]
    exact givesDOW_none (bel_then (K2.trans (E.below (fun k hk => by omega) K2.size)) bA)
  have HM := Lib.hid (show stepR d s = some (makeOut d s) by unfold stepR; rw [g, HV.out, hb]; rfl)
  have SM : Small 1000 (makeOut d s) := deskB_small (by unfold makeB at hb; simp only [Bool.and_eq_true] at hb; exact hb.2)
  have HB := Lib.hid hb
  clear hb pc qc
  have E := ((((((Only.refl (fun b => b = w.heap.size + 1 + 1) w2).setCell (p := ⟨w.heap.size + 1 + 1, 0, none⟩) rfl (.slice H.A0 H.n0 H.c0)).setCell (p := ⟨w.heap.size + 1 + 1, 1, none⟩) rfl (.slice H.A1 H.n1 H.c1)).setCell (p := ⟨w.heap.size + 1 + 1, 2, none⟩) rfl (.slice H.A2 H.n2 H.c2)).setCell (p := ⟨w.heap.size + 1 + 1, 3, none⟩) rfl (.slice H.A3 H.n3 H.c3)).setCell (p := ⟨w.heap.size + 1 + 1, 4, none⟩) rfl (.slice H.A4 H.n4 H.c4))
  have bA : Below ((((((w2.setCell ⟨w.heap.size + 1 + 1, 0, none⟩ (.slice H.A0 H.n0 H.c0)).setCell ⟨w.heap.size + 1 + 1, 1, none⟩ (.slice H.A1 H.n1 H.c1)).setCell ⟨w.heap.size + 1 + 1, 2, none⟩ (.slice H.A2 H.n2 H.c2)).setCell ⟨w.heap.size + 1 + 1, 3, none⟩ (.slice H.A3 H.n3 H.c3)).setCell ⟨w.heap.size + 1 + 1, 4, none⟩ (.slice H.A4 H.n4 H.c4))).heap.size (((((w2.setCell ⟨w.heap.size + 1 + 1, 0, none⟩ (.slice H.A0 H.n0 H.c0)).setCell ⟨w.heap.size + 1 + 1, 1, none⟩ (.slice H.A1 H.n1 H.c1)).setCell ⟨w.heap.size + 1 + 1, 2, none⟩ (.slice H.A2 H.n2 H.c2)).setCell ⟨w.heap.size + 1 + 1, 3, none⟩ (.slice H.A3 H.n3 H.c3)).setCell ⟨w.heap.size + 1 + 1, 4, none⟩ (.slice H.A4 H.n4 H.c4)) (((((((w2.setCell ⟨w.heap.size + 1 + 1, 0, none⟩ (.slice H.A0 H.n0 H.c0)).setCell ⟨w.heap.size + 1 + 1, 1, none⟩ (.slice H.A1 H.n1 H.c1)).setCell ⟨w.heap.size + 1 + 1, 2, none⟩ (.slice H.A2 H.n2 H.c2)).setCell ⟨w.heap.size + 1 + 1, 3, none⟩ (.slice H.A3 H.n3 H.c3)).setCell ⟨w.heap.size + 1 + 1, 4, none⟩ (.slice H.A4 H.n4 H.c4))).alloc (.cells #[.slice H.A0 H.n0 H.c0, .slice H.A1 H.n1 H.c1, .slice H.A2 H.n2 H.c2, .slice H.A3 H.n3 H.c3, .slice H.A4 H.n4 H.c4] 28)) := (Below.refl _ _).alloc (Nat.le_refl _) _
  have RF : Blk (((((((w2.setCell ⟨w.heap.size + 1 + 1, 0, none⟩ (.slice H.A0 H.n0 H.c0)).setCell ⟨w.heap.size + 1 + 1, 1, none⟩ (.slice H.A1 H.n1 H.c1)).setCell ⟨w.heap.size + 1 + 1, 2, none⟩ (.slice H.A2 H.n2 H.c2)).setCell ⟨w.heap.size + 1 + 1, 3, none⟩ (.slice H.A3 H.n3 H.c3)).setCell ⟨w.heap.size + 1 + 1, 4, none⟩ (.slice H.A4 H.n4 H.c4))).alloc (.cells #[.slice H.A0 H.n0 H.c0, .slice H.A1 H.n1 H.c1, .slice H.A2 H.n2 H.c2, .slice H.A3 H.n3 H.c3, .slice H.A4 H.n4 H.c4] 28)) (w.heap.size + 1 + 1) 28 [.slice H.A0 H.n0 H.c0, .slice H.A1 H.n1 H.c1, .slice H.A2 H.n2 H.c2, .slice H.A3 H.n3 H.c3, .slice H.A4 H.n4 H.c4] := ((((((R2.set_ 0 (.slice H.A0 H.n0 H.c0)).set_ 1 (.slice H.A1 H.n1 H.c1)).set_ 2 (.slice H.A2 H.n2 H.c2)).set_ 3 (.slice H.A3 H.n3 H.c3)).set_ 4 (.slice H.A4 H.n4 H.c4))).alloc _
  have rcF := RF.cell
  go_wp2_with fail
  refine bodyPost_ret (v := .tuple #[.agg #[.slice H.A0 H.n0 H.c0, .slice H.A1 H.n1 H.c1, .slice H.A2 H.n2 H.c2, .slice H.A3 H.n3 H.c3, .slice H.A4 H.n4 H.c4], .bool true]) (by simp [results, Tryz.results8, go_sem, rcF]) rfl ?_
  rw [HM.out]
  have zF := E.size
  have zA := bA.size
  have M4 := (M.only E (fun b h1 h2 => by have := h1.1; omega)).next bA
  exact ⟨H, rfl, (M4.wide (fun b hb => by have := hb.1; have := hb.2; exact ⟨by omega, by omega⟩)), SM.fit M.desk.sees (by decide) (by decide), M.cap3, bel_then (K2.trans (E.below (fun k hk => by omega) K2.size)) bA⟩

theorem specStepDesk_any (h : DeskH) (d : DeskV) (A : Option Addr) (n c : Nat) (s : DeskStep) (w : World) (hs : SeesDesk w 0 h d) (hf : DeskFit 1048576 h d) (hc : h.n3 ≤ h.c3) (hx : Sees w 0 2 A n (s.card.punches.flatMap Punch.enc)) (hn : n ≤ 1048576) :
    Calls Tryz.prog 8 #[.agg #[.slice h.A0 h.n0 h.c0, .slice h.A1 h.n1 h.c1, .slice h.A2 h.n2 h.c2, .slice h.A3 h.n3 h.c3, .slice h.A4 h.n4 h.c4], .agg #[.int .i64 s.kind, .int .i64 s.number, .int .i64 s.cnumber, .int .i64 s.cstart, .int .i64 s.cfinish, .slice A n c]] w (GivesDeskO w (stepM d s)) := by
  rw [← stepR_same]
  exact (specStepDeskR_any h d A n c s w hs hf hc hx hn).mono fun _ _ h => h.toO
theorem specStepDeskW_any (h : DeskH) (d : DeskV) (A : Option Addr) (n c : Nat) (s : DeskStep) (w : World) (hs : SeesDesk w 0 h d) (hf : DeskFit 1048576 h d) (hc : h.n3 ≤ h.c3) (hx : Sees w 0 2 A n (s.card.punches.flatMap Punch.enc)) (hn : n ≤ 1048576) :
    Calls Tryz.prog 8 #[.agg #[.slice h.A0 h.n0 h.c0, .slice h.A1 h.n1 h.c1, .slice h.A2 h.n2 h.c2, .slice h.A3 h.n3 h.c3, .slice h.A4 h.n4 h.c4], .agg #[.int .i64 s.kind, .int .i64 s.number, .int .i64 s.cnumber, .int .i64 s.cstart, .int .i64 s.cfinish, .slice A n c]] w (GivesDeskOW w (stepM d s)) := by
  rw [← stepR_same]
  exact specStepDeskR_any h d A n c s w hs hf hc hx hn
end Go.Proofs.YtkimlajfhepfgaaGreat
