/- FieldOf, as the reference has it. -/
import Derived.Test.YtjcmlloglnkbfaaFieldS
namespace Go.Proofs.Ytjcmlloglnkbfaa
open Go.RowKit

def askedB (m : MapV) (x : Missing) (pace time : Int) : Bool := missingB m x && inB pace 60 600 && inB time x.seen 36000
theorem asked_eq {m : MapV} {x : Missing} {pace time : Int} (h : missingB m x = true) (h2 : inB pace 60 600 = true) (h3 : inB time 0 36000 = true) : askedB m x pace time = decide (x.seen ≤ time) := by
  obtain ⟨-, -, -, -, -, h5, -⟩ := missing_facts h
  have h4 := inB_true h3
  unfold askedB
  rw [h, h2]
  by_cases hs : x.seen ≤ time
  · rw [decide_eq_true hs]
    simp only [Bool.true_and]
    unfold inB; simp; omega
  · rw [decide_eq_false hs]
    simp only [Bool.true_and]
    cases h6 : inB time x.seen 36000
    · rfl
    · exact absurd (inB_true h6).1 hs
theorem asked_not {m : MapV} {x : Missing} {pace time : Int} (h : missingB m x = true) (h3 : inB time 0 36000 = false) : askedB m x pace time = false := by
  obtain ⟨-, -, -, -, -, h5, -⟩ := missing_facts h
  unfold askedB
  cases h6 : inB time x.seen 36000
  · simp
  · have h7 := inB_true h6
    rw [show inB time 0 36000 = true by unfold inB; simp; omega] at h3
    cases h3
theorem l23Pace_any (p : Int) (w : World) : Calls Try.prog 81 #[.int .i64 p] w fun e w' => e = .returned (.bool (inB p 60 600)) ∧ w = w' := by
  go_enter Try.func81, Try.ntmps81
  go_wp2_with (go_at_call 64; refine (l1In_any _ _ _ _).mono ?_; rintro e w' ⟨rfl, rfl⟩)
  go_ret
  exact ⟨rfl, rfl⟩

set_option maxRecDepth 100000 in
set_option maxHeartbeats 4000000 in
theorem l23Asked_any (A1 A2 : Option Addr) (n1 n2 c1 c2 : Nat) (m : MapV) (x : Missing) (pace time : Int) (w : World) (hm : SeesMap w A1 n1 A2 n2 m) (hn : n1 ≤ 1048576 ∧ n2 ≤ 1048576) :
    Calls Try.prog 86 #[.agg #[.int .i64 m.width, .int .i64 m.height, .slice A1 n1 c1, .slice A2 n2 c2], .agg #[.int .i64 x.runner, .int .i64 x.start, .int .i64 x.seen, .int .i64 x.place], .int .i64 pace, .int .i64 time] w fun e w' => e = .returned (.bool (askedB m x pace time)) ∧ Below w.heap.size w w' := by
  have K0 : Below w.heap.size w ((w.alloc (.cells #[.int .i64 m.width, .int .i64 m.height, .slice A1 n1 c1, .slice A2 n2 c2] 29)).alloc (.cells #[.int .i64 x.runner, .int .i64 x.start, .int .i64 x.seen, .int .i64 x.place] 31)) := ((Below.refl _ _).alloc (Nat.le_refl _) _).alloc (by simp) _
  have M0 : Blk ((w.alloc (.cells #[.int .i64 m.width, .int .i64 m.height, .slice A1 n1 c1, .slice A2 n2 c2] 29)).alloc (.cells #[.int .i64 x.runner, .int .i64 x.start, .int .i64 x.seen, .int .i64 x.place] 31)) w.heap.size 29 [.int .i64 m.width, .int .i64 m.height, .slice A1 n1 c1, .slice A2 n2 c2] := (Blk.at_ rfl).alloc _
  have X0 : Blk ((w.alloc (.cells #[.int .i64 m.width, .int .i64 m.height, .slice A1 n1 c1, .slice A2 n2 c2] 29)).alloc (.cells #[.int .i64 x.runner, .int .i64 x.start, .int .i64 x.seen, .int .i64 x.place] 31)) (w.heap.size + 1) 31 [.int .i64 x.runner, .int .i64 x.start, .int .i64 x.seen, .int .i64 x.place] := Blk.at_ (by simp)
  go_enter Try.func86, Try.ntmps86
  go_wp2_with fail
  refine (l23One_any _ _ _ _ _ _ m x _ (hm.next K0) hn).mono ?_
  rintro e w1 ⟨rfl, b1⟩
  have K1 := bel_then K0 b1
  have cm := (M0.next b1).cell
  have cx := (X0.next b1).cell
  cases g1 : missingB m x
  · have HR := Lib.hid (show askedB m x pace time = false by simp [askedB, g1])
    clear g1
    go_wp2_with fail
    go_ret
    exact ⟨ret_bool HR.out.symm, K1⟩
  cases g2 : inB pace 60 600
  · have HR := Lib.hid (show askedB m x pace time = false by simp [askedB, g2])
    have HG := Lib.hid g2
    clear g1 g2
    go_wp2_with fail
    refine (l23Pace_any _ _).mono ?_
    rintro e w' ⟨rfl, rfl⟩
    rw [HG.out]
    go_wp2_with fail
    go_ret
    exact ⟨ret_bool HR.out.symm, K1⟩
  cases g3 : inB time 0 36000
  · have HR := Lib.hid (asked_not (pace := pace) g1 g3)
    have HG := Lib.hid g2
    have HG3 := Lib.hid g3
    clear g1 g2 g3
    go_wp2_with fail
    refine (l23Pace_any _ _).mono ?_
    rintro e w' ⟨rfl, rfl⟩
    rw [HG.out]
    go_wp2_with fail
    refine (l12Time_any _ _).mono ?_
    rintro e w' ⟨rfl, rfl⟩
    rw [HG3.out]
    go_wp2_with fail
    go_ret
    exact ⟨ret_bool HR.out.symm, K1⟩
  · have HR := Lib.hid (asked_eq (pace := pace) g1 g2 g3)
    have HG := Lib.hid g2
    have HG3 := Lib.hid g3
    clear g1 g2 g3
    go_wp2_with fail
    refine (l23Pace_any _ _).mono ?_
    rintro e w' ⟨rfl, rfl⟩
    rw [HG.out]
    go_wp2_with fail
    refine (l12Time_any _ _).mono ?_
    rintro e w' ⟨rfl, rfl⟩
    rw [HG3.out]
    go_wp2_with fail
    go_ret
    exact ⟨ret_bool HR.out.symm, K1⟩

set_option maxRecDepth 100000 in
set_option maxHeartbeats 4000000 in
theorem specFieldOf_any (A1 A2 : Option Addr) (n1 n2 c1 c2 : Nat) (m : MapV) (x : Missing) (pace time : Int) (w : World) (hm : SeesMap w A1 n1 A2 n2 m) (hn : n1 ≤ 1048576 ∧ n2 ≤ 1048576) :
    Calls Try.prog 40 #[.agg #[.int .i64 m.width, .int .i64 m.height, .slice A1 n1 c1, .slice A2 n2 c2], .agg #[.int .i64 x.runner, .int .i64 x.start, .int .i64 x.seen, .int .i64 x.place], .int .i64 pace, .int .i64 time] w (GivesInts w (fieldM m x pace time)) := by
  have K0 : Below w.heap.size w ((w.alloc (.cells #[.int .i64 m.width, .int .i64 m.height, .slice A1 n1 c1, .slice A2 n2 c2] 29)).alloc (.cells #[.int .i64 x.runner, .int .i64 x.start, .int .i64 x.seen, .int .i64 x.place] 31)) := ((Below.refl _ _).alloc (Nat.le_refl _) _).alloc (by simp) _
  have M0 : Blk ((w.alloc (.cells #[.int .i64 m.width, .int .i64 m.height, .slice A1 n1 c1, .slice A2 n2 c2] 29)).alloc (.cells #[.int .i64 x.runner, .int .i64 x.start, .int .i64 x.seen, .int .i64 x.place] 31)) w.heap.size 29 [.int .i64 m.width, .int .i64 m.height, .slice A1 n1 c1, .slice A2 n2 c2] := (Blk.at_ rfl).alloc _
  have X0 : Blk ((w.alloc (.cells #[.int .i64 m.width, .int .i64 m.height, .slice A1 n1 c1, .slice A2 n2 c2] 29)).alloc (.cells #[.int .i64 x.runner, .int .i64 x.start, .int .i64 x.seen, .int .i64 x.place] 31)) (w.heap.size + 1) 31 [.int .i64 x.runner, .int .i64 x.start, .int .i64 x.seen, .int .i64 x.place] := Blk.at_ (by simp)
  go_enter Try.func40, Try.ntmps40
  go_wp2_with fail
  refine (l23Asked_any _ _ _ _ _ _ m x pace time _ (hm.next K0) hn).mono ?_
  rintro e w1 ⟨rfl, b1⟩
  have K1 := bel_then K0 b1
  have cm := (M0.next b1).cell
  have cx := (X0.next b1).cell
  cases g1 : askedB m x pace time
  · have HR := Lib.hid (show fieldM m x pace time = none by unfold askedB at g1; unfold fieldM; rw [g1]; rfl)
    clear g1
    go_wp2_with fail
    go_ret2
    rw [HR.out]
    exact gives_empty _ K1
  · have HR := Lib.hid (show fieldM m x pace time = some (fieldL m.cost.length (nextL m) x.place ((time - x.seen) / pace).toNat) by unfold askedB at g1; unfold fieldM; rw [g1]; rfl)
    unfold askedB at g1
    simp only [Bool.and_eq_true] at g1
    obtain ⟨⟨g1, g2⟩, g3⟩ := g1
    obtain ⟨-, -, -, s4, s5, s6, s7⟩ := missing_facts g1
    have t1 := inB_true g2
    have t2 := inB_true g3
    have hq : 0 ≤ (time - x.seen) / pace ∧ (time - x.seen) / pace ≤ 100000 := ⟨Int.ediv_nonneg (by omega) (by omega), Int.le_trans (Int.ediv_le_self _ (by omega)) (by omega)⟩
    obtain ⟨sn, hsn⟩ := Int.eq_ofNat_of_zero_le hq.1
    rw [hsn] at hq HR
    have r1 : IntKind.i64.wrap (time - x.seen) = time - x.seen := IntWalk.i64_in _ (by omega)
    have ht : 0 ≤ time - x.seen ∧ time - x.seen ≤ 100000 := by omega
    have r2 : IntKind.i64.wrap ((time - x.seen).tdiv pace) = (sn : Int) := by rw [Int.tdiv_eq_ediv_of_nonneg (by omega), hsn]; exact IntWalk.i64_in _ (by omega)
    have hp0 : (pace == 0) = false := by simp; omega
    clear cm cx
    have q := (Quiet.one w1).below w1.heap.size
    have K2 := bel_then K1 q
    have M2 := (M0.next b1).next q
    have X2 := (X0.next b1).next q
    have cm := M2.cell
    have cx := X2.cell
    clear q
    have HC := Lib.hid (And.intro s7 (And.intro s5 hq))
    clear s7 s5 s4 s6 t2 hsn
    have hpn : ¬ pace = 0 := by omega
    have hq1 : (pace != 0) = true := by simp [hpn]
    clear g1 g2 g3
    go_wp2_with fail
    go_region_held3 (fun w' => w'.cell? ⟨w.heap.size, 0, none⟩ = some (.int .i64 m.width) ∧ w'.cell? ⟨w.heap.size, 1, none⟩ = some (.int .i64 m.height) ∧ w'.cell? ⟨w.heap.size, 2, none⟩ = some (.slice A1 n1 c1) ∧ w'.cell? ⟨w.heap.size, 3, none⟩ = some (.slice A2 n2 c2) ∧ w'.cell? ⟨w.heap.size + 1, 2, none⟩ = some (.int .i64 x.seen) ∧ w'.cell? ⟨w.heap.size + 1, 3, none⟩ = some (.int .i64 x.place)) (go_keep)
      (first
        | (go_at_call 83
           refine (l23Field_any _ _ _ _ _ _ m x.place (sn : Int) _ (hm.next K2) HC.out.1 HC.out.2.1 HC.out.2.2).mono ?_
           rintro e w3 ⟨A3, c3, rfl, o3, b3⟩
           have o4 := own_base o3 K2.size
           have K3 := bel_then K2 b3
           clear cm cx
           have cm := (M2.next b3).cell
           have cx := (X2.next b3).cell
           clear b3))
    go_wp2_with fail
    go_ret2
    rw [HR.out]
    exact ⟨_, _, rfl, o4, K3⟩

end Go.Proofs.Ytjcmlloglnkbfaa
