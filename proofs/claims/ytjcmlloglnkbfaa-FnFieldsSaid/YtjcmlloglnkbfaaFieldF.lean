/- FieldOf, as the program has it. -/
import Derived.Test.YtjcmlloglnkbfaaFieldI
import Derived.Test.YtjcmlloglnkbfaaMapF
namespace Go.Proofs.Ytjcmlloglnkbfaa
open Go.RowKit

def fieldM (m : MapV) (x : Missing) (pace time : Int) : Option (List Int) := if missingB m x && inB pace 60 600 && inB time x.seen 36000 then some (fieldL m.cost.length (nextL m) x.place ((time - x.seen) / pace).toNat) else none
theorem missing_facts {m : MapV} {x : Missing} (h : missingB m x = true) : (1 ≤ m.width ∧ m.width ≤ 6) ∧ (1 ≤ m.height ∧ m.height ≤ 6) ∧ ((m.rise.length : Int) = m.width * m.height ∧ m.cost.length = m.rise.length) ∧ m.cost.length ≤ 36 ∧ (0 ≤ x.place ∧ x.place < m.cost.length) ∧ (0 ≤ x.seen ∧ x.seen ≤ 36000) ∧ isMapB m = true := by
  unfold missingB at h
  simp only [Bool.and_eq_true] at h
  obtain ⟨⟨h1, h2⟩, h3⟩ := h
  obtain ⟨k1, k2, k3, k4⟩ := isMapB_size h1
  have h4 := inB_true h3
  unfold isMissingB at h2
  simp only [Bool.and_eq_true, decide_eq_true_eq] at h2
  have h5 := inB_true h2.1.1.2
  have h6 := inB_true h2.1.2
  have h7 := h1
  unfold isMapB at h7
  simp only [Bool.and_eq_true, decide_eq_true_eq] at h7
  exact ⟨inB_true h7.1.1.1.1, inB_true h7.1.1.1.2, ⟨k1, k2⟩, by omega, by omega, by omega, h1⟩
theorem isPace_any (p : Int) (w : World) : Calls Try.prog 84 #[.int .i64 p] w fun e w' => e = .returned (.bool (inB p 60 600)) ∧ w = w' := by
  go_enter Try.func84, Try.ntmps84
  go_wp2_with (go_at_call 67; refine (inside_any _ _ _ _).mono ?_; rintro e w' ⟨rfl, rfl⟩)
  go_ret
  exact ⟨rfl, rfl⟩

set_option maxRecDepth 100000 in
set_option maxHeartbeats 4000000 in
theorem FieldOf_any (A1 A2 : Option Addr) (n1 n2 c1 c2 : Nat) (m : MapV) (x : Missing) (pace time : Int) (w : World) (hm : SeesMap w A1 n1 A2 n2 m) (hn : n1 ≤ 1048576 ∧ n2 ≤ 1048576) :
    Calls Try.prog 41 #[.agg #[.int .i64 m.width, .int .i64 m.height, .slice A1 n1 c1, .slice A2 n2 c2], .agg #[.int .i64 x.runner, .int .i64 x.start, .int .i64 x.seen, .int .i64 x.place], .int .i64 pace, .int .i64 time] w (GivesInts w (fieldM m x pace time)) := by
  have K0 : Below w.heap.size w ((w.alloc (.cells #[.int .i64 m.width, .int .i64 m.height, .slice A1 n1 c1, .slice A2 n2 c2] 29)).alloc (.cells #[.int .i64 x.runner, .int .i64 x.start, .int .i64 x.seen, .int .i64 x.place] 31)) := ((Below.refl _ _).alloc (Nat.le_refl _) _).alloc (by simp) _
  have M0 : Blk ((w.alloc (.cells #[.int .i64 m.width, .int .i64 m.height, .slice A1 n1 c1, .slice A2 n2 c2] 29)).alloc (.cells #[.int .i64 x.runner, .int .i64 x.start, .int .i64 x.seen, .int .i64 x.place] 31)) w.heap.size 29 [.int .i64 m.width, .int .i64 m.height, .slice A1 n1 c1, .slice A2 n2 c2] := (Blk.at_ rfl).alloc _
  have X0 : Blk ((w.alloc (.cells #[.int .i64 m.width, .int .i64 m.height, .slice A1 n1 c1, .slice A2 n2 c2] 29)).alloc (.cells #[.int .i64 x.runner, .int .i64 x.start, .int .i64 x.seen, .int .i64 x.place] 31)) (w.heap.size + 1) 31 [.int .i64 x.runner, .int .i64 x.start, .int .i64 x.seen, .int .i64 x.place] := Blk.at_ (by simp)
  have HL2 := Lib.hid hm.f2.icount
  go_enter Try.func41, Try.ntmps41
  go_wp2_with fail
  refine (IsMissing_any _ _ _ _ _ _ m x _ (hm.next K0) hn).mono ?_
  rintro e w1 ⟨rfl, b1⟩
  have K1 := bel_then K0 b1
  have M1 := M0.next b1
  have X1 := X0.next b1
  have cm := M1.cell
  have cx := X1.cell
  cases g1 : missingB m x
  · have HR := Lib.hid (show fieldM m x pace time = none by simp [fieldM, g1])
    clear g1
    go_wp2_with fail
    go_ret2
    rw [HR.out]
    exact gives_nil K1
  cases g2 : inB pace 60 600
  · have HR := Lib.hid (show fieldM m x pace time = none by simp [fieldM, g2])
    have HG := Lib.hid g2
    clear g1 g2
    go_wp2_with fail
    refine (isPace_any _ _).mono ?_
    rintro e w' ⟨rfl, rfl⟩
    rw [HG.out]
    go_wp2_with fail
    go_ret2
    rw [HR.out]
    exact gives_nil K1
  cases g3 : inB time x.seen 36000
  · have HR := Lib.hid (show fieldM m x pace time = none by simp [fieldM, g3])
    have HG := Lib.hid g2
    have HG3 := Lib.hid g3
    clear g1 g2 g3
    go_wp2_with fail
    refine (isPace_any _ _).mono ?_
    rintro e w' ⟨rfl, rfl⟩
    rw [HG.out]
    go_wp2_with fail
    refine (inside_any _ _ _ _).mono ?_
    rintro e w' ⟨rfl, rfl⟩
    rw [HG3.out]
    go_wp2_with fail
    go_ret2
    rw [HR.out]
    exact gives_nil K1
  · have HR := Lib.hid (show fieldM m x pace time = some (fieldL m.cost.length (nextL m) x.place ((time - x.seen) / pace).toNat) by simp [fieldM, g1, g2, g3])
    have HG := Lib.hid g2
    have HG3 := Lib.hid g3
    obtain ⟨s1, -, -, s4, s5, s6, -⟩ := missing_facts g1
    have t1 := inB_true g2
    have t2 := inB_true g3
    have HL3 := HL2.out
    have s5' : 0 ≤ x.place ∧ x.place < n2 := by omega
    have hn36 : n2 ≤ 36 := by omega
    have t3 : 0 ≤ time - x.seen ∧ time - x.seen ≤ 100000 := by omega
    have HC := Lib.hid (And.intro s1 (And.intro s5' (And.intro t1 (And.intro t3 hn36))))
    clear g1 g2 g3 HL3 s1 s4 s5 s6 t1 t2 s5' t3 hn36
    go_wp2_with fail
    refine (isPace_any _ _).mono ?_
    rintro e w' ⟨rfl, rfl⟩
    rw [HG.out]
    go_wp2_with fail
    refine (inside_any _ _ _ _).mono ?_
    rintro e w' ⟨rfl, rfl⟩
    rw [HG3.out]
    go_wp2_with fail
    refine (fieldOf_any _ _ _ _ _ _ m x pace time _ (hm.next K1) HC.out.2.2.2.2 HC.out.1 HC.out.2.1 HC.out.2.2.1 HC.out.2.2.2.1).mono ?_
    rintro e w3 ⟨A3, c3, rfl, o3, b3⟩
    have o4 := own_base o3 K1.size
    have K3 := bel_then K1 b3
    go_wp2_with fail
    go_ret2
    rw [HR.out]
    exact ⟨_, _, rfl, o4, K3⟩

end Go.Proofs.Ytjcmlloglnkbfaa
