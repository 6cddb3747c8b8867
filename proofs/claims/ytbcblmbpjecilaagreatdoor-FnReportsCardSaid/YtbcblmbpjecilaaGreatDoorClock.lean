/- Clock texts, as the program and as the reference write them. -/
import Derived.Test.YtbcblmbpjecilaaGreatDoorShelfDZD
import Derived.Test.YtbcblmbpjecilaaGreatDoorNum
import Derived.Test.YtbcblmbpjecilaaGreatDoorText
namespace Go.Proofs.YtbcblmbpjecilaaGreatDoor
open Go.RowKit

def twoT (n : Nat) : ByteArray := numT (n / 10) ++ numT (n % 10)
def clockT (t : Nat) : ByteArray :=
  if 3600 ≤ t then numT (t / 3600) ++ ⟨#[58]⟩ ++ (twoT (t / 60 % 60) ++ ⟨#[58]⟩ ++ twoT (t % 60)) else twoT (t / 60 % 60) ++ ⟨#[58]⟩ ++ twoT (t % 60)
def clockText (z : Int) : ByteArray × Bool := if 0 ≤ z ∧ z ≤ 36000 then (clockT z.toNat, true) else (ByteArray.empty, false)
theorem num1 {n : Nat} (h : n < 10) : (numT n).size ≤ 1 := numT_size n 1 h (by decide)
theorem num2 {n : Nat} (h : n < 100) : (numT n).size ≤ 2 := numT_size n 2 h (by decide)
theorem two_size (n : Nat) (h : n < 100) : (twoT n).size ≤ 2 := by
  have := num1 (n := n / 10) (by omega)
  have := num1 (n := n % 10) (by omega)
  unfold twoT
  rw [ByteArray.size_append]; omega
theorem Itoa_z (n : Nat) (z : Int) (w : World) (hz : z = (n : Int)) (hn : n < 100) :
    Calls Tryz.prog 42 #[.int .i64 z] w fun e w' => e = .returned (.string (numT n)) ∧ Quiet w w' := by
  subst hz
  exact (sh_strconv_Itoa_small n hn w).mono fun e w' ⟨he, hw⟩ => ⟨he, hw ▸ Quiet.refl _⟩
theorem Num_z (n : Nat) (z : Int) (w : World) (hz : z = (n : Int)) (hn : n < 100) :
    Calls Tryz.prog 44 #[.int .i64 z] w fun e w' => e = .returned (.string (numT n)) ∧ Quiet w w' :=
  l1Num_all n n z w hz (Nat.le_refl _) (by omega)

theorem twoDigits_any (n : Nat) (z : Int) (w : World) (hz : z = (n : Int)) (hn : n < 100) :
    Calls Tryz.prog 41 #[.int .i64 z] w fun e w' => e = .returned (.string (twoT n)) ∧ Quiet w w' := by
  subst hz
  have HD := Lib.hid (show twoT n = numT (n / 10) ++ numT (n % 10) from rfl)
  have hA := num1 (n := n / 10) (by omega)
  have hB := num1 (n := n % 10) (by omega)
  have hS : (numT (n / 10)).size + (numT (n % 10)).size ≤ 9223372036854775807 := by omega
  have hS2 : ¬ 9223372036854775807 < (numT (n / 10)).size + (numT (n % 10)).size := by omega
  have hq : n / 10 < 100 := by omega
  have hr : n % 10 < 100 := by omega
  have Hz1 := Lib.hid (show (n : Int) / 10 = ((n / 10 : Nat) : Int) by omega)
  have Hz2 := Lib.hid (show (n : Int) % 10 = ((n % 10 : Nat) : Int) by omega)
  have t0 : (n : Int).tmod 10 = (n : Int) % 10 := Int.tmod_eq_emod_of_nonneg (by omega)
  have w1 : IntKind.i64.wrap ((n : Int) / 10) = (n : Int) / 10 := IntWalk.i64_in _ (by omega)
  have w2 : IntKind.i64.wrap ((n : Int) % 10) = (n : Int) % 10 := IntWalk.i64_in _ (by omega)
  go_enter Tryz.func41, Tryz.ntmps41
  go_wp2_with fail
  refine (Itoa_z (n / 10) _ _ Hz1.out hq).mono ?_
  rintro e w1 ⟨rfl, q1⟩
  go_wp2_with fail
  refine (Itoa_z (n % 10) _ _ Hz2.out hr).mono ?_
  rintro e w2 ⟨rfl, q2⟩
  go_wp2_with fail
  go_ret
  exact ⟨by rw [HD.out]; rfl, q1.trans q2⟩

theorem l26Two_any (n : Nat) (z : Int) (w : World) (hz : z = (n : Int)) (hn : n < 100) :
    Calls Tryz.prog 43 #[.int .i64 z] w fun e w' => e = .returned (.string (twoT n)) ∧ Quiet w w' := by
  subst hz
  have HD := Lib.hid (show twoT n = numT (n / 10) ++ numT (n % 10) from rfl)
  have hA := num1 (n := n / 10) (by omega)
  have hB := num1 (n := n % 10) (by omega)
  have hS : (numT (n / 10)).size + (numT (n % 10)).size ≤ 9223372036854775807 := by omega
  have hS2 : ¬ 9223372036854775807 < (numT (n / 10)).size + (numT (n % 10)).size := by omega
  have hq : n / 10 < 100 := by omega
  have hr : n % 10 < 100 := by omega
  have Hz1 := Lib.hid (show (n : Int) / 10 = ((n / 10 : Nat) : Int) by omega)
  have Hz2 := Lib.hid (show (n : Int) % 10 = ((n % 10 : Nat) : Int) by omega)
  have t0 : (n : Int).tmod 10 = (n : Int) % 10 := Int.tmod_eq_emod_of_nonneg (by omega)
  have w1 : IntKind.i64.wrap ((n : Int) / 10) = (n : Int) / 10 := IntWalk.i64_in _ (by omega)
  have w2 : IntKind.i64.wrap ((n : Int) % 10) = (n : Int) % 10 := IntWalk.i64_in _ (by omega)
  go_enter Tryz.func43, Tryz.ntmps43
  go_wp2_with fail
  refine (Num_z (n / 10) _ _ Hz1.out hq).mono ?_
  rintro e w1 ⟨rfl, q1⟩
  go_wp2_with fail
  refine (Num_z (n % 10) _ _ Hz2.out hr).mono ?_
  rintro e w2 ⟨rfl, q2⟩
  go_wp2_with fail
  go_ret
  exact ⟨by rw [HD.out]; rfl, q1.trans q2⟩

set_option maxRecDepth 100000 in
theorem clockText_any (n : Nat) (z : Int) (w : World) (hz : z = (n : Int)) (hn : n ≤ 36000) :
    Calls Tryz.prog 24 #[.int .i64 z] w fun e w' => e = .returned (.string (clockT n)) ∧ Quiet w w' := by
  subst hz
  have hA := two_size (n / 60 % 60) (by omega)
  have hB := two_size (n % 60) (by omega)
  have hC := num2 (n := n / 3600) (by omega)
  have hq : n / 60 % 60 < 100 := by omega
  have hr : n % 60 < 100 := by omega
  have hh : n / 3600 < 100 := by omega
  have e1 : (⟨#[58]⟩ : ByteArray).size = 1 := rfl
  have HD := Lib.hid (show clockT n = if 3600 ≤ n then numT (n / 3600) ++ ⟨#[58]⟩ ++ (twoT (n / 60 % 60) ++ ⟨#[58]⟩ ++ twoT (n % 60)) else twoT (n / 60 % 60) ++ ⟨#[58]⟩ ++ twoT (n % 60) from rfl)
  have Hz1 := Lib.hid (show (n : Int) / 60 % 60 = ((n / 60 % 60 : Nat) : Int) by omega)
  have Hz2 := Lib.hid (show (n : Int) % 60 = ((n % 60 : Nat) : Int) by omega)
  have Hz3 := Lib.hid (show (n : Int) / 3600 = ((n / 3600 : Nat) : Int) by omega)
  go_enter Tryz.func24, Tryz.ntmps24
  go_wp2_with fail
  refine (twoDigits_any (n / 60 % 60) _ _ Hz1.out hq).mono ?_
  rintro e w1 ⟨rfl, q1⟩
  go_wp2_with fail
  refine (twoDigits_any (n % 60) _ _ Hz2.out hr).mono ?_
  rintro e w2 ⟨rfl, q2⟩
  by_cases hc : 3600 ≤ n
  · have hc1 : (0 : Int) < (n : Int) / 3600 := by omega
    have hc2 : (3600 : Int) ≤ (n : Int) := by omega
    have HC := Lib.hid (HD.out.trans (if_pos hc))
    clear hc HD
    go_wp2_with fail
    refine (Itoa_z (n / 3600) _ _ Hz3.out hh).mono ?_
    rintro e w3 ⟨rfl, q3⟩
    go_wp2_with fail
    go_ret
    exact ⟨by rw [HC.out]; rfl, (q1.trans q2).trans q3⟩
  · have hc1 : (n : Int) / 3600 ≤ 0 := by omega
    have hc2 : (n : Int) < 3600 := by omega
    go_wp2_with fail
    go_ret
    exact ⟨by rw [HD.out, if_neg hc]; rfl, q1.trans q2⟩

set_option maxRecDepth 100000 in
theorem l26Clock_any (n : Nat) (z : Int) (w : World) (hz : z = (n : Int)) (hn : n ≤ 36000) :
    Calls Tryz.prog 26 #[.int .i64 z] w fun e w' => e = .returned (.string (clockT n)) ∧ Quiet w w' := by
  subst hz
  have hA := two_size (n / 60 % 60) (by omega)
  have hB := two_size (n % 60) (by omega)
  have hC := num2 (n := n / 3600) (by omega)
  have hq : n / 60 % 60 < 100 := by omega
  have hr : n % 60 < 100 := by omega
  have hh : n / 3600 < 100 := by omega
  have e1 : (⟨#[58]⟩ : ByteArray).size = 1 := rfl
  have HD := Lib.hid (show clockT n = if 3600 ≤ n then numT (n / 3600) ++ ⟨#[58]⟩ ++ (twoT (n / 60 % 60) ++ ⟨#[58]⟩ ++ twoT (n % 60)) else twoT (n / 60 % 60) ++ ⟨#[58]⟩ ++ twoT (n % 60) from rfl)
  have Hz1 := Lib.hid (show (n : Int) / 60 % 60 = ((n / 60 % 60 : Nat) : Int) by omega)
  have Hz2 := Lib.hid (show (n : Int) % 60 = ((n % 60 : Nat) : Int) by omega)
  have Hz3 := Lib.hid (show (n : Int) / 3600 = ((n / 3600 : Nat) : Int) by omega)
  go_enter Tryz.func26, Tryz.ntmps26
  go_wp2_with fail
  refine (l26Two_any (n / 60 % 60) _ _ Hz1.out hq).mono ?_
  rintro e w1 ⟨rfl, q1⟩
  go_wp2_with fail
  refine (l26Two_any (n % 60) _ _ Hz2.out hr).mono ?_
  rintro e w2 ⟨rfl, q2⟩
  by_cases hc : 3600 ≤ n
  · have hc1 : (0 : Int) < (n : Int) / 3600 := by omega
    have hc2 : (3600 : Int) ≤ (n : Int) := by omega
    have HC := Lib.hid (HD.out.trans (if_pos hc))
    clear hc HD
    go_wp2_with fail
    refine (Num_z (n / 3600) _ _ Hz3.out hh).mono ?_
    rintro e w3 ⟨rfl, q3⟩
    go_wp2_with fail
    go_ret
    exact ⟨by rw [HC.out]; rfl, (q1.trans q2).trans q3⟩
  · have hc1 : (n : Int) / 3600 ≤ 0 := by omega
    have hc2 : (n : Int) < 3600 := by omega
    go_wp2_with fail
    go_ret
    exact ⟨by rw [HD.out, if_neg hc]; rfl, q1.trans q2⟩

theorem ClockText_any (z : Int) (w : World) :
    Calls Tryz.prog 6 #[.int .i64 z] w fun e w' => e = .returned (.tuple #[.string (clockText z).1, .bool (clockText z).2]) ∧ Below w.heap.size w w' := by
  by_cases hc : 0 ≤ z ∧ z ≤ 36000
  · have HD := Lib.hid (show clockText z = (clockT z.toNat, true) from if_pos hc)
    have HB := Lib.hid (show inB z 0 36000 = true by simp [inB, hc.1, hc.2])
    have HZ := Lib.hid (show z = (z.toNat : Int) by omega)
    have hz : z.toNat ≤ 36000 := by omega
    clear hc
    go_enter Tryz.func6, Tryz.ntmps6
    go_wp2_with (first | (go_at_call 25; refine (l1In_any _ _ _ _).mono ?_; rw [HB.out]; rintro e w' ⟨rfl, rfl⟩) | (go_at_call 23; refine (isTime_any _ _).mono ?_; rw [HB.out]; rintro e w' ⟨rfl, rfl⟩))
    refine (clockText_any z.toNat _ _ HZ.out hz).mono ?_
    rintro e w1 ⟨rfl, q1⟩
    go_wp2_with fail
    go_ret2
    exact ⟨by rw [HD.out]; rfl, q1.below _⟩
  · have HD := Lib.hid (show clockText z = (ByteArray.empty, false) from if_neg hc)
    have HB := Lib.hid (show inB z 0 36000 = false by unfold inB; rw [Bool.eq_false_iff]; intro h; exact hc (by simpa using h))
    clear hc
    go_enter Tryz.func6, Tryz.ntmps6
    go_wp2_with (first | (go_at_call 25; refine (l1In_any _ _ _ _).mono ?_; rw [HB.out]; rintro e w' ⟨rfl, rfl⟩) | (go_at_call 23; refine (isTime_any _ _).mono ?_; rw [HB.out]; rintro e w' ⟨rfl, rfl⟩))
    go_ret2
    exact ⟨by rw [HD.out]; rfl, Below.refl _ _⟩

theorem specClockText_any (z : Int) (w : World) :
    Calls Tryz.prog 7 #[.int .i64 z] w fun e w' => e = .returned (.tuple #[.string (clockText z).1, .bool (clockText z).2]) ∧ Below w.heap.size w w' := by
  by_cases hc : 0 ≤ z ∧ z ≤ 36000
  · have HD := Lib.hid (show clockText z = (clockT z.toNat, true) from if_pos hc)
    have HB := Lib.hid (show inB z 0 36000 = true by simp [inB, hc.1, hc.2])
    have HZ := Lib.hid (show z = (z.toNat : Int) by omega)
    have hz : z.toNat ≤ 36000 := by omega
    clear hc
    go_enter Tryz.func7, Tryz.ntmps7
    go_wp2_with (first | (go_at_call 25; refine (l1In_any _ _ _ _).mono ?_; rw [HB.out]; rintro e w' ⟨rfl, rfl⟩) | (go_at_call 23; refine (isTime_any _ _).mono ?_; rw [HB.out]; rintro e w' ⟨rfl, rfl⟩))
    refine (l26Clock_any z.toNat _ _ HZ.out hz).mono ?_
    rintro e w1 ⟨rfl, q1⟩
    go_wp2_with fail
    go_ret2
    exact ⟨by rw [HD.out]; rfl, q1.below _⟩
  · have HD := Lib.hid (show clockText z = (ByteArray.empty, false) from if_neg hc)
    have HB := Lib.hid (show inB z 0 36000 = false by unfold inB; rw [Bool.eq_false_iff]; intro h; exact hc (by simpa using h))
    clear hc
    go_enter Tryz.func7, Tryz.ntmps7
    go_wp2_with (first | (go_at_call 25; refine (l1In_any _ _ _ _).mono ?_; rw [HB.out]; rintro e w' ⟨rfl, rfl⟩) | (go_at_call 23; refine (isTime_any _ _).mono ?_; rw [HB.out]; rintro e w' ⟨rfl, rfl⟩))
    go_ret2
    exact ⟨by rw [HD.out]; rfl, Below.refl _ _⟩

end Go.Proofs.YtbcblmbpjecilaaGreatDoor
