/- Lists of integers: l1Has, ascending; the greatest common divisor: as the program and as the reference have them. -/
import Derived.Test.YtkchdhmnomelkaaGreatS1
import Derived.Test.YtkchdhmnomelkaaGreatLib1
namespace Go.Proofs.YtkchdhmnomelkaaGreat
open Go.RowKit

def hasI (xs : List Int) (v : Int) : Bool := xs.any fun x => decide (v = x)
def risingAt (lo hi : Int) (xs : List Int) (k : Nat) : Bool :=
  match xs[k]? with
  | none => false
  | some x => inB x lo hi && (k == 0 || (match xs[k - 1]? with | none => false | some p => decide (p < x)))
def risingB (lo hi : Int) (xs : List Int) : Bool := allTo xs.length (risingAt lo hi xs)
theorem risingAt_in {lo hi : Int} {xs : List Int} {k : Nat} (hk : k < xs.length) (h : inB xs[k] lo hi = false) : risingAt lo hi xs k = false := by simp [risingAt, List.getElem?_eq_getElem hk, h]
theorem risingAt_zero {lo hi : Int} {xs : List Int} (hk : 0 < xs.length) (h : inB xs[0] lo hi = true) : risingAt lo hi xs 0 = true := by simp [risingAt, List.getElem?_eq_getElem hk, h]
theorem risingAt_succ {lo hi : Int} {xs : List Int} {k : Nat} (hk : k + 1 < xs.length) (h : inB xs[k + 1] lo hi = true) : risingAt lo hi xs (k + 1) = decide (xs[k] < xs[k + 1]) := by
  have hk' : k < xs.length := by omega
  simp [risingAt, List.getElem?_eq_getElem hk, List.getElem?_eq_getElem hk', h]

theorem l1Has_any (A : Option Addr) (n c : Nat) (xs : List Int) (v0 : Int) (w : World) (hx : Sees w 0 1 A n (ints xs)) (hn : n ≤ 140737488355328) :
    Calls Tryz.prog 52 #[.slice A n c, .int .i64 v0] w fun e w' => e = .returned (.bool (hasI xs v0)) ∧ Quiet w w' := by
  have hl := hx.icount
  go_enter Tryz.func52, Tryz.ntmps52
  go_wp2_with fail
  go_loopw [5] (fun v wr => ∃ k : Nat, k ≤ n ∧ v = .int .i64 k ∧ Hid ((xs.take k).any (fun x => decide (v0 = x)) = false) ∧ Quiet w wr) (fun v _ => n - (intOf v).toNat)
  case atStart => exact ⟨0, Nat.zero_le _, rfl, by simp [Hid], Quiet.refl _⟩
  case round =>
    obtain ⟨k, hk, rfl, ht, hq⟩ := hrel
    by_cases hlt : k < n
    · obtain ⟨b, off, rfl, hkx, hcx⟩ := (hx.quiet hq).int hlt
      by_cases hv : xs[k] = v0
      · have hv' : (xs[k] == v0) = true := by simp [hv]
        have HV := Lib.hid (show hasI xs v0 = true by rw [hasI, List.any_eq_true]; exact ⟨_, List.getElem_mem hkx, by simp [hv]⟩)
        clear hv
        go_wp2_with fail
        go_ret
        exact ⟨ret_bool HV.out.symm, hq⟩
      · have hv' : (xs[k] == v0) = false := by simp [hv]
        have HV := Lib.hid (any_take_succ hkx ht.out (by simp only [decide_eq_false_iff_not]; exact fun e => hv e.symm))
        clear hv
        go_wp2_with fail
        go_roundw
        case rel => exact ⟨k + 1, by omega, by go_num, HV, hq⟩
        case measure => simp [intOf]; omega
    · go_wp2_with fail
      go_ret
      have h := ht.out
      rw [List.take_of_length_le (by omega)] at h
      exact ⟨ret_bool h.symm, hq⟩

set_option maxRecDepth 100000 in
theorem l1Rising_any (A : Option Addr) (n c : Nat) (xs : List Int) (lo hi : Int) (w : World) (hx : Sees w 0 1 A n (ints xs)) (hn : n ≤ 1048576) :
    Calls Tryz.prog 51 #[.slice A n c, .int .i64 lo, .int .i64 hi] w fun e w' => e = .returned (.bool (risingB lo hi xs)) ∧ Quiet w w' := by
  have hl := hx.icount
  have HS : Hid (risingB lo hi xs = allTo n (risingAt lo hi xs)) := Lib.hid (by rw [risingB, hl])
  go_enter Tryz.func51, Tryz.ntmps51
  go_wp2_with fail
  go_loopw [7] (fun v wr => ∃ k : Nat, k ≤ n ∧ v = .int .i64 k ∧ Hid (allTo k (risingAt lo hi xs) = true) ∧ Quiet w wr) (fun v _ => n - (intOf v).toNat)
  case atStart => exact ⟨0, Nat.zero_le _, rfl, Lib.hid (allTo_zero _), Quiet.refl _⟩
  case round =>
    obtain ⟨k, hk, rfl, ht, hq⟩ := hrel
    by_cases hlt : k < n
    · obtain ⟨b, off, hA, hkx, x0⟩ := (hx.quiet hq).int hlt
      have HA := Lib.hid hA
      cases g1 : inB xs[k] lo hi
      · have HF := Lib.hid (allTo_false (n := n) (p := risingAt lo hi xs) hlt (risingAt_in hkx g1))
        subst hA
        go_wp2_with fail
        go_quiet ((go_at_call 54; exact quiet_left (l1In_any _ _ _ _)))
        go_wp2_with fail
        go_ret
        exact ⟨ret_bool (by rw [HS.out, HF.out]), hq.more _⟩
      · rcases Nat.eq_zero_or_pos k with hk0 | hk0
        · subst hk0
          have HT := Lib.hid (allTo_succ ht.out (risingAt_zero hkx g1))
          simp only [Nat.add_zero] at x0
          subst hA
          go_wp2_with fail
          go_quiet ((go_at_call 54; exact quiet_left (l1In_any _ _ _ _)))
          go_wp2_with fail
          go_roundw
          case rel => exact ⟨0 + 1, by omega, by go_num, HT, hq.more _⟩
          case measure => simp [intOf]; omega
        · obtain ⟨j, rfl⟩ : ∃ j, k = j + 1 := ⟨k - 1, by omega⟩
          have hz : decide ((0 : Int) < ((j + 1 : Nat) : Int)) = true := decide_eq_true (by omega)
          obtain ⟨b', off', hA', hjx, y0⟩ := (hx.quiet hq).int (show j < n by omega)
          rw [HA.out] at hA'
          injection hA' with hA'
          injection hA' with e1 e2
          subst e1 e2
          have hw1 : IntKind.i64.wrap (((j + 1 : Nat) : Int) - 1) = (j : Int) := by rw [IntWalk.i64_in _ (by omega)]; omega
          by_cases hlt2 : xs[j] < xs[j + 1]
          · have HT := Lib.hid (allTo_succ ht.out (by rw [risingAt_succ hkx g1]; simp [hlt2]))
            have hge : decide (xs[j + 1] ≤ xs[j]) = false := decide_eq_false (by omega)
            subst hA
            go_wp2_with fail
            go_quiet ((go_at_call 54; exact quiet_left (l1In_any _ _ _ _)))
            go_wp2_with fail
            go_roundw
            case rel => exact ⟨j + 1 + 1, by omega, by go_num, HT, hq.more _⟩
            case measure => simp [intOf]; omega
          · have HF := Lib.hid (allTo_false (n := n) (p := risingAt lo hi xs) hlt (by rw [risingAt_succ hkx g1]; simp [hlt2]))
            have hge : decide (xs[j + 1] ≤ xs[j]) = true := decide_eq_true (by omega)
            subst hA
            go_wp2_with fail
            go_quiet ((go_at_call 54; exact quiet_left (l1In_any _ _ _ _)))
            go_wp2_with fail
            go_ret
            exact ⟨ret_bool (by rw [HS.out, HF.out]), hq.more _⟩
    · obtain rfl : k = n := by omega
      go_wp2_with fail
      go_ret
      exact ⟨ret_bool (by rw [HS.out, ht.out]), hq⟩

set_option maxRecDepth 100000 in
theorem ascending_any (A : Option Addr) (n c : Nat) (xs : List Int) (lo hi : Int) (w : World) (hx : Sees w 0 1 A n (ints xs)) (hn : n ≤ 1048576) :
    Calls Tryz.prog 66 #[.slice A n c, .int .i64 lo, .int .i64 hi] w fun e w' => e = .returned (.bool (risingB lo hi xs)) ∧ Quiet w w' := by
  have hl := hx.icount
  have HS : Hid (risingB lo hi xs = allTo n (risingAt lo hi xs)) := Lib.hid (by rw [risingB, hl])
  go_enter Tryz.func66, Tryz.ntmps66
  go_wp2_with fail
  go_loopw [11] (fun v wr => ∃ k : Nat, k ≤ n ∧ v = .int .i64 k ∧ Hid (allTo k (risingAt lo hi xs) = true) ∧ Quiet w wr) (fun v _ => n - (intOf v).toNat)
  case atStart => exact ⟨0, Nat.zero_le _, rfl, Lib.hid (allTo_zero _), Quiet.refl _⟩
  case round =>
    obtain ⟨k, hk, rfl, ht, hq⟩ := hrel
    by_cases hlt : k < n
    · obtain ⟨b, off, hA, hkx, x0⟩ := (hx.quiet hq).int hlt
      have HA := Lib.hid hA
      cases g1 : inB xs[k] lo hi
      · have HF := Lib.hid (allTo_false (n := n) (p := risingAt lo hi xs) hlt (risingAt_in hkx g1))
        subst hA
        go_wp2_with (go_at_call 70; refine (inside_any _ _ _ _).mono ?_; rintro e w' ⟨rfl, rfl⟩)
        go_ret
        exact ⟨ret_bool (by rw [HS.out, HF.out]), hq⟩
      · rcases Nat.eq_zero_or_pos k with hk0 | hk0
        · subst hk0
          have HT := Lib.hid (allTo_succ ht.out (risingAt_zero hkx g1))
          simp only [Nat.add_zero] at x0
          subst hA
          go_wp2_with (go_at_call 70; refine (inside_any _ _ _ _).mono ?_; rintro e w' ⟨rfl, rfl⟩)
          go_roundw
          case rel => exact ⟨0 + 1, by omega, by go_num, HT, hq⟩
          case measure => simp [intOf]; omega
        · obtain ⟨j, rfl⟩ : ∃ j, k = j + 1 := ⟨k - 1, by omega⟩
          have hz : decide ((0 : Int) < ((j + 1 : Nat) : Int)) = true := decide_eq_true (by omega)
          obtain ⟨b', off', hA', hjx, y0⟩ := (hx.quiet hq).int (show j < n by omega)
          rw [HA.out] at hA'
          injection hA' with hA'
          injection hA' with e1 e2
          subst e1 e2
          have hw1 : IntKind.i64.wrap (((j + 1 : Nat) : Int) - 1) = (j : Int) := by rw [IntWalk.i64_in _ (by omega)]; omega
          by_cases hlt2 : xs[j] < xs[j + 1]
          · have HT := Lib.hid (allTo_succ ht.out (by rw [risingAt_succ hkx g1]; simp [hlt2]))
            have hge : decide (xs[j + 1] ≤ xs[j]) = false := decide_eq_false (by omega)
            subst hA
            go_wp2_with (go_at_call 70; refine (inside_any _ _ _ _).mono ?_; rintro e w' ⟨rfl, rfl⟩)
            go_roundw
            case rel => exact ⟨j + 1 + 1, by omega, by go_num, HT, hq⟩
            case measure => simp [intOf]; omega
          · have HF := Lib.hid (allTo_false (n := n) (p := risingAt lo hi xs) hlt (by rw [risingAt_succ hkx g1]; simp [hlt2]))
            have hge : decide (xs[j + 1] ≤ xs[j]) = true := decide_eq_true (by omega)
            subst hA
            go_wp2_with (go_at_call 70; refine (inside_any _ _ _ _).mono ?_; rintro e w' ⟨rfl, rfl⟩)
            go_ret
            exact ⟨ret_bool (by rw [HS.out, HF.out]), hq⟩
    · obtain rfl : k = n := by omega
      go_wp2_with fail
      go_ret
      exact ⟨ret_bool (by rw [HS.out, ht.out]), hq⟩

end Go.Proofs.YtkchdhmnomelkaaGreat

