/- Numbers as texts. -/
import Derived.Test.YtlhebjlibhpanaaDoorText
import Derived.Test.YtlhebjlibhpanaaDoorOwn
import Derived.Lib.ItoaMem
namespace Go.Proofs.YtlhebjlibhpanaaDoor
open Go.RowKit

def numT (n : Nat) : ByteArray := ⟨(Lib.decDigits n).toArray⟩
theorem numT_small {n : Nat} (h : n < 10) : numT n = ⟨#[UInt8.ofNat (48 + n)]⟩ := by
  unfold numT
  rw [Lib.decDigits, dif_pos h]
theorem numT_big {n : Nat} (h : ¬ n < 10) : numT n = numT (n / 10) ++ ⟨#[UInt8.ofNat (48 + n % 10)]⟩ := by
  unfold numT
  rw [Lib.decDigits, dif_neg h]
  apply ByteArray.ext
  simp
theorem numT_size (n d : Nat) (h : n < 10 ^ d) (hd : 1 ≤ d) : (numT n).size ≤ d := by
  unfold numT
  show (Lib.decDigits n).toArray.size ≤ d
  rw [List.size_toArray, Lib.decDigits_length]
  induction d generalizing n with
  | zero => omega
  | succ d ih =>
    by_cases h1 : n < 10
    · rw [Lib.nDigits_small h1]; omega
    · rw [Lib.nDigits_big h1]
      have hd1 : 1 ≤ d := by
        rcases Nat.eq_zero_or_pos d with rfl | hp
        · simp at h; omega
        · exact hp
      have := ih (n / 10) (Nat.div_lt_of_lt_mul (by rw [Nat.pow_succ] at h; omega)) hd1
      omega
theorem numT_pos (n : Nat) : 1 ≤ (numT n).size := by
  unfold numT
  show 1 ≤ (Lib.decDigits n).toArray.size
  rw [List.size_toArray, Lib.decDigits_length]
  exact Lib.nDigits_pos n

theorem dig_one : ∀ d : Fin 10, (⟨#[48, 49, 50, 51, 52, 53, 54, 55, 56, 57]⟩ : ByteArray).extract d.val (d.val + 1) = ⟨#[UInt8.ofNat (48 + d.val)]⟩ := by decide +kernel
theorem dig_at (n : Nat) (h : n < 10) : (⟨#[48, 49, 50, 51, 52, 53, 54, 55, 56, 57]⟩ : ByteArray).extract n (n + 1) = ⟨#[UInt8.ofNat (48 + n)]⟩ := dig_one ⟨n, h⟩
theorem l1Num_all (f : Nat) : ∀ (n : Nat) (z : Int) (w : World), z = (n : Int) → n ≤ f → n ≤ 1000000000 →
    Calls Tryd.prog 21 #[.int .i64 z] w fun e w' => e = .returned (.string (numT n)) ∧ Quiet w w' := by
  induction f with
  | zero =>
    rintro n z w rfl hn _
    obtain rfl : n = 0 := by omega
    have HD := Lib.hid (numT_small (n := 0) (by decide))
    go_enter Tryd.func21, Tryd.ntmps21
    go_wp2_with fail
    go_ret
    exact ⟨by rw [HD.out]; rfl, Quiet.refl _⟩
  | succ f ih =>
    rintro n z w rfl hn hb
    by_cases h : n < 10
    · have HD := Lib.hid ((numT_small h).trans (dig_at n h).symm)
      go_enter Tryd.func21, Tryd.ntmps21
      go_wp2_with fail
      go_ret
      exact ⟨by rw [HD.out]; rfl, Quiet.refl _⟩
    · have HD := Lib.hid (numT_big h)
      have HE := Lib.hid (dig_at (n % 10) (Nat.mod_lt _ (by decide)))
      have IH := Lib.hid ih
      have hm : n % 10 < 10 := Nat.mod_lt _ (by decide)
      have hq : n / 10 ≤ f := by omega
      have hq2 : n / 10 ≤ 1000000000 := by omega
      have hz : (n : Int) / 10 = ((n / 10 : Nat) : Int) := by omega
      have Hz := Lib.hid hz
      clear hz
      clear ih
      go_enter Tryd.func21, Tryd.ntmps21
      go_wp2_with fail
      have hA1 : (numT (n / 10)).size ≤ 9 := numT_size _ 9 (by omega) (by decide)
      have hD1 : ((⟨#[48, 49, 50, 51, 52, 53, 54, 55, 56, 57]⟩ : ByteArray).extract (n % 10) (n % 10 + 1)).size ≤ 1 := by rw [HE.out]; exact Nat.le_refl _
      have hS1 : (numT (n / 10)).size + ((⟨#[48, 49, 50, 51, 52, 53, 54, 55, 56, 57]⟩ : ByteArray).extract (n % 10) (n % 10 + 1)).size ≤ 9223372036854775807 := by omega
      have t1 : ((n : Int) % 10).toNat = n % 10 := by omega
      have t2 : ((n : Int) % 10 + 1).toNat = n % 10 + 1 := by omega
      have t3 : (0 : Int) ≤ (n : Int) % 10 := by omega
      have t4 : (n : Int) % 10 ≤ (n : Int) % 10 + 1 := by omega
      have t5 : (n : Int) % 10 + 1 ≤ 10 := by omega
      have t6 : (0 : Int) ≤ (n : Int) % 10 + 1 := by omega
      have t0 : (n : Int).tmod 10 = (n : Int) % 10 := Int.tmod_eq_emod_of_nonneg (by omega)
      have w1 : IntKind.i64.wrap ((n : Int) / 10) = (n : Int) / 10 := IntWalk.i64_in _ (by omega)
      have w2 : IntKind.i64.wrap ((n : Int) % 10) = (n : Int) % 10 := IntWalk.i64_in _ (by omega)
      have w3 : IntKind.i64.wrap ((n : Int) % 10 + 1) = (n : Int) % 10 + 1 := IntWalk.i64_in _ (by omega)
      go_quiet ((go_at_call 21; exact quiet_rightG (IH.out (n / 10) _ _ Hz.out hq hq2)))
      go_wp2_with fail
      go_ret
      exact ⟨by rw [HD.out, ← HE.out]; rfl, Quiet.mk _ _⟩

theorem l1Num_any (n : Nat) (w : World) (hn : n ≤ 1000000000) : Calls Tryd.prog 21 #[.int .i64 (n : Int)] w fun e w' => e = .returned (.string (numT n)) ∧ Quiet w w' := l1Num_all n n n w rfl (Nat.le_refl _) hn
theorem digits_in (n : Nat) : ∀ c ∈ Lib.decDigits n, 48 ≤ c.toNat ∧ c.toNat ≤ 57 := by
  induction n using Nat.strongRecOn with
  | _ n ih =>
    have hd : ∀ d, d < 10 → (UInt8.ofNat (48 + d)).toNat = 48 + d := fun d h => by rw [UInt8.toNat_ofNat']; omega
    rw [Lib.decDigits]
    split
    · rename_i h
      intro c hc
      obtain rfl := List.mem_singleton.1 hc
      rw [hd n h]; omega
    · rename_i h
      intro c hc
      rcases List.mem_append.1 hc with hc | hc
      · exact ih (n / 10) (by omega) c hc
      · obtain rfl := List.mem_singleton.1 hc
        have := Nat.mod_lt n (show 0 < 10 by decide)
        rw [hd _ this]; omega

end Go.Proofs.YtlhebjlibhpanaaDoor
