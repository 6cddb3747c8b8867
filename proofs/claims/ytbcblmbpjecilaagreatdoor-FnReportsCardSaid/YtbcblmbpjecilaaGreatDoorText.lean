/- Strings: words, the law's own mark texts. -/
import Derived.Test.YtbcblmbpjecilaaGreatDoorS0
namespace Go.Proofs.YtbcblmbpjecilaaGreatDoor
open Go.RowKit

/-- a small letter -/
def lowB (c : UInt8) : Bool := decide (97 ≤ c.toNat) && decide (c.toNat ≤ 122)
def wordB (s : ByteArray) : Bool := s.data.toList.all lowB && inB s.size 1 10
theorem bytes_all {p : UInt8 → Bool} (s : ByteArray) (h : ∀ k (hk : k < s.size), p s[k] = true) : s.data.toList.all p = true := by
  rw [List.all_eq_true]
  intro x hx
  obtain ⟨k, hk, rfl⟩ := List.getElem_of_mem hx
  exact h k (by simpa using hk)
theorem bytes_not {p : UInt8 → Bool} (s : ByteArray) (k : Nat) (hk : k < s.size) (h : p s[k] = false) : s.data.toList.all p = false := by
  rw [List.all_eq_false]
  exact ⟨s[k], List.mem_of_getElem (i := k) (h := by simpa using hk) rfl, by simp [h]⟩
theorem str_beq (a b : ByteArray) : (a.toList == b.toList) = decide (a = b) := by
  rw [Bool.eq_iff_iff, ByteArray.toList_eq, ByteArray.toList_eq]
  simp only [beq_iff_eq, decide_eq_true_eq]
  exact ⟨fun h => ByteArray.ext (Array.toList_inj.1 h), fun h => by rw [h]⟩
theorem lowB_at {c : UInt8} : lowB c = true ↔ 97 ≤ (c.toNat : Int) ∧ (c.toNat : Int) ≤ 122 := by simp [lowB]; omega

set_option maxHeartbeats 400000 in
theorem isWord_any (s : ByteArray) (w : World) (hs : s.size ≤ 9223372036854775807) :
    Calls Tryz.prog 56 #[.string s] w fun e w' => e = .returned (.bool (wordB s)) ∧ w = w' := by
  go_enter Tryz.func56, Tryz.ntmps56
  go_wp2
  go_loop [3] (fun i => ∃ k : Nat, k ≤ s.size ∧ i = .int .i64 k ∧ ∀ j (hj : j < s.size), j < k → lowB s[j] = true) (fun i => s.size - (intOf i).toNat)
  case atStart => exact ⟨0, Nat.zero_le _, rfl, fun j _ h => absurd h (by omega)⟩
  case round =>
    obtain ⟨k, hk, rfl, ha⟩ := hrel
    by_cases hlt : k < s.size
    · cases g : lowB s[k]
      · have hn : ¬ (97 ≤ (s[k].toNat : Int) ∧ (s[k].toNat : Int) ≤ 122) := fun h => by rw [lowB_at.2 h] at g; cases g
        have hr := Lib.hid (show wordB s = false by rw [wordB, bytes_not s k hlt g]; rfl)
        clear g ha
        go_wp2
        all_goals first | (go_ret; exact ⟨ret_bool hr.out.symm, rfl⟩) | (exfalso; omega)
      · have hn := lowB_at.1 g
        have ha' := Lib.hid (show ∀ j (hj : j < s.size), j < k + 1 → lowB s[j] = true by
          intro j hj h
          by_cases hjk : j = k
          · subst hjk; exact g
          · exact ha j hj (by omega))
        clear g ha
        go_wp2
        all_goals first | (exfalso; omega) | skip
        go_round
        case rel => exact ⟨k + 1, by omega, by go_num, ha'.out⟩
        case measure => simp [intOf]; omega
    · have hr := Lib.hid (show wordB s = inB s.size 1 10 by rw [wordB, bytes_all s fun j hj => ha j hj (by omega)]; rfl)
      clear ha
      go_wp2_with (go_at_call 29; refine (inside_any _ _ _ _).mono ?_; rintro e w' ⟨rfl, rfl⟩)
      go_ret
      exact ⟨ret_bool hr.out.symm, rfl⟩

set_option maxHeartbeats 400000 in
theorem l2Word_any (s : ByteArray) (w : World) (hs : s.size ≤ 9223372036854775807) :
    Calls Tryz.prog 75 #[.string s] w fun e w' => e = .returned (.bool (wordB s)) ∧ w = w' := by
  go_enter Tryz.func75, Tryz.ntmps75
  go_wp2
  go_loop [3] (fun i => ∃ k : Nat, k ≤ s.size ∧ i = .int .i64 k ∧ ∀ j (hj : j < s.size), j < k → lowB s[j] = true) (fun i => s.size - (intOf i).toNat)
  case atStart => exact ⟨0, Nat.zero_le _, rfl, fun j _ h => absurd h (by omega)⟩
  case round =>
    obtain ⟨k, hk, rfl, ha⟩ := hrel
    by_cases hlt : k < s.size
    · cases g : lowB s[k]
      · have hn : ¬ (97 ≤ (s[k].toNat : Int) ∧ (s[k].toNat : Int) ≤ 122) := fun h => by rw [lowB_at.2 h] at g; cases g
        have hr := Lib.hid (show wordB s = false by rw [wordB, bytes_not s k hlt g]; rfl)
        clear g ha
        go_wp2
        all_goals first | (go_ret; exact ⟨ret_bool hr.out.symm, rfl⟩) | (exfalso; omega)
      · have hn := lowB_at.1 g
        have ha' := Lib.hid (show ∀ j (hj : j < s.size), j < k + 1 → lowB s[j] = true by
          intro j hj h
          by_cases hjk : j = k
          · subst hjk; exact g
          · exact ha j hj (by omega))
        clear g ha
        go_wp2
        all_goals first | (exfalso; omega) | skip
        go_round
        case rel => exact ⟨k + 1, by omega, by go_num, ha'.out⟩
        case measure => simp [intOf]; omega
    · have hr := Lib.hid (show wordB s = inB s.size 1 10 by rw [wordB, bytes_all s fun j hj => ha j hj (by omega)]; rfl)
      clear ha
      go_wp2_with (go_at_call 25; refine (l1In_any _ _ _ _).mono ?_; rintro e w' ⟨rfl, rfl⟩)
      go_ret
      exact ⟨ret_bool hr.out.symm, rfl⟩

def digitS (k : Nat) : ByteArray := ⟨#[UInt8.ofNat (48 + k % 10)]⟩
def markGo : Nat → Nat → ByteArray → ByteArray
  | 0, _, out => out
  | fuel + 1, k, out => if k = 0 then out else markGo fuel (k / 10) (digitS k ++ out)
/-- the law's mark of a string -/
def markT (k : Int) : ByteArray := if k ≤ 0 then ⟨#[109, 48]⟩ else ⟨#[109]⟩ ++ markGo 20 k.toNat ⟨#[]⟩
end Go.Proofs.YtbcblmbpjecilaaGreatDoor
