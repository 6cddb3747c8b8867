/- Strings: words, the law's own mark texts. -/
import Derived.Test.YtlhebjlibhpanaaDoorS0
namespace Go.Proofs.YtlhebjlibhpanaaDoor
open Go.RowKit

/-- a small letter -/
def lowB (c : UInt8) : Bool := decide (97 ≤ c.toNat) && decide (c.toNat ≤ 122)
def wordB (s : ByteArray) : Bool := s.data.toList.all lowB && inB s.size 1 10
theorem bytes_all {p : UInt8 → Bool} (s : ByteArray) (h : ∀ k (hk : k < s.size), p s[k] = true) : s.data.toList.all p = true := by
  rw [List.all_eq_true]
  intro x hx
  obtain ⟨k, hk, rfl⟩ := List.getElem_of_mem hx
  exact h k (by simpa using hk)
theorem bytes_not {p : UInt8 → Bool} (s : ByteArray) (k : Nat) (hk : k < s.size) (h : p s[k] = false) : s.data.toList.all p = false := by
  rw [List.all_eq_false]
  exact ⟨s[k], List.mem_of_getElem (i := k) (h := by simpa using hk) rfl, by simp [h]⟩
theorem str_beq (a b : ByteArray) : (a.toList == b.toList) = decide (a = b) := by
  rw [Bool.eq_iff_iff, ByteArray.toList_eq, ByteArray.toList_eq]
  simp only [beq_iff_eq, decide_eq_true_eq]
  exact ⟨fun h => ByteArray.ext (Array.toList_inj.1 h), fun h => by rw [h]⟩
theorem lowB_at {c : UInt8} : lowB c = true ↔ 97 ≤ (c.toNat : Int) ∧ (c.toNat : Int) ≤ 122 := by simp [lowB]; omega

def digitS (k : Nat) : ByteArray := ⟨#[UInt8.ofNat (48 + k % 10)]⟩
def markGo : Nat → Nat → ByteArray → ByteArray
  | 0, _, out => out
  | fuel + 1, k, out => if k = 0 then out else markGo fuel (k / 10) (digitS k ++ out)
/-- the law's mark of a string -/
def markT (k : Int) : ByteArray := if k ≤ 0 then ⟨#[109, 48]⟩ else ⟨#[109]⟩ ++ markGo 20 k.toNat ⟨#[]⟩
end Go.Proofs.YtlhebjlibhpanaaDoor
