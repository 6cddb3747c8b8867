/- Strings: words, the law's own mark texts. -/
import Derived.Test.YtbcblmbpjecilaaS0
namespace Go.Proofs.Ytbcblmbpjecilaa
open Go.RowKit

/-- a small letter -/
def lowB (c : UInt8) : Bool := decide (97 ≤ c.toNat) && decide (c.toNat ≤ 122)
def wordB (s : ByteArray) : Bool := s.data.toList.all lowB && inB s.size 1 10
theorem bytes_all {p : UInt8 → Bool} (s : ByteArray) (h : ∀ k (hk : k < s.size), p s[k] = true) : s.data.toList.all p = true := by
  rw [List.all_eq_true]
  intro x hx
  obtain ⟨k, hk, rfl⟩ := List.getElem_of_mem hx
  exact h k (by simpa using hk)
theorem bytes_not {p : UInt8 → Bool} (s : ByteArray) (k : Nat) (hk : k < s.size) (h : p s[k] = false) : s.data.toList.all p = false := by
  rw [List.all_eq_false]
  exact ⟨s[k], List.mem_of_getElem (i := k) (h := by simpa using hk) rfl, by simp [h]⟩
theorem str_beq (a b : ByteArray) : (a.toList == b.toList) = decide (a = b) := by
  rw [Bool.eq_iff_iff, ByteArray.toList_eq, ByteArray.toList_eq]
  simp only [beq_iff_eq, decide_eq_true_eq]
  exact ⟨fun h => ByteArray.ext (Array.toList_inj.1 h), fun h => by rw [h]⟩
theorem lowB_at {c : UInt8} : lowB c = true ↔ 97 ≤ (c.toNat : Int) ∧ (c.toNat : Int) ≤ 122 := by simp [lowB]; omega

set_option maxHeartbeats 400000 in
theorem isWord_any (s : ByteArray) (w : World) (hs : s.size ≤ 9223372036854775807) :
    Calls Try.prog 32 #[.string s] w fun e w' => e = .returned (.bool (wordB s)) ∧ w = w' := by
  go_enter Try.func32, Try.ntmps32
  go_wp2
  go_loop [3] (fun i => ∃ k : Nat, k ≤ s.size ∧ i = .int .i64 k ∧ ∀ j (hj : j < s.size), j < k → lowB s[j] = true) (fun i => s.size - (intOf i).toNat)
  case atStart => exact ⟨0, Nat.zero_le _, rfl, fun j _ h => absurd h (by omega)⟩
  case round =>
    obtain ⟨k, hk, rfl, ha⟩ := hrel
    by_cases hlt : k < s.size
    · cases g : lowB s[k]
      · have hn : ¬ (97 ≤ (s[k].toNat : Int) ∧ (s[k].toNat : Int) ≤ 122) := fun h => by rw [lowB_at.2 h] at g; cases g
        have hr := Lib.hid (show wordB s = false by rw [wordB, bytes_not s k hlt g]; rfl)
        clear g ha
        go_wp2
        all_goals first | (go_ret; exact ⟨ret_bool hr.out.symm, rfl⟩) | (exfalso; omega)
      · have hn := lowB_at.1 g
        have ha' := Lib.hid (show ∀ j (hj : j < s.size), j < k + 1 → lowB s[j] = true by
          intro j hj h
          by_cases hjk : j = k
          · subst hjk; exact g
          · exact ha j hj (by omega))
        clear g ha
        go_wp2
        all_goals first | (exfalso; omega) | skip
        go_round
        case rel => exact ⟨k + 1, by omega, by go_num, ha'.out⟩
        case measure => simp [intOf]; omega
    · have hr := Lib.hid (show wordB s = inB s.size 1 10 by rw [wordB, bytes_all s fun j hj => ha j hj (by omega)]; rfl)
      clear ha
      go_wp2_with (go_at_call 33; refine (inside_any _ _ _ _).mono ?_; rintro e w' ⟨rfl, rfl⟩)
      go_ret
      exact ⟨ret_bool hr.out.symm, rfl⟩

set_option maxHeartbeats 400000 in
theorem l2Word_any (s : ByteArray) (w : World) (hs : s.size ≤ 9223372036854775807) :
    Calls Try.prog 43 #[.string s] w fun e w' => e = .returned (.bool (wordB s)) ∧ w = w' := by
  go_enter Try.func43, Try.ntmps43
  go_wp2
  go_loop [3] (fun i => ∃ k : Nat, k ≤ s.size ∧ i = .int .i64 k ∧ ∀ j (hj : j < s.size), j < k → lowB s[j] = true) (fun i => s.size - (intOf i).toNat)
  case atStart => exact ⟨0, Nat.zero_le _, rfl, fun j _ h => absurd h (by omega)⟩
  case round =>
    obtain ⟨k, hk, rfl, ha⟩ := hrel
    by_cases hlt : k < s.size
    · cases g : lowB s[k]
      · have hn : ¬ (97 ≤ (s[k].toNat : Int) ∧ (s[k].toNat : Int) ≤ 122) := fun h => by rw [lowB_at.2 h] at g; cases g
        have hr := Lib.hid (show wordB s = false by rw [wordB, bytes_not s k hlt g]; rfl)
        clear g ha
        go_wp2
        all_goals first | (go_ret; exact ⟨ret_bool hr.out.symm, rfl⟩) | (exfalso; omega)
      · have hn := lowB_at.1 g
        have ha' := Lib.hid (show ∀ j (hj : j < s.size), j < k + 1 → lowB s[j] = true by
          intro j hj h
          by_cases hjk : j = k
          · subst hjk; exact g
          · exact ha j hj (by omega))
        clear g ha
        go_wp2
        all_goals first | (exfalso; omega) | skip
        go_round
        case rel => exact ⟨k + 1, by omega, by go_num, ha'.out⟩
        case measure => simp [intOf]; omega
    · have hr := Lib.hid (show wordB s = inB s.size 1 10 by rw [wordB, bytes_all s fun j hj => ha j hj (by omega)]; rfl)
      clear ha
      go_wp2_with (go_at_call 39; refine (l1In_any _ _ _ _).mono ?_; rintro e w' ⟨rfl, rfl⟩)
      go_ret
      exact ⟨ret_bool hr.out.symm, rfl⟩

def digitS (k : Nat) : ByteArray := ⟨#[UInt8.ofNat (48 + k % 10)]⟩
def markGo : Nat → Nat → ByteArray → ByteArray
  | 0, _, out => out
  | fuel + 1, k, out => if k = 0 then out else markGo fuel (k / 10) (digitS k ++ out)
/-- the law's mark of a string -/
def markT (k : Int) : ByteArray := if k ≤ 0 then ⟨#[109, 48]⟩ else ⟨#[109]⟩ ++ markGo 20 k.toNat ⟨#[]⟩
set_option maxRecDepth 100000 in
set_option maxHeartbeats 400000 in
theorem markText_any (k : Int) (w : World) (h0 : 0 ≤ k) (h1 : k ≤ 1000000000000000000) :
    Calls Try.prog 38 #[.int .i64 k] w fun e w' => e = .returned (.string (markT k)) ∧ Below w.heap.size w w' := by
  obtain ⟨k0, rfl⟩ := Int.eq_ofNat_of_zero_le h0
  by_cases hz : k0 = 0
  · subst hz
    go_enter Try.func38, Try.ntmps38
    go_wp2
    go_ret
    exact ⟨rfl, Below.refl _ _⟩
  · have hp : ¬ ((k0 : Int) ≤ 0) := by omega
    have hm := Lib.hid (show markT k0 = ⟨#[109]⟩ ++ markGo 20 k0 ⟨#[]⟩ by rw [markT, if_neg (by omega)]; rfl)
    go_enter Try.func38, Try.ntmps38
    go_wp2
    go_loopw [0, 3] (fun q o wr => ∃ (fuel k : Nat) (out : ByteArray), q = .int .i64 k ∧ o = .string out ∧ k < 10 ^ fuel ∧ k ≤ 1000000000000000000 ∧ out.size + fuel ≤ 20 ∧ Hid (markGo 20 k0 ⟨#[]⟩ = markGo fuel k out) ∧ Below w.heap.size w wr) (fun q _ _ => (intOf q).toNat)
    case atStart => exact ⟨20, k0, ⟨#[]⟩, rfl, rfl, by omega, by omega, by decide, Lib.hid rfl, Below.refl _ _⟩
    case round =>
      obtain ⟨fuel, k, out, rfl, rfl, hk, hk1, ho, hg, hb⟩ := hrel
      by_cases hlt : k = 0
      · subst hlt
        go_wp2
        go_ret
        refine ⟨?_, hb⟩
        show Ending.returned (.string (⟨#[109]⟩ ++ out)) = _
        rw [hm.out, hg.out]
        cases fuel <;> simp [markGo]
      · obtain ⟨fuel, rfl⟩ : ∃ f, fuel = f + 1 := ⟨fuel - 1, by cases fuel with
          | zero => simp at hk; omega
          | succ f => omega⟩
        have hcv : Sem.run Try.prog (convert 54 9 (.slice (some ⟨wr.heap.size, 0, none⟩) 1 1)) (wr.alloc (.cells #[.int .u8 (48 + (k : Int) % 10)] 5)) = .ok (.string (digitS k)) (wr.alloc (.cells #[.int .u8 (48 + (k : Int) % 10)] 5)) := by
          refine run_convert_bytes_back (P := Try.prog) _ _ _ 5 _ 1 [UInt8.ofNat (48 + k % 10)] Try.underlying54 Try.underlying5 Try.underlying9 ?_
          intro j hj
          obtain rfl : j = 0 := by simp at hj; omega
          have h8 : (UInt8.ofNat (48 + k % 10)).toNat = 48 + k % 10 := by rw [UInt8.toNat_ofNat']; omega
          show (wr.alloc _).cell? ⟨wr.heap.size, 0, none⟩ = some (.int .u8 ((UInt8.ofNat (48 + k % 10)).toNat : Int))
          rw [h8]
          simp
        have hg' := Lib.hid (show markGo 20 k0 ⟨#[]⟩ = markGo fuel (k / 10) (digitS k ++ out) by rw [hg.out, markGo, if_neg hlt])
        have hd1 : (digitS k).size = 1 := rfl
        have hd2 : (digitS k ++ out).size = 1 + out.size := by rw [ByteArray.size_append, hd1]
        generalize digitS k = D at *
        clear hg
        go_wp2
        go_roundw
        case rel => exact ⟨fuel, k / 10, D ++ out, by go_num, rfl, Nat.div_lt_of_lt_mul (by rw [Nat.pow_succ] at hk; omega), by omega, by omega, hg', hb.alloc hb.size _⟩
        case measure => simp [intOf]; omega

end Go.Proofs.Ytbcblmbpjecilaa
