/- Records of the log: IsValidRecord, as the program and as the reference have it. -/
import Derived.Test.YtlhebjlibhpanaaDoorLogT
import Derived.Test.YtlhebjlibhpanaaDoorShelfGD
import Derived.Lib.IndexAny
namespace Go.Proofs.YtlhebjlibhpanaaDoor
open Go.RowKit

def plainC (c : UInt8) : Bool := decide (32 ≤ c.toNat) && decide (c.toNat ≤ 126) && !decide (c.toNat = 35)
def plainB (s : ByteArray) : Bool := s.data.toList.all plainC
/-- a byte stands in a text -/
def hasC (b : UInt8) (s : ByteArray) : Bool := s.data.toList.contains b
def recB (e : LogRecord) : Bool := inB e.command.size 1 160 && decide (e.reply.size ≤ 200) && plainB e.command && plainB e.reply && !hasC 64 e.command
theorem plainC_at {c : UInt8} : plainC c = true ↔ (32 ≤ (c.toNat : Int) ∧ (c.toNat : Int) ≤ 126) ∧ (c.toNat : Int) ≠ 35 := by simp [plainC]; omega
theorem byte_cast (c : UInt8) : IntKind.i64.wrap (c.toNat : Int) = c.toNat := by
  have := c.toNat_lt
  rw [IntKind.wrap_i64]; omega
theorem contains_at (s : ByteArray) (b : UInt8) (k : Nat) (hk : k < s.size) (h : s[k] = b) : hasC b s = true := by
  rw [hasC, List.contains_iff_mem]
  exact h ▸ List.mem_of_getElem (i := k) (h := by simpa using hk) rfl
theorem contains_not (s : ByteArray) (b : UInt8) (h : ∀ k (hk : k < s.size), s[k] ≠ b) : hasC b s = false := by
  rw [hasC, ← Bool.not_eq_true, List.contains_iff_mem]
  intro hm
  obtain ⟨k, hk, rfl⟩ := List.getElem_of_mem hm
  exact h k (by simpa using hk) rfl

set_option maxHeartbeats 400000 in
theorem isPlain_any (s : ByteArray) (w : World) (hs : s.size ≤ 9223372036854775807) :
    Calls Tryd.prog 70 #[.string s] w fun e w' => e = .returned (.bool (plainB s)) ∧ w = w' := by
  go_enter Tryd.func70, Tryd.ntmps70
  go_wp2
  go_loop [3] (fun i => ∃ k : Nat, k ≤ s.size ∧ i = .int .i64 k ∧ ∀ j (hj : j < s.size), j < k → plainC s[j] = true) (fun i => s.size - (intOf i).toNat)
  case atStart => exact ⟨0, Nat.zero_le _, rfl, fun j _ h => absurd h (by omega)⟩
  case round =>
    obtain ⟨k, hk, rfl, ha⟩ := hrel
    by_cases hlt : k < s.size
    · cases g : plainC s[k]
      · have hn : ¬ ((32 ≤ (s[k].toNat : Int) ∧ (s[k].toNat : Int) ≤ 126) ∧ (s[k].toNat : Int) ≠ 35) := fun h => by rw [plainC_at.2 h] at g; cases g
        have hr := Lib.hid (show plainB s = false by rw [plainB, bytes_not s k hlt g])
        clear g ha
        by_cases p1 : (s[k].toNat : Int) < 32
        · go_wp2
          all_goals first | (go_ret; exact ⟨ret_bool hr.out.symm, rfl⟩) | (exfalso; omega)
        · by_cases p2 : 126 < (s[k].toNat : Int)
          · go_wp2
            all_goals first | (go_ret; exact ⟨ret_bool hr.out.symm, rfl⟩) | (exfalso; omega)
          · have h35 : ((s[k].toNat : Int) == 35) = true := by simp; omega
            go_wp2
            all_goals first | (go_ret; exact ⟨ret_bool hr.out.symm, rfl⟩) | (exfalso; omega)
      · have hn := plainC_at.1 g
        have ha' := Lib.hid (show ∀ j (hj : j < s.size), j < k + 1 → plainC s[j] = true by
          intro j hj h
          by_cases hjk : j = k
          · subst hjk; exact g
          · exact ha j hj (by omega))
        clear g ha
        have p1 : ¬ (s[k].toNat : Int) < 32 := by omega
        have p2 : ¬ 126 < (s[k].toNat : Int) := by omega
        have h35 : ((s[k].toNat : Int) == 35) = false := by simp; omega
        go_wp2
        go_round
        case rel => exact ⟨k + 1, by omega, by go_num, ha'.out⟩
        case measure => simp [intOf]; omega
    · have hr := Lib.hid (show plainB s = true by rw [plainB, bytes_all s fun j hj => ha j hj (by omega)])
      clear ha
      go_wp2
      go_ret
      exact ⟨ret_bool hr.out.symm, rfl⟩

set_option maxHeartbeats 400000 in
theorem l27Plain_any (s : ByteArray) (m : Int) (w : World) (hs : s.size ≤ 9223372036854775807) :
    Calls Tryd.prog 79 #[.string s, .int .i64 m] w fun e w' => e = .returned (.bool (plainB s && decide ((s.size : Int) ≤ m))) ∧ w = w' := by
  go_enter Tryd.func79, Tryd.ntmps79
  go_wp2
  go_loop [5] (fun i => ∃ k : Nat, k ≤ s.size ∧ i = .int .i64 k ∧ ∀ j (hj : j < s.size), j < k → plainC s[j] = true) (fun i => s.size - (intOf i).toNat)
  case atStart => exact ⟨0, Nat.zero_le _, rfl, fun j _ h => absurd h (by omega)⟩
  case round =>
    obtain ⟨k, hk, rfl, ha⟩ := hrel
    by_cases hlt : k < s.size
    · have hwr := byte_cast s[k]
      cases g : plainC s[k]
      · have hn : ¬ ((32 ≤ (s[k].toNat : Int) ∧ (s[k].toNat : Int) ≤ 126) ∧ (s[k].toNat : Int) ≠ 35) := fun h => by rw [plainC_at.2 h] at g; cases g
        have hr := Lib.hid (show (plainB s && decide ((s.size : Int) ≤ m)) = false by rw [plainB, bytes_not s k hlt g]; rfl)
        clear g ha
        cases gi : inB (s[k].toNat : Int) 32 126
        · go_wp2_with (go_at_call 35; refine (l1In_any _ _ _ _).mono ?_; rintro e w' ⟨rfl, rfl⟩)
          go_ret
          exact ⟨ret_bool hr.out.symm, rfl⟩
        · have h35 : (s[k].toNat : Int) = 35 := by have := inB_true gi; omega
          have h35' : ((s[k].toNat : Int) == 35) = true := by simp [h35]
          go_wp2_with (go_at_call 35; refine (l1In_any _ _ _ _).mono ?_; rintro e w' ⟨rfl, rfl⟩)
          all_goals first | (go_ret; exact ⟨ret_bool hr.out.symm, rfl⟩) | (exfalso; omega)
      · have hn := plainC_at.1 g
        have ha' := Lib.hid (show ∀ j (hj : j < s.size), j < k + 1 → plainC s[j] = true by
          intro j hj h
          by_cases hjk : j = k
          · subst hjk; exact g
          · exact ha j hj (by omega))
        clear g ha
        have gi : inB (s[k].toNat : Int) 32 126 = true := by simp [inB]; omega
        have h35' : ((s[k].toNat : Int) == 35) = false := by simp; omega
        go_wp2_with (go_at_call 35; refine (l1In_any _ _ _ _).mono ?_; rintro e w' ⟨rfl, rfl⟩)
        go_round
        case rel => exact ⟨k + 1, by omega, by go_num, ha'.out⟩
        case measure => simp [intOf]; omega
    · have hr := Lib.hid (show plainB s = true by rw [plainB, bytes_all s fun j hj => ha j hj (by omega)])
      clear ha
      go_wp2
      go_ret
      exact ⟨ret_bool (by rw [hr.out]; rfl), rfl⟩

set_option maxHeartbeats 400000 in
theorem l1Stands_any (s : ByteArray) (b : UInt8) (w : World) (hs : s.size ≤ 9223372036854775807) :
    Calls Tryd.prog 80 #[.string s, .int .u8 (b.toNat : Int)] w fun e w' => e = .returned (.bool (hasC b s)) ∧ w = w' := by
  go_enter Tryd.func80, Tryd.ntmps80
  go_wp2
  go_loop [5] (fun i => ∃ k : Nat, k ≤ s.size ∧ i = .int .i64 k ∧ ∀ j (hj : j < s.size), j < k → s[j] ≠ b) (fun i => s.size - (intOf i).toNat)
  case atStart => exact ⟨0, Nat.zero_le _, rfl, fun j _ h => absurd h (by omega)⟩
  case round =>
    obtain ⟨k, hk, rfl, ha⟩ := hrel
    by_cases hlt : k < s.size
    · have e1 : ((s[k].toNat : Int) == (b.toNat : Int)) = (s[k] == b) := by
        rw [Bool.eq_iff_iff]; simp only [beq_iff_eq, Int.natCast_inj]; exact UInt8.toNat_inj
      cases g : (s[k] == b)
      · rw [g] at e1
        have ha' := Lib.hid (show ∀ j (hj : j < s.size), j < k + 1 → s[j] ≠ b by
          intro j hj h
          by_cases hjk : j = k
          · subst hjk; simpa using g
          · exact ha j hj (by omega))
        clear g ha
        go_wp2
        go_round
        case rel => exact ⟨k + 1, by omega, by go_num, ha'.out⟩
        case measure => simp [intOf]; omega
      · rw [g] at e1
        have hr := Lib.hid (show hasC b s = true from contains_at s b k hlt (by simpa using g))
        clear g ha
        go_wp2
        go_ret
        exact ⟨ret_bool hr.out.symm, rfl⟩
    · have hr := Lib.hid (show hasC b s = false from contains_not s b fun j hj => ha j hj (by omega))
      clear ha
      go_wp2
      go_ret
      exact ⟨ret_bool hr.out.symm, rfl⟩

set_option maxHeartbeats 1000000 in
theorem IsValidRecord_any (x : LogRecord) (w : World) (h : x.upto 9223372036854775807) : Calls Tryd.prog 56 #[.agg #[.string x.command, .string x.reply]] w fun e w' => e = .returned (.bool (recB x)) ∧ Below w.heap.size w w' := by
  unfold LogRecord.upto at h
  go_enter Tryd.func56, Tryd.ntmps56
  go_wp2_with (first | (go_at_call 28; refine (inside_any _ _ _ _).mono ?_; rintro e w' ⟨rfl, rfl⟩) | (go_at_call 70; refine (isPlain_any _ _ (by first | exact h.1 | exact h.2)).mono ?_; rintro e w' ⟨rfl, rfl⟩) | (go_at_call 71; refine (sh_strings_Contains_one _ 64 _).mono ?_; rw [← Lib.contains_iff_indexByte, show ∀ s : ByteArray, s.data.toList.contains 64 = hasC 64 s from fun _ => rfl]; rintro e w' ⟨rfl, rfl⟩))
  all_goals go_ret
  all_goals refine ⟨ret_bool ?_, (Below.refl _ _).alloc (Nat.le_refl _) _⟩
  all_goals (rw [Bool.eq_iff_iff]; simp [recB, *]; try omega)

set_option maxHeartbeats 1000000 in
theorem l27Good_any (x : LogRecord) (w : World) (h : x.upto 9223372036854775807) : Calls Tryd.prog 66 #[.agg #[.string x.command, .string x.reply]] w fun e w' => e = .returned (.bool (recB x)) ∧ Below w.heap.size w w' := by
  unfold LogRecord.upto at h
  by_cases h0 : x.command = ByteArray.empty
  · have hr := Lib.hid (show recB x = false by unfold recB; rw [h0]; rfl)
    go_enter Tryd.func66, Tryd.ntmps66
    go_wp2
    go_ret
    exact ⟨ret_bool hr.out.symm, (Below.refl _ _).alloc (Nat.le_refl _) _⟩
  · have h1 : 1 ≤ x.command.size := by
      rcases Nat.eq_zero_or_pos x.command.size with hz | hz
      · exact absurd (ByteArray.ext (Array.eq_empty_of_size_eq_zero hz)) h0
      · exact hz
    have hl : ¬ x.command.toList = [] := fun hn => h0 (ByteArray.ext (by rw [ByteArray.toList_eq] at hn; exact Array.toList_eq_nil_iff.1 hn))
    go_enter Tryd.func66, Tryd.ntmps66
    go_wp2_with (first | (go_at_call 79; refine (l27Plain_any _ _ _ (by first | exact h.1 | exact h.2)).mono ?_; rintro e w' ⟨rfl, rfl⟩) | (go_at_call 80; refine (l1Stands_any _ 64 _ (by first | exact h.1 | exact h.2)).mono ?_; rintro e w' ⟨rfl, rfl⟩))
    all_goals go_ret
    all_goals refine ⟨ret_bool ?_, (Below.refl _ _).alloc (Nat.le_refl _) _⟩
    all_goals (rw [Bool.eq_iff_iff]; simp [recB, inB, *]; try grind)

end Go.Proofs.YtlhebjlibhpanaaDoor
