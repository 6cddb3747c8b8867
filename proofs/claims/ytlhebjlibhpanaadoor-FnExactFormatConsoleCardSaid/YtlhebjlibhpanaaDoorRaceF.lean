/- Races that are valid, as the program and as the reference have them. -/
import Derived.Test.YtlhebjlibhpanaaDoorRaceE
import Derived.Deep.CutBlock
namespace Go.Proofs.YtlhebjlibhpanaaDoor
open Go.RowKit


theorem raceB_no {t : Int} {cl : Bool} {xs : List Entrant} (h : inB t 0 36000 = false ∨ inB (xs.length : Int) 1 8 = false) : raceB t cl xs = false := by
  unfold raceB
  rcases h with h | h <;> simp [h]
theorem raceB_all {t : Int} {cl : Bool} {xs : List Entrant} (h1 : inB t 0 36000 = true) (h2 : inB (xs.length : Int) 1 8 = true) : raceB t cl xs = allTo xs.length (entAt t cl xs) := by
  unfold raceB
  rw [h1, h2]
  rfl

set_option maxRecDepth 100000 in
set_option maxHeartbeats 2000000 in
theorem IsRace_any (t : Int) (cl : Bool) (A : Option Addr) (n c lo : Nat) (xs : List Entrant) (w : World) (hx : SeesN entrantSh w lo A n xs) (hn : n ≤ 1048576) (hi : ∀ x ∈ xs, x.cnt ≤ 1048576) :
    Calls Tryd.prog 17 #[.agg #[.int .i64 t, .bool cl, .slice A n c]] w fun e w' => e = .returned (.bool (raceB t cl xs)) ∧ Below w.heap.size w w' := by
  have hl := hx.count
  have K0 : Below w.heap.size w (w.alloc (.cells #[.int .i64 t, .bool cl, .slice A n c] 33)) := (Below.refl _ _).alloc (Nat.le_refl _) _
  have B0 : Blk (w.alloc (.cells #[.int .i64 t, .bool cl, .slice A n c] 33)) w.heap.size 33 [.int .i64 t, .bool cl, .slice A n c] := Blk.at_ rfl
  cases h1 : inB t 0 36000
  · have HF := Lib.hid (raceB_no (cl := cl) (xs := xs) (.inl h1))
    go_enter Tryd.func17, Tryd.ntmps17
    go_wp2_with (first | (go_at_call 27; refine (isTime_any _ _).mono ?_; rintro e w' ⟨rfl, rfl⟩) | (go_at_call 28; refine (inside_any _ _ _ _).mono ?_; rintro e w' ⟨rfl, rfl⟩))
    go_ret
    exact ⟨ret_bool HF.out.symm, K0⟩
  cases h2 : inB (n : Int) 1 8
  · have HF := Lib.hid (raceB_no (t := t) (cl := cl) (xs := xs) (.inr (by rw [hl]; exact h2)))
    go_enter Tryd.func17, Tryd.ntmps17
    go_wp2_with (first | (go_at_call 27; refine (isTime_any _ _).mono ?_; rintro e w' ⟨rfl, rfl⟩) | (go_at_call 28; refine (inside_any _ _ _ _).mono ?_; rintro e w' ⟨rfl, rfl⟩))
    go_ret
    exact ⟨ret_bool HF.out.symm, K0⟩
  have HR := Lib.hid (raceB_all (cl := cl) (xs := xs) h1 (by rw [hl]; exact h2))
  have HL := Lib.hid hl
  clear hl
  go_enter Tryd.func17, Tryd.ntmps17
  go_wp2_with (first | (go_at_call 27; refine (isTime_any _ _).mono ?_; rintro e w' ⟨rfl, rfl⟩) | (go_at_call 28; refine (inside_any _ _ _ _).mono ?_; rintro e w' ⟨rfl, rfl⟩))
  clear h1 h2
  go_loopw [18] (fun v wr => ∃ k : Nat, k ≤ n ∧ v = .int .i64 k ∧ Hid (allTo k (entAt t cl xs) = true) ∧ Blk wr w.heap.size 33 [.int .i64 t, .bool cl, .slice A n c] ∧ Below w.heap.size w wr) (fun v _ => n - (intOf v).toNat)
  case atStart => exact ⟨0, Nat.zero_le _, rfl, Lib.hid rfl, B0, K0⟩
  case round =>
    clear B0 K0
    obtain ⟨k, hk, rfl, HA, B0, K0⟩ := hrel
    have cm := B0.cell
    by_cases hlt : k < n
    · go_wp2_with fail
      refine (isEntrant_any t cl A n c _ xs k wr (hx.next K0) hn hi hlt).mono ?_
      cases hen : entAt t cl xs k
      · rintro e w1 ⟨rfl, b1⟩
        replace K0 := bel_then K0 b1
        have HF := Lib.hid (show raceB t cl xs = false by rw [HR.out]; exact allTo_false (by rw [HL.out]; exact hlt) hen)
        clear hen
        go_wp2_with fail
        go_ret
        exact ⟨ret_bool HF.out.symm, K0⟩
      · rintro e w1 ⟨rfl, b1⟩
        replace K0 := bel_then K0 b1
        replace B0 := B0.next b1
        have HN := Lib.hid (allTo_succ HA.out hen)
        clear hen b1 cm
        go_wp2_with fail
        go_roundw
        case rel => exact ⟨k + 1, by omega, by go_num, HN, B0, K0⟩
        case measure => simp [intOf]; omega
    · obtain rfl : k = n := by omega
      go_wp2_with fail
      go_ret
      exact ⟨ret_bool (by rw [HR.out, HL.out, HA.out]), K0⟩

theorem l21None_any (A : Option Addr) (n c lo : Nat) (x : Card) (w : World) (hx : Sees w lo 2 A n (x.punches.flatMap Punch.enc)) :
    Calls Tryd.prog 47 #[.agg #[.int .i64 x.number, .int .i64 x.start, .int .i64 x.finish, .slice A n c]] w fun e w' => e = .returned (.bool (zeroB x)) ∧ Below w.heap.size w w' := by
  have hl := hx.count (by decide) (fun _ => rfl)
  have K0 : Below w.heap.size w (w.alloc (.cells #[.int .i64 x.number, .int .i64 x.start, .int .i64 x.finish, .slice A n c] 54)) := (Below.refl _ _).alloc (Nat.le_refl _) _
  by_cases h0 : x.number = 0
  rotate_left 1
  · have f0 : (x.number == 0) = false := beq_eq_false_iff_ne.2 h0
    have HZ := Lib.hid (show zeroB x = false by unfold zeroB; simp [h0])
    clear h0
    go_enter Tryd.func47, Tryd.ntmps47
    go_wp2_with fail
    go_ret
    exact ⟨ret_bool HZ.out.symm, K0⟩
  have f0 : (x.number == 0) = true := beq_iff_eq.2 h0
  by_cases h1 : x.start = 0
  rotate_left 1
  · have f1 : (x.start == 0) = false := beq_eq_false_iff_ne.2 h1
    have HZ := Lib.hid (show zeroB x = false by unfold zeroB; simp [h0, h1])
    clear h0 h1
    go_enter Tryd.func47, Tryd.ntmps47
    go_wp2_with fail
    go_ret
    exact ⟨ret_bool HZ.out.symm, K0⟩
  have f1 : (x.start == 0) = true := beq_iff_eq.2 h1
  by_cases h2 : x.finish = 0
  rotate_left 1
  · have f2 : (x.finish == 0) = false := beq_eq_false_iff_ne.2 h2
    have HZ := Lib.hid (show zeroB x = false by unfold zeroB; simp [h0, h1, h2])
    clear h0 h1 h2
    go_enter Tryd.func47, Tryd.ntmps47
    go_wp2_with fail
    go_ret
    exact ⟨ret_bool HZ.out.symm, K0⟩
  have f2 : (x.finish == 0) = true := beq_iff_eq.2 h2
  by_cases h3 : (n : Int) = 0
  rotate_left 1
  · have f3 : ((n : Int) == 0) = false := beq_eq_false_iff_ne.2 h3
    have HZ := Lib.hid (show zeroB x = false by unfold zeroB; simp [h0, h1, h2, show ¬ x.punches.length = 0 by omega])
    clear h0 h1 h2 h3
    go_enter Tryd.func47, Tryd.ntmps47
    go_wp2_with fail
    go_ret
    exact ⟨ret_bool HZ.out.symm, K0⟩
  have f3 : ((n : Int) == 0) = true := beq_iff_eq.2 h3
  have HZ := Lib.hid (show zeroB x = true by unfold zeroB; simp [h0, h1, h2, show x.punches.length = 0 by omega])
  clear h0 h1 h2 h3
  go_enter Tryd.func47, Tryd.ntmps47
  go_wp2_with fail
  go_ret
  exact ⟨ret_bool HZ.out.symm, K0⟩

theorem l1Most_any (a b : Int) (w : World) : Calls Tryd.prog 65 #[.int .i64 a, .int .i64 b] w fun e w' => ∃ v, e = .returned (.int .i64 v) ∧ w = w' ∧ Hid (∀ t : Int, v ≤ t ↔ (a ≤ t ∧ b ≤ t)) := by
  by_cases h : b < a
  · go_enter Tryd.func65, Tryd.ntmps65
    go_wp2_with fail
    go_ret
    exact ⟨_, rfl, rfl, fun t => by omega⟩
  · go_enter Tryd.func65, Tryd.ntmps65
    go_wp2_with fail
    go_ret
    exact ⟨_, rfl, rfl, fun t => by omega⟩
set_option maxRecDepth 100000 in
theorem l21Latest_any (A : Option Addr) (n c lo : Nat) (x : Card) (w : World) (hx : Sees w lo 2 A n (x.punches.flatMap Punch.enc)) (hn : n ≤ 1048576) :
    Calls Tryd.prog 49 #[.agg #[.int .i64 x.number, .int .i64 x.start, .int .i64 x.finish, .slice A n c]] w fun e w' => ∃ v, e = .returned (.int .i64 v) ∧ Below w.heap.size w w' ∧ Hid (∀ t : Int, decide (v ≤ t) = lateB t x) := by
  have hl := Lib.hid (hx.count (by decide) (fun _ => rfl))
  have K0 : Below w.heap.size w (w.alloc (.cells #[.int .i64 x.number, .int .i64 x.start, .int .i64 x.finish, .slice A n c] 54)) := (Below.refl _ _).alloc (Nat.le_refl _) _
  have B0 : Blk (w.alloc (.cells #[.int .i64 x.number, .int .i64 x.start, .int .i64 x.finish, .slice A n c] 54)) w.heap.size 54 [.int .i64 x.number, .int .i64 x.start, .int .i64 x.finish, .slice A n c] := Blk.at_ rfl
  go_enter Tryd.func49, Tryd.ntmps49
  go_wp2_with fail
  refine (l1Most_any _ _ _).mono ?_
  rintro e w1 ⟨v0, rfl, rfl, hv0⟩
  go_wp2_with fail
  go_loopw [3, 4] (fun q i wr => ∃ (k : Nat) (v : Int), k ≤ n ∧ i = .int .i64 k ∧ q = .int .i64 v ∧ Hid (∀ t : Int, decide (v ≤ t) = (decide (x.start ≤ t ∧ x.finish ≤ t) && (x.punches.take k).all fun p => decide (p.time ≤ t))) ∧ Blk wr w.heap.size 54 [.int .i64 x.number, .int .i64 x.start, .int .i64 x.finish, .slice A n c] ∧ Below w.heap.size w wr) (fun _ i _ => n - (intOf i).toNat)
  case atStart => exact ⟨0, v0, Nat.zero_le _, rfl, rfl, fun t => by rw [List.take_zero, List.all_nil, Bool.and_true]; exact decide_eq_decide.2 (hv0.out t), B0, K0⟩
  case round =>
    clear B0 K0
    obtain ⟨k, v, hk, rfl, rfl, HV, B0, K0⟩ := hrel
    have cm := B0.cell
    by_cases hlt : k < n
    · obtain ⟨b, off, rfl, hkx, c0, c1⟩ := (hx.next K0).elem2 (fun _ => rfl) hlt
      have HT := Lib.hid (List.take_succ_eq_append_getElem hkx)
      go_wp2_with fail
      refine (l1Most_any _ _ _).mono ?_
      rintro e w2 ⟨v1, rfl, rfl, hv1⟩
      go_wp2_with fail
      go_roundw
      case rel =>
        refine ⟨k + 1, v1, by omega, by go_num, rfl, fun t => ?_, B0, K0⟩
        rw [HT.out, List.all_append, ← Bool.and_assoc, ← HV.out t, List.all_cons, List.all_nil, Bool.and_true, ← Bool.decide_and]
        exact decide_eq_decide.2 (hv1.out t)
      case measure => simp [intOf]; omega
    · obtain rfl : k = n := by omega
      go_wp2_with fail
      go_ret
      refine ⟨v, rfl, K0, fun t => ?_⟩
      have h := HV.out t
      rw [List.take_of_length_le (by rw [hl.out]; exact Nat.le_refl _)] at h
      exact h

end Go.Proofs.YtlhebjlibhpanaaDoor
