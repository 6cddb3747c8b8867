/- ParseClock, as the reference has it. -/
import Derived.Test.YtbcblmbpjecilaaGreatDoorParse
namespace Go.Proofs.YtbcblmbpjecilaaGreatDoor
open Go.RowKit

theorem ba_drop (s : ByteArray) (k : Nat) (h : k < s.size) : s.data.toList.drop k = s[k] :: s.data.toList.drop (k + 1) := by
  rw [List.drop_eq_getElem_cons (by simpa using h)]; rfl
theorem parse_goS {s : ByteArray} (h8 : s.size ≤ 8) {t : Int} (h : goS 0 0 s.data.toList = t) : (isClock t s = true → parseT s = (t, true)) ∧ (isClock t s = false → parseT s = (0, false)) := by
  unfold parseT
  rw [if_pos h8, h]
  exact ⟨fun e => if_pos e, fun e => if_neg (by rw [e]; decide)⟩
set_option maxRecDepth 100000 in
set_option maxHeartbeats 4000000 in
theorem specParseClock_any (s : ByteArray) (w : World) (hs : s.size ≤ 9223372036854775807) :
    Calls Tryz.prog 10 #[.string s] w fun e w' => e = .returned (.tuple #[.int .i64 (parseT s).1, .bool (parseT s).2]) ∧ Below w.heap.size w w' := by
  by_cases h8 : 8 < s.size
  · have HD := Lib.hid (parse_long h8)
    have h8' : (8 : Int) < (s.size : Int) := by omega
    go_enter Tryz.func10, Tryz.ntmps10
    go_wp2_with fail
    go_ret2
    exact ⟨by rw [HD.out]; rfl, Below.refl _ _⟩
  · have h8s : s.size ≤ 8 := by omega
    have h8' : ¬ (8 : Int) < (s.size : Int) := by omega
    clear h8
    have p9 : pw60 8 = 167961600000000 := by rfl
    go_enter Tryz.func10, Tryz.ntmps10
    go_wp2_with fail
    go_loop [4, 5, 6] (fun a p i => ∃ (k : Nat) (n q : Int), k ≤ s.size ∧ i = .int .i64 k ∧ a = .int .i64 n ∧ p = .int .i64 q ∧ (n + q ≤ 300 * pw60 k ∧ n - q ≤ 300 * pw60 k ∧ -n + q ≤ 300 * pw60 k ∧ -n - q ≤ 300 * pw60 k) ∧ Hid (goS 0 0 s.data.toList = goS n q (s.data.toList.drop k))) (fun _ _ i => s.size - (intOf i).toNat)
    case atStart => exact ⟨0, 0, 0, Nat.zero_le _, rfl, rfl, rfl, by decide, Lib.hid rfl⟩
    case round =>
      obtain ⟨k, n, q, hk, rfl, rfl, rfl, ⟨hq1, hq2, hq3, hq4⟩, HG⟩ := hrel
      have hm9 := pw60_mono (show k ≤ 8 by omega)
      have hp1 := pw60_pos k
      have hn1 : n + q ≤ 50388480000000000 := by omega
      have hn2 : -50388480000000000 ≤ n + q := by omega
      have hn3 : n ≤ 50388480000000000 := by omega
      have hn4 : -50388480000000000 ≤ n := by omega
      have hn5 : q ≤ 50388480000000000 := by omega
      have hn6 : -50388480000000000 ≤ q := by omega
      have HB := Lib.hid (show n + q ≤ 300 * pw60 k ∧ n - q ≤ 300 * pw60 k ∧ -n + q ≤ 300 * pw60 k ∧ -n - q ≤ 300 * pw60 k ∧ 1 ≤ pw60 k ∧ pw60 (k + 1) = 60 * pw60 k from ⟨hq1, hq2, hq3, hq4, hp1, pw60_next k⟩)
      clear hq1 hq2 hq3 hq4 hm9 hp1 p9
      by_cases hlt : k < s.size
      · have HDr := Lib.hid (ba_drop s k hlt)
        have hu := UInt8.toNat_lt s[k]
        by_cases hc : s[k] = 58
        · have HG2 := Lib.hid (show goS 0 0 s.data.toList = goS (60 * (n + q)) 0 (s.data.toList.drop (k + 1)) by rw [HG.out, HDr.out, goS, if_pos hc])
          have hct : ((s[k].toNat : Int) == 58) = true := by rw [hc]; rfl
          clear hc
          go_wp2_with fail
          go_round
          case rel => exact ⟨k + 1, 60 * (n + q), 0, by omega, by go_num, by go_num, rfl, by have := HB.out; omega, HG2⟩
          case measure => simp [intOf]; omega
        · have HG2 := Lib.hid (show goS 0 0 s.data.toList = goS n (10 * q + (s[k].toNat : Int) - 48) (s.data.toList.drop (k + 1)) by rw [HG.out, HDr.out, goS, if_neg hc])
          have hct : ((s[k].toNat : Int) == 58) = false := by
            rw [beq_eq_false_iff_ne]
            intro e
            exact hc (UInt8.toNat_inj.1 (by have : (58 : UInt8).toNat = 58 := rfl; omega))
          clear hc
          go_wp2_with fail
          go_round
          case rel => exact ⟨k + 1, n, 10 * q + (s[k].toNat : Int) - 48, by omega, by go_num, rfl, by go_num, by have := HB.out; omega, HG2⟩
          case measure => simp [intOf]; omega
      · obtain rfl : k = s.size := by omega
        have HS := parse_goS h8s (show goS 0 0 s.data.toList = n + q by rw [HG.out, List.drop_eq_nil_of_le (by simp), goS])
        clear hlt
        cases hcl : isClock (n + q) s with
        | false =>
          have HR := Lib.hid (HS.2 hcl)
          clear HS
          by_cases hr : 0 ≤ n + q ∧ n + q ≤ 36000
          · have hin : inB (n + q) 0 36000 = true := by simp [inB, hr.1, hr.2]
            have hne : ((clockT (n + q).toNat).toList == s.toList) = false := by
              rw [str_beq]
              refine decide_eq_false fun e => ?_
              rw [isClock_mk hr e] at hcl
              cases hcl
            have hz := Lib.hid (show n + q = ((n + q).toNat : Int) by omega)
            have hzn : (n + q).toNat ≤ 36000 := by omega
            clear hcl hr
            go_wp2_with (go_at_call 25; refine (l1In_any _ _ _ _).mono ?_; rw [hin]; rintro e w' ⟨rfl, rfl⟩)
            refine (l26Clock_any (n + q).toNat _ _ hz.out hzn).mono ?_
            rintro e w3 ⟨rfl, q3⟩
            go_wp2_with fail
            go_ret2
            exact ⟨by rw [HR.out]; rfl, q3.below _⟩
          · have hin : inB (n + q) 0 36000 = false := by unfold inB; rw [Bool.eq_false_iff]; intro h; exact hr (by simpa using h)
            clear hcl hr
            go_wp2_with (go_at_call 25; refine (l1In_any _ _ _ _).mono ?_; rw [hin]; rintro e w' ⟨rfl, rfl⟩)
            go_ret2
            exact ⟨by rw [HR.out]; rfl, Below.refl _ _⟩
        | true =>
          have HR := Lib.hid (HS.1 hcl)
          obtain ⟨h0, h1, h2⟩ := isClock_true hcl
          have hin : inB (n + q) 0 36000 = true := by simp [inB, h0, h1]
          have hne : ((clockT (n + q).toNat).toList == s.toList) = true := by rw [str_beq]; exact decide_eq_true h2
          have hz := Lib.hid (show n + q = ((n + q).toNat : Int) by omega)
          have hzn : (n + q).toNat ≤ 36000 := by omega
          clear hcl HS h2
          go_wp2_with (go_at_call 25; refine (l1In_any _ _ _ _).mono ?_; rw [hin]; rintro e w' ⟨rfl, rfl⟩)
          refine (l26Clock_any (n + q).toNat _ _ hz.out hzn).mono ?_
          rintro e w3 ⟨rfl, q3⟩
          go_wp2_with fail
          go_ret2
          exact ⟨by rw [HR.out]; rfl, q3.below _⟩

end Go.Proofs.YtbcblmbpjecilaaGreatDoor
