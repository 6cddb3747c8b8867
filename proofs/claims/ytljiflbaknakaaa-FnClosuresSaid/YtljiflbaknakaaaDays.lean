/- DaysForWay, as the program and as the reference have it. -/
import Derived.Test.YtljiflbaknakaaaWay3
namespace Go.Proofs.Ytljiflbaknakaaa
open Go.RowKit

def goodD (m : MapV) (xs : List Area) (ys : List Int) (d : Nat) : Bool := decide ((errsTo m xs (d : Int) ys ys.length).length = 0)
/-- the good days before d, and those from d on -/
def okDays (m : MapV) (xs : List Area) (ys : List Int) (d : Nat) : List Nat := (List.range d).filter (goodD m xs ys)
def okFrom (m : MapV) (xs : List Area) (ys : List Int) (d : Nat) : List Nat := (List.range' d (365 - d)).filter (goodD m xs ys)
theorem okDays_next (m : MapV) (xs : List Area) (ys : List Int) (d : Nat) : okDays m xs ys (d + 1) = if goodD m xs ys d then okDays m xs ys d ++ [d] else okDays m xs ys d := by
  unfold okDays
  rw [List.range_succ, List.filter_append]
  cases h : goodD m xs ys d <;> simp [h]
theorem okFrom_next (m : MapV) (xs : List Area) (ys : List Int) (d : Nat) (hd : d < 365) : okFrom m xs ys d = if goodD m xs ys d then d :: okFrom m xs ys (d + 1) else okFrom m xs ys (d + 1) := by
  unfold okFrom
  rw [show 365 - d = (365 - (d + 1)) + 1 by omega, List.range'_succ, List.filter_cons]
theorem okFrom_all (m : MapV) (xs : List Area) (ys : List Int) : okFrom m xs ys 0 = okDays m xs ys 365 := by
  unfold okFrom okDays
  rw [List.range_eq_range']
theorem okDays_len (m : MapV) (xs : List Area) (ys : List Int) (d : Nat) : (okDays m xs ys d).length ≤ d := by
  unfold okDays
  exact Nat.le_trans (List.length_filter_le _ _) (by simp)
theorem okFrom_len (m : MapV) (xs : List Area) (ys : List Int) (d : Nat) : (okFrom m xs ys d).length ≤ 365 := by
  unfold okFrom
  exact Nat.le_trans (List.length_filter_le _ _) (by simp)
def headN (l : List Nat) : Int := ((l.headD 0 : Nat) : Int)
def daysWay (m : MapV) (xs : List Area) (ys : List Int) : Int × Int × Bool :=
  if areasB m xs && wayB m ys then (headN (okDays m xs ys 365), ((okDays m xs ys 365).length : Int), decide (0 < (okDays m xs ys 365).length)) else (0, 0, false)
/-- Two numbers and a word. -/
def GivesTrip (w : World) (R : Int × Int × Bool) (e : Ending) (w' : World) : Prop :=
  e = .returned (.tuple #[.int .i64 R.1, .int .i64 R.2.1, .bool R.2.2]) ∧ Below w.heap.size w w'
theorem headN_app_nil (d : Nat) : headN ([] ++ [d]) = (d : Int) := rfl
theorem headN_app {l : List Nat} (h : 0 < l.length) (d : Nat) : headN (l ++ [d]) = headN l := by
  cases l with
  | nil => simp at h
  | cons x l => rfl
theorem headN_cons (d : Nat) (l : List Nat) : headN (d :: l) = (d : Int) := rfl

set_option maxRecDepth 100000 in
set_option maxHeartbeats 2000000 in
theorem DaysForWay_any (A1 A2 : Option Addr) (n1 n2 c1 c2 : Nat) (m : MapV) (A : Option Addr) (n c : Nat) (xs : List Area) (Y : Option Addr) (ny cy : Nat) (ys : List Int) (w : World) (hm : SeesMap w A1 n1 A2 n2 m) (hn' : n1 ≤ 1048576 ∧ n2 ≤ 1048576) (hx : SeesN areaSh w 0 A n xs) (hn : n ≤ 1048576) (hi : ∀ x ∈ xs, x.cnt ≤ 1048576) (hy : Sees w 0 1 Y ny (ints ys)) (hny : ny ≤ 1048576) :
    Calls Try.prog 36 #[.agg #[.int .i64 m.width, .int .i64 m.height, .slice A1 n1 c1, .slice A2 n2 c2], .slice A n c, .slice Y ny cy] w (GivesTrip w (daysWay m xs ys)) := by
  have HLy := Lib.hid hy.icount
  have hly1 : ys.length ≤ ny := by rw [HLy.out]; exact Nat.le_refl _
  go_enter Try.func36, Try.ntmps36
  go_wp2_with fail
  have K0 : Below w.heap.size w (w.alloc (.cells #[.int .i64 m.width, .int .i64 m.height, .slice A1 n1 c1, .slice A2 n2 c2] 29)) := (Below.refl _ _).alloc (Nat.le_refl _) _
  have Bm0 : Blk (w.alloc (.cells #[.int .i64 m.width, .int .i64 m.height, .slice A1 n1 c1, .slice A2 n2 c2] 29)) w.heap.size 29 [.int .i64 m.width, .int .i64 m.height, .slice A1 n1 c1, .slice A2 n2 c2] := Blk.at_ rfl
  refine (AreAreas_any _ _ _ _ _ _ m _ _ _ xs _ (hm.next K0) hn' (hx.next K0) hn hi).mono ?_
  cases g1 : areasB m xs
  · rintro e w1 ⟨rfl, b1⟩
    go_wp2_with fail
    go_ret3
    rw [show daysWay m xs ys = (0, 0, false) by simp [daysWay, g1]]
    exact ⟨rfl, bel_then K0 b1⟩
  · rintro e w1 ⟨rfl, b1⟩
    have G0 := Lib.hid (areasB_at g1).1
    have K1 := bel_then K0 b1
    have Bm1 := Bm0.next b1
    have cm1 := Bm1.cell
    go_wp2_with fail
    refine (isWay_any _ _ _ _ _ _ m _ _ _ ys _ (hm.next K1) hn' (hy.next K1) hny G0.out).mono ?_
    cases g2 : wayB m ys
    · rintro e w2 ⟨rfl, b2⟩
      go_wp2_with fail
      go_ret3
      rw [show daysWay m xs ys = (0, 0, false) by simp [daysWay, g2]]
      exact ⟨rfl, bel_then K1 b2⟩
    · have HR := Lib.hid (show daysWay m xs ys = (headN (okDays m xs ys 365), ((okDays m xs ys 365).length : Int), decide (0 < (okDays m xs ys 365).length)) by simp only [daysWay, g1, g2, Bool.and_self, if_true])
      have HC := Lib.hid (wayB_in g2)
      rintro e w2 ⟨rfl, b2⟩
      have K2 := bel_then K1 b2
      have Bm2 := Bm1.next b2
      clear g1 g2 cm1
      go_wp2_with fail
      go_loopw [9, 10, 11] (fun f q i wr => ∃ (d : Nat) (l : List Nat), d ≤ 365 ∧ i = .int .i64 d ∧ Hid (okDays m xs ys d = l) ∧ l.length ≤ d ∧ f = .int .i64 (headN l) ∧ q = .int .i64 (l.length : Int) ∧ Blk wr w.heap.size 29 [.int .i64 m.width, .int .i64 m.height, .slice A1 n1 c1, .slice A2 n2 c2] ∧ Below w.heap.size w wr) (fun _ _ i _ => 365 - (intOf i).toNat)
      case atStart => exact ⟨0, [], Nat.zero_le _, rfl, Lib.hid rfl, by simp, rfl, rfl, Bm2, K2⟩
      case round =>
        obtain ⟨d, l, hd, rfl, HL, hlen, rfl, rfl, Bm, hb⟩ := hrel
        have cm := Bm.cell
        by_cases hlt : d < 365
        · have hin : inB (d : Int) 0 364 = true := by simp [inB]; omega
          have HN := okDays_next m xs ys d
          rw [HL.out] at HN
          have HG := Lib.hid (show goodD m xs ys d = decide ((errsTo m xs (d : Int) ys ys.length).length = 0) from rfl)
          go_wp2_with (go_at_call 69; refine (isYearDay_any _ _).mono ?_; rintro e w' ⟨rfl, rfl⟩)
          refine (wayErrors_any _ _ _ _ _ _ m _ _ _ xs d _ _ _ ys _ (hm.next hb) (hx.next hb) hn hi (hy.next hb) hny G0.out HC.out).mono ?_
          have hel := errsTo_len m xs (d : Int) ys ys.length
          generalize errsTo m xs (d : Int) ys ys.length = L at *
          rintro e w3 ⟨A3, c3, rfl, o3, b3⟩
          have K4 := bel_then hb b3
          have B4 := Bm.next b3
          clear cm o3
          by_cases h0 : L.length = 0
          · rw [HG.out, decide_eq_true h0] at HN
            have HM := Lib.hid (HN.trans (if_pos rfl))
            have hz : ¬ (0 < L.length) := by omega
            clear HN h0
            by_cases h1 : 0 < l.length
            · have hq : ((l.length : Int) == 0) = false := beq_eq_false_iff_ne.2 (by omega)
              have HH := Lib.hid (headN_app h1 d)
              clear h1
              go_wp2_with fail
              go_roundw
              case rel => exact ⟨d + 1, l ++ [d], by omega, by go_num, HM, by rw [List.length_append]; simp; omega, by rw [HH.out], by rw [List.length_append]; go_num, B4, K4⟩
              case measure => simp [intOf]; omega
            · obtain rfl : l = [] := by cases l with
                | nil => rfl
                | cons x l => simp at h1
              go_wp2_with fail
              go_roundw
              case rel => exact ⟨d + 1, [] ++ [d], by omega, by go_num, HM, by simp, by rw [headN_app_nil], by simp, B4, K4⟩
              case measure => simp [intOf]; omega
          · rw [HG.out, decide_eq_false h0] at HN
            have HM := Lib.hid (HN.trans (if_neg (by decide)))
            have hz : 0 < L.length := by omega
            clear HN h0
            go_wp2_with fail
            go_roundw
            case rel => exact ⟨d + 1, l, by omega, by go_num, HM, by omega, rfl, rfl, B4, K4⟩
            case measure => simp [intOf]; omega
        · obtain rfl : d = 365 := by omega
          have hin : inB ((365 : Nat) : Int) 0 364 = false := by rfl
          go_wp2_with (go_at_call 69; refine (isYearDay_any _ _).mono ?_; rintro e w' ⟨rfl, rfl⟩)
          go_ret3
          refine ⟨?_, hb⟩
          rw [HR.out, HL.out]
          rfl

set_option maxRecDepth 100000 in
set_option maxHeartbeats 2000000 in
theorem specDaysForWay_any (A1 A2 : Option Addr) (n1 n2 c1 c2 : Nat) (m : MapV) (A : Option Addr) (n c : Nat) (xs : List Area) (Y : Option Addr) (ny cy : Nat) (ys : List Int) (w : World) (hm : SeesMap w A1 n1 A2 n2 m) (hn' : n1 ≤ 1048576 ∧ n2 ≤ 1048576) (hx : SeesN areaSh w 0 A n xs) (hn : n ≤ 1048576) (hi : ∀ x ∈ xs, x.cnt ≤ 1048576) (hy : Sees w 0 1 Y ny (ints ys)) (hny : ny ≤ 1048576) :
    Calls Try.prog 34 #[.agg #[.int .i64 m.width, .int .i64 m.height, .slice A1 n1 c1, .slice A2 n2 c2], .slice A n c, .slice Y ny cy] w (GivesTrip w (daysWay m xs ys)) := by
  have HLy := Lib.hid hy.icount
  have hly1 : ys.length ≤ ny := by rw [HLy.out]; exact Nat.le_refl _
  go_enter Try.func34, Try.ntmps34
  go_wp2_with fail
  have K0 : Below w.heap.size w (w.alloc (.cells #[.int .i64 m.width, .int .i64 m.height, .slice A1 n1 c1, .slice A2 n2 c2] 29)) := (Below.refl _ _).alloc (Nat.le_refl _) _
  have Bm0 : Blk (w.alloc (.cells #[.int .i64 m.width, .int .i64 m.height, .slice A1 n1 c1, .slice A2 n2 c2] 29)) w.heap.size 29 [.int .i64 m.width, .int .i64 m.height, .slice A1 n1 c1, .slice A2 n2 c2] := Blk.at_ rfl
  refine (l24Good_any _ _ _ _ _ _ m _ _ _ xs _ (hm.next K0) hn' (hx.next K0) hn hi).mono ?_
  cases g1 : areasB m xs
  · rintro e w1 ⟨rfl, b1⟩
    go_wp2_with fail
    go_ret3
    rw [show daysWay m xs ys = (0, 0, false) by simp [daysWay, g1]]
    exact ⟨rfl, bel_then K0 b1⟩
  · rintro e w1 ⟨rfl, b1⟩
    have G0 := Lib.hid (areasB_at g1).1
    have K1 := bel_then K0 b1
    have Bm1 := Bm0.next b1
    have cm1 := Bm1.cell
    go_wp2_with fail
    refine (l24Way_any _ _ _ _ _ _ m _ _ _ ys _ (hy.next K1) hny G0.out).mono ?_
    cases g2 : wayB m ys
    · rintro e w2 ⟨rfl, b2⟩
      go_wp2_with fail
      go_ret3
      rw [show daysWay m xs ys = (0, 0, false) by simp [daysWay, g2]]
      exact ⟨rfl, bel_then K1 b2⟩
    · have HR := Lib.hid (show daysWay m xs ys = (headN (okDays m xs ys 365), ((okDays m xs ys 365).length : Int), decide (0 < (okDays m xs ys 365).length)) by simp only [daysWay, g1, g2, Bool.and_self, if_true])
      have HC := Lib.hid (wayB_in g2)
      rintro e w2 ⟨rfl, b2⟩
      have K2 := bel_then K1 b2
      have Bm2 := Bm1.next b2
      clear g1 g2 cm1
      go_wp2_with fail
      go_loopw [9, 10, 11] (fun f q i wr => ∃ (d : Nat) (l : List Nat), d ≤ 365 ∧ i = .int .i64 ((d : Int) - 1) ∧ Hid (okFrom m xs ys d = l) ∧ l.length ≤ 365 ∧ f = .int .i64 (headN l) ∧ q = .int .i64 (l.length : Int) ∧ Blk wr w.heap.size 29 [.int .i64 m.width, .int .i64 m.height, .slice A1 n1 c1, .slice A2 n2 c2] ∧ Below w.heap.size w wr) (fun _ _ i _ => (intOf i + 1).toNat)
      case atStart => exact ⟨365, [], Nat.le_refl _, by go_num, Lib.hid rfl, by simp, rfl, rfl, Bm2, K2⟩
      case round =>
        obtain ⟨d, l, hd, rfl, HL, hlen, rfl, rfl, Bm, hb⟩ := hrel
        have cm := Bm.cell
        by_cases hlt : 0 < d
        · obtain ⟨d, rfl⟩ : ∃ j, d = j + 1 := ⟨d - 1, by omega⟩
          have HN := okFrom_next m xs ys d (by omega)
          rw [HL.out] at HN
          have HG := Lib.hid (show goodD m xs ys d = decide ((errsTo m xs (d : Int) ys ys.length).length = 0) from rfl)
          have hdd : ((d + 1 : Nat) : Int) - 1 = (d : Int) := by omega
          go_wp2_with fail
          refine (l24Errors_any _ _ _ _ _ _ m _ _ _ xs d _ _ _ ys _ (hm.next hb) (hx.next hb) hn hi (hy.next hb) hny G0.out HC.out).mono ?_
          have hel := errsTo_len m xs (d : Int) ys ys.length
          generalize errsTo m xs (d : Int) ys ys.length = L at *
          rintro e w3 ⟨A3, c3, rfl, o3, b3⟩
          have K4 := bel_then hb b3
          have B4 := Bm.next b3
          clear cm o3
          by_cases h0 : L.length = 0
          · rw [HG.out, decide_eq_true h0] at HN
            have HM := Lib.hid (HN.trans (if_pos rfl))
            have hz : ((L.length : Int) == 0) = true := beq_iff_eq.2 (by omega)
            have hl5 := okFrom_len m xs ys d
            rw [HM.out] at hl5
            clear HN h0
            go_wp2_with fail
            go_roundw
            case rel => exact ⟨d, d :: l, by omega, by first | rfl | go_num, HM, hl5, by rw [headN_cons], by rw [List.length_cons]; go_num, B4, K4⟩
            case measure => simp [intOf]; try omega
          · rw [HG.out, decide_eq_false h0] at HN
            have HM := Lib.hid (HN.trans (if_neg (by decide)))
            have hz : ((L.length : Int) == 0) = false := beq_eq_false_iff_ne.2 (by omega)
            clear HN h0
            go_wp2_with fail
            go_roundw
            case rel => exact ⟨d, l, by omega, by first | rfl | go_num, HM, hlen, rfl, rfl, B4, K4⟩
            case measure => simp [intOf]; try omega
        · obtain rfl : d = 0 := by omega
          have HF := Lib.hid (show okDays m xs ys 365 = l by rw [← HL.out, okFrom_all])
          go_wp2_with fail
          go_ret3
          refine ⟨?_, hb⟩
          rw [HR.out, HF.out]
          rfl

end Go.Proofs.Ytljiflbaknakaaa
