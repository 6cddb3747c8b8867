/- The cursor's draws: a yes, one of some texts, one of some numbers, a spoilt text. -/
import Derived.Test.YtbcblmbpjecilaaGreatDoorCur
import Derived.Test.YtbcblmbpjecilaaGreatDoorText
namespace Go.Proofs.YtbcblmbpjecilaaGreatDoor
open Go.RowKit

def DrawnB (w : World) (g n : Nat) (e : Ending) (w' : World) : Prop := ∃ b : Bool, e = .returned (.bool b) ∧ Cur w' g n ∧ Only (fun b => b = g) w w'
def DrawnT (w : World) (g n : Nat) (P : ByteArray → Prop) (e : Ending) (w' : World) : Prop := ∃ s, e = .returned (.string s) ∧ P s ∧ Cur w' g n ∧ Only (fun b => b = g) w w'
def DrawnI (w : World) (g n : Nat) (P : Int → Prop) (e : Ending) (w' : World) : Prop := ∃ s, e = .returned (.int .i64 s) ∧ P s ∧ Cur w' g n ∧ Only (fun b => b = g) w w'

theorem one_any (k : Int) (g n : Nat) (w : World) (h : Cur w g n) (hn : n ≤ 999000) (h0 : 1 ≤ k) (h1 : k ≤ 1000000000) :
    Calls Tryz.prog 30 #[.pointer (some ⟨g, 0, none⟩), .int .i64 k] w (DrawnB w g (n + 2)) := by
  go_enter Tryz.func30, Tryz.ntmps30
  go_wp2_with fail
  refine (pick_any k g n w h hn h0 h1).mono ?_
  rintro e w1 ⟨r, rfl, hr, c1, o1⟩
  go_wp2_with fail
  go_ret
  exact ⟨_, rfl, c1, o1⟩

theorem of_any (g n b m : Nat) (t : TypeId) (L : List ByteArray) (w : World) (hB : Blk w b t (L.map Value.string)) (hne : b ≠ g) (h : Cur w g n) (hn : n ≤ 999000) (hL : L.length = m) (h0 : 1 ≤ m) (h1 : m ≤ 1000) :
    Calls Tryz.prog 84 #[.pointer (some ⟨g, 0, none⟩), .slice (some ⟨b, 0, none⟩) m m] w (DrawnT w g (n + 2) (· ∈ L)) := by
  have HL := Lib.hid hL
  clear hL
  go_enter Tryz.func84, Tryz.ntmps84
  go_wp2_with fail
  refine (pick_any m g n w h hn (by omega) (by omega)).mono ?_
  rintro e w1 ⟨r, rfl, hr, c1, o1⟩
  have hr1 : r < m := by simp at hr; omega
  have hr2 : (r : Int) < (m : Int) := by omega
  have hr3 : r < L.length := by rw [HL.out]; exact hr1
  have hc : w1.cell? ⟨b, r, none⟩ = some (.string L[r]) := by
    rw [(hB.only o1 hne).cell r, List.getElem?_map, List.getElem?_eq_getElem hr3]; rfl
  clear hr
  go_wp2_with fail
  go_ret
  exact ⟨_, rfl, List.getElem_mem hr3, c1, o1⟩

theorem among_any (g n b m : Nat) (t : TypeId) (L : List Int) (w : World) (hB : Blk w b t (ints L)) (hne : b ≠ g) (h : Cur w g n) (hn : n ≤ 999000) (hL : L.length = m) (h0 : 1 ≤ m) (h1 : m ≤ 1000) :
    Calls Tryz.prog 22 #[.pointer (some ⟨g, 0, none⟩), .slice (some ⟨b, 0, none⟩) m m] w (DrawnI w g (n + 2) (· ∈ L)) := by
  have HL := Lib.hid hL
  clear hL
  go_enter Tryz.func22, Tryz.ntmps22
  go_wp2_with fail
  refine (pick_any m g n w h hn (by omega) (by omega)).mono ?_
  rintro e w1 ⟨r, rfl, hr, c1, o1⟩
  have hr1 : r < m := by simp at hr; omega
  have hr2 : (r : Int) < (m : Int) := by omega
  have hr3 : r < L.length := by rw [HL.out]; exact hr1
  have hc : w1.cell? ⟨b, r, none⟩ = some (.int .i64 L[r]) := by
    rw [(hB.only o1 hne).cell r]
    exact ints_get L r hr3
  clear hr
  go_wp2_with fail
  go_ret
  exact ⟨_, rfl, List.getElem_mem hr3, c1, o1⟩

set_option maxRecDepth 100000 in
set_option maxHeartbeats 1000000 in
theorem spoilt_any (t x : ByteArray) (g n : Nat) (w : World) (h : Cur w g n) (hn : n ≤ 990000) (ht : t.size ≤ 1000000) (hx : 1 ≤ x.size) (hx1 : x.size ≤ 1000) :
    Calls Tryz.prog 31 #[.pointer (some ⟨g, 0, none⟩), .string t, .string x] w (DrawnT w g (n + 6) (fun s => s.size ≤ t.size + 1)) := by
  have hx2 : ¬ (x.size : Int) < 1 := by omega
  by_cases h0 : t = ByteArray.empty
  · subst h0
    go_enter Tryz.func31, Tryz.ntmps31
    go_wp2_with fail
    go_ret
    exact ⟨_, rfl, by simp; omega, h.more (by omega), Only.refl _ _⟩
  · have hts : 0 < t.size := by
      rcases Nat.eq_zero_or_pos t.size with h1 | h1
      · exact absurd (by simpa using h1) h0
      · exact h1
    have hb : (t.toList == ByteArray.empty.toList) = false := by rw [str_beq, decide_eq_false h0]
    have hb2 : t.toList.isEmpty = false := by
      cases hh : t.toList with
      | nil => exact absurd (by have := str_beq t ByteArray.empty; rw [hh] at this; simpa using this) h0
      | cons a l => rfl
    clear h0
    go_enter Tryz.func31, Tryz.ntmps31
    go_wp2_with fail
    refine (pick_any t.size g n w h (by omega) (by omega) (by omega)).mono ?_
    rintro e w1 ⟨r, rfl, hr, c1, o1⟩
    have hr1 : r < t.size := by simp at hr; omega
    clear hr
    go_wp2_with fail
    refine (pick_any x.size g _ w1 c1 (by omega) (by omega) (by omega)).mono ?_
    rintro e w2 ⟨j, rfl, hj, c2, o2⟩
    have hj1 : j < x.size := by simp at hj; omega
    clear hj
    go_wp2_with fail
    have hy : ((x.extract j x.size).extract 0 1).size ≤ 1 := by simp; omega
    generalize (x.extract j x.size).extract 0 1 = y at *
    refine (pick_any 3 g _ w2 c2 (by omega) (by omega) (by omega)).mono ?_
    rintro e w3 ⟨q, rfl, hq, c3, o3⟩
    have o4 := (o1.trans o2).trans o3
    have e1 : (t.extract 0 r).size = r := by simp; omega
    have e2 : (t.extract r t.size).size = t.size - r := by simp
    have e3 : (t.extract (r + 1) t.size).size = t.size - (r + 1) := by simp
    have E1 := Lib.hid e1
    have E2 := Lib.hid e2
    have E3 := Lib.hid e3
    have f1 : ¬ 9223372036854775807 < r + y.size := by omega
    have f2 : ¬ 9223372036854775807 < r + y.size + (t.size - r) := by omega
    have f3 : ¬ 9223372036854775807 < r + y.size + (t.size - (r + 1)) := by omega
    have f4 : ¬ 9223372036854775807 < r + (t.size - (r + 1)) := by omega
    have hr2 : r ≤ t.size := by omega
    have hr3 : (r : Int) ≤ (t.size : Int) := by omega
    have hr4 : (r : Int) + 1 ≤ (t.size : Int) := by omega
    clear e1 e2 e3
    have hq3 : q = 0 ∨ q = 1 ∨ q = 2 := by simp at hq; omega
    clear hq
    rcases hq3 with rfl | rfl | rfl
    · go_wp2_with fail
      go_quiet (fail)
      go_wp2_with fail
      go_ret
      exact ⟨_, rfl, by show _ ≤ _; rw [ByteArray.size_append, ByteArray.size_append, E1.out, E2.out]; omega, c3.next ((Quiet.mk _ _).below _), o4.quiet (Quiet.mk _ _)⟩
    · go_wp2_with fail
      go_quiet (fail)
      go_wp2_with fail
      go_ret
      exact ⟨_, rfl, by show _ ≤ _; rw [ByteArray.size_append, ByteArray.size_append, E1.out, E3.out]; omega, c3.next ((Quiet.mk _ _).below _), o4.quiet (Quiet.mk _ _)⟩
    · go_wp2_with fail
      go_quiet (fail)
      go_wp2_with fail
      go_ret
      exact ⟨_, rfl, by show _ ≤ _; rw [ByteArray.size_append, E1.out, E3.out]; omega, c3.next ((Quiet.mk _ _).below _), o4.quiet (Quiet.mk _ _)⟩

end Go.Proofs.YtbcblmbpjecilaaGreatDoor
