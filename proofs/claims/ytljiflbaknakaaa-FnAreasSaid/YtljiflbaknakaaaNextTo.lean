/- The cells next to a cell, as the program finds them. -/
import Derived.Test.YtljiflbaknakaaaGap
import Derived.Test.YtljiflbaknakaaaBfs
namespace Go.Proofs.Ytljiflbaknakaaa
open Go.RowKit

def nextB (m : MapV) (c : Int) (k : Nat) : Bool := decide (0 < m.cost.getD k 0) && decide (gapI m.width c k = 1)
def nextTo (m : MapV) (c : Int) (k : Nat) : List Int := ((List.range k).filter (nextB m c)).map fun i : Nat => (i : Int)
def nextL (m : MapV) (c : Int) : List Int := nextTo m c m.cost.length
theorem nextTo_next (m : MapV) (c : Int) (k : Nat) : nextTo m c (k + 1) = if nextB m c k then nextTo m c k ++ [(k : Int)] else nextTo m c k := by
  unfold nextTo
  rw [List.range_succ, List.filter_append, List.map_append]
  cases h : nextB m c k <;> simp [h]
theorem nextTo_len (m : MapV) (c : Int) (k : Nat) : (nextTo m c k).length ≤ k := by
  unfold nextTo
  rw [List.length_map]
  exact Nat.le_trans (List.length_filter_le _ _) (by simp)
theorem mem_nextL {m : MapV} {c x : Int} : x ∈ nextL m c ↔ (0 ≤ x ∧ x < m.cost.length) ∧ 0 < m.cost.getD x.toNat 0 ∧ gapI m.width c x = 1 := by
  unfold nextL nextTo nextB
  simp only [List.mem_map, List.mem_filter, List.mem_range, Bool.and_eq_true, decide_eq_true_eq]
  constructor
  · rintro ⟨i, ⟨h1, h2, h3⟩, rfl⟩
    exact ⟨by omega, by simpa using h2, h3⟩
  · rintro ⟨h1, h2, h3⟩
    exact ⟨x.toNat, ⟨by omega, h2, by rw [show ((x.toNat : Nat) : Int) = x by omega]; exact h3⟩, by omega⟩

set_option maxRecDepth 100000 in
set_option maxHeartbeats 1000000 in
theorem cellsNextTo_any (A1 A2 : Option Addr) (n1 n2 c1 c2 : Nat) (m : MapV) (a : Int) (w : World) (hm : SeesMap w A1 n1 A2 n2 m) (hn : n2 ≤ 36) (hw : 1 ≤ m.width ∧ m.width ≤ 6) (ha : 0 ≤ a ∧ a ≤ 1000000) :
    Calls Try.prog 113 #[.agg #[.int .i64 m.width, .int .i64 m.height, .slice A1 n1 c1, .slice A2 n2 c2], .int .i64 a] w (GivesL w (nextL m a)) := by
  have HL2 := Lib.hid hm.f2.icount
  have hl2a : m.cost.length ≤ n2 := by rw [HL2.out]; exact Nat.le_refl _
  have hl2b : n2 ≤ m.cost.length := by rw [HL2.out]; exact Nat.le_refl _
  go_enter Try.func113, Try.ntmps113
  go_wp2_with fail
  have hown0 := own_empty_at (w := w.alloc (.cells #[.int .i64 m.width, .int .i64 m.height, .slice A1 n1 c1, .slice A2 n2 c2] 29)) (g := w.heap.size + 1) 3 1 (by simp)
  have hb0 : Below w.heap.size w ((w.alloc (.cells #[.int .i64 m.width, .int .i64 m.height, .slice A1 n1 c1, .slice A2 n2 c2] 29)).alloc (.cells #[] 3)) := ((Below.refl _ _).alloc (Nat.le_refl _) _).alloc (by simp) _
  go_loopw [5, 12] (fun v i wr => ∃ (k : Nat) (out : List Int) (A' : Option Addr) (c' : Nat), k ≤ n2 ∧ i = .int .i64 k ∧ v = .slice A' out.length c' ∧ wr.ownsRow (w.heap.size + 1) 3 1 (.slice A' out.length c') out.length (ints out) ∧ out.length ≤ k ∧ Hid (nextTo m a k = out) ∧ Blk wr w.heap.size 29 [.int .i64 m.width, .int .i64 m.height, .slice A1 n1 c1, .slice A2 n2 c2] ∧ Below w.heap.size w wr) (fun _ i _ => n2 - (intOf i).toNat)
  case atStart => exact ⟨0, [], _, _, Nat.zero_le _, rfl, rfl, hown0, Nat.le_refl _, Lib.hid rfl, (Blk.at_ rfl).alloc _, hb0⟩
  case round =>
    obtain ⟨k, out, A', c', hk, rfl, rfl, hown, hlo, HO, Bm, hb⟩ := hrel
    have cm := Bm.cell
    by_cases hlt : k < n2
    · have hN := nextTo_next m a k
      rw [HO.out] at hN
      obtain ⟨b2, off2, rfl, hk2, x2⟩ := (hm.next hb).f2.int hlt
      have hgd : m.cost.getD k 0 = m.cost[k] := by rw [List.getD_eq_getElem?_getD, List.getElem?_eq_getElem hk2]; rfl
      by_cases hc : 0 < m.cost[k]
      · have hdc : decide (0 < m.cost[k]) = true := decide_eq_true hc
        go_wp2_with fail
        refine (gapOf_any _ _ _ _ _ _ m a k _ hw ha (by omega)).mono ?_
        rintro e w3 ⟨rfl, b3⟩
        by_cases hg : gapI m.width a k = 1
        · have HN := Lib.hid (hN.trans (if_pos (by unfold nextB; rw [hgd, decide_eq_true hc, decide_eq_true hg]; rfl)))
          have hge : (gapI m.width a k == 1) = true := beq_iff_eq.2 hg
          have K4 := bel_then hb b3
          have B3 := Bm.next b3
          have z3 := Bm.lt
          have z4 := b3.size
          clear hN cm hg
          generalize gapI m.width a k = gg at *
          go_wp2_with (at_builtin; go_loud (refine wpList_pushNew rfl _ _ _ rfl Try.underlying22 info_int rfl (by decide) rfl (own_below hown b3) rfl (by simp) (by rfl) (by rfl) (by omega) (by decide) (by omega) ?_); intro A4 c4 w2 hown2 ho2 hbb2 hat2)
          go_roundw
          case rel => exact ⟨k + 1, out ++ [(k : Int)], A4, c4, by omega, by go_num, by simp, by simpa [ints] using hown2, by simp; omega, HN, B3.only ho2 (own_not hown (by omega)), K4.trans (hbb2.mono (by omega))⟩
          case measure => simp [intOf]; omega
        · have HN := Lib.hid (hN.trans (if_neg (by unfold nextB; rw [decide_eq_false hg]; simp)))
          have hge : (gapI m.width a k == 1) = false := beq_eq_false_iff_ne.2 hg
          clear hN cm hg
          generalize gapI m.width a k = gg at *
          go_wp2_with fail
          go_roundw
          case rel => exact ⟨k + 1, out, _, _, by omega, by go_num, rfl, own_below hown b3, by omega, HN, Bm.next b3, bel_then hb b3⟩
          case measure => simp [intOf]; omega
      · have HN := Lib.hid (hN.trans (if_neg (by unfold nextB; rw [hgd, decide_eq_false hc]; simp)))
        have hdc : decide (0 < m.cost[k]) = false := decide_eq_false hc
        clear hN
        go_wp2_with fail
        go_roundw
        case rel => exact ⟨k + 1, out, _, _, by omega, by go_num, rfl, hown, by omega, HN, Bm, hb⟩
        case measure => simp [intOf]; omega
    · obtain rfl : k = n2 := by omega
      have HE := Lib.hid (show nextL m a = out by unfold nextL; rw [← HO.out, HL2.out])
      go_wp2_with fail
      go_ret
      rw [HE.out]
      exact ⟨_, _, rfl, own_base hown (by omega), hb⟩

end Go.Proofs.Ytljiflbaknakaaa
