/- TroubleNumbers, as the program and as the reference have it. -/
import Derived.Test.YtkeffhnkhmalpaaWait
import Derived.Test.YtkeffhnkhmalpaaTroubleP
namespace Go.Proofs.Ytkeffhnkhmalpaa
open Go.RowKit

def numsOf (xs : List Card) : List Int := xs.map Card.number
def troubleM (d : DeskV) : Option (List Int) := if deskB d then some (onceL (numsOf d.trouble)) else none
theorem troubleM_len (d : DeskV) : ((troubleM d).getD []).length ≤ d.trouble.length := by
  unfold troubleM
  split
  · have := onceL_len (numsOf d.trouble)
    simpa [numsOf] using this
  · simp
theorem numsOf_next (xs : List Card) {k : Nat} (hk : k < xs.length) : numsOf (xs.take (k + 1)) = numsOf (xs.take k) ++ [xs[k].number] := by
  unfold numsOf
  rw [List.take_succ_eq_append_getElem hk, List.map_append]
  rfl

set_option maxRecDepth 100000 in
set_option maxHeartbeats 2000000 in
theorem TroubleNumbers_any (h : DeskH) (d : DeskV) (w : World) (hs : SeesDesk w 0 h d) (hn : DeskFit 1048576 h d) (hcap : h.n3 ≤ h.c3) :
    Calls Try.prog 27 #[.agg #[.slice h.A0 h.n0 h.c0, .slice h.A1 h.n1 h.c1, .slice h.A2 h.n2 h.c2, .slice h.A3 h.n3 h.c3, .slice h.A4 h.n4 h.c4]] w (GivesInts w (troubleM d)) := by
  obtain ⟨A0, n0, c0, A1, n1, c1', A2, n2, c2', A3, n3, c3, A4, n4, c4⟩ := h
  have K0 : Below w.heap.size w (w.alloc (.cells #[.slice A0 n0 c0, .slice A1 n1 c1', .slice A2 n2 c2', .slice A3 n3 c3, .slice A4 n4 c4] 32)) := (Below.refl _ _).alloc (Nat.le_refl _) _
  have P0 : Blk (w.alloc (.cells #[.slice A0 n0 c0, .slice A1 n1 c1', .slice A2 n2 c2', .slice A3 n3 c3, .slice A4 n4 c4] 32)) w.heap.size 32 [.slice A0 n0 c0, .slice A1 n1 c1', .slice A2 n2 c2', .slice A3 n3 c3, .slice A4 n4 c4] := Blk.at_ rfl
  have HL4 := Lib.hid hs.f4.count
  have hl4b : n4 ≤ d.trouble.length := by rw [HL4.out]; exact Nat.le_refl _
  have hl4a : d.trouble.length ≤ n4 := by rw [HL4.out]; exact Nat.le_refl _
  go_enter Try.func27, Try.ntmps27
  go_wp2_with fail
  refine (IsDesk_any ⟨A0, n0, c0, A1, n1, c1', A2, n2, c2', A3, n3, c3, A4, n4, c4⟩ d _ (hs.next K0) hn hcap).mono ?_
  cases g : deskB d
  · rintro e w1 ⟨rfl, b1⟩
    go_wp2_with fail
    go_ret2
    rw [show troubleM d = none by simp [troubleM, g]]
    exact gives_nil (bel_then K0 b1)
  · rintro e w1 ⟨rfl, b1⟩
    have HR := Lib.hid (show troubleM d = some (onceL (numsOf d.trouble)) by simp [troubleM, g])
    have ht := (deskB_top g).2
    have h10 : n4 ≤ 10 := by omega
    have K1 := bel_then K0 b1
    have P1 := P0.next b1
    have c1 := P1.cell
    have o1 := own_low (own_empty w1 3 1) (show w.heap.size + 1 ≤ w1.heap.size from P1.lt)
    have K2 := K1.alloc K1.size (.cells #[] 3)
    have P2 := P1.alloc (.cells #[] 3)
    have z1 := P1.lt
    have c2 := P2.cell
    clear g K0 P0 b1 ht
    go_wp2_with fail
    clear c1 c2
    go_loopw [4, 14] (fun v i wr => ∃ (k : Nat) (out : List Int) (A' : Option Addr) (c' : Nat), k ≤ n4 ∧ i = .int .i64 k ∧ v = .slice A' out.length c' ∧ wr.ownsRow (w.heap.size + 1) 3 1 (.slice A' out.length c') out.length (ints out) ∧ out.length ≤ k ∧ Hid (numsOf (d.trouble.take k) = out) ∧ Blk wr w.heap.size 32 [.slice A0 n0 c0, .slice A1 n1 c1', .slice A2 n2 c2', .slice A3 n3 c3, .slice A4 n4 c4] ∧ Below w.heap.size w wr) (fun _ i _ => n4 - (intOf i).toNat)
    case atStart => exact ⟨0, [], _, _, Nat.zero_le _, rfl, rfl, o1, Nat.le_refl _, Lib.hid rfl, P2, K2⟩
    case round =>
      obtain ⟨k, out, A', c', hk, rfl, rfl, hown, hlo, HO, PB, hb⟩ := hrel
      have cm := PB.cell
      by_cases hlt : k < n4
      · obtain ⟨bk, offk, B0, mc, cc0, hA4, hkx, x0, x1, x2, x3, -⟩ := SeesCard.elem (hs.f4.next hb) hlt
        have HN := Lib.hid (show numsOf (d.trouble.take (k + 1)) = out ++ [d.trouble[k].number] by rw [numsOf_next _ hkx, HO.out])
        have hblt := World.block_lt_of_cell? wr _ x0
        have hnp : (k : Int) < (n4 : Int) := by omega
        have K3 := hb.alloc hb.size (.cells #[.int .i64 d.trouble[k].number, .int .i64 d.trouble[k].start, .int .i64 d.trouble[k].finish, .slice B0 mc cc0] 70)
        have P3 := PB.alloc (.cells #[.int .i64 d.trouble[k].number, .int .i64 d.trouble[k].start, .int .i64 d.trouble[k].finish, .slice B0 mc cc0] 70)
        have ow := own_alloc hown (.cells #[.int .i64 d.trouble[k].number, .int .i64 d.trouble[k].start, .int .i64 d.trouble[k].finish, .slice B0 mc cc0] 70)
        have zz := PB.lt
        subst hA4
        go_wp2_with (at_builtin; go_loud (refine wpList_pushNew rfl _ _ _ rfl Try.underlying22 info_int rfl (by decide) rfl ow rfl (by simp) (by rfl) (by rfl) (by omega) (by decide) P3.lt ?_); intro A9 c9 w9 o9 h9 b9 q9)
        go_roundw
        case rel => exact ⟨k + 1, out ++ [d.trouble[k].number], A9, c9, by omega, by go_num, by simp, by simpa [ints] using o9, by simp; omega, HN, P3.only h9 (own_not hown (by omega)), K3.trans (b9.mono (by omega))⟩
        case measure => simp [intOf]; omega
      · have HE := Lib.hid (show numsOf d.trouble = out by rw [← HO.out, List.take_of_length_le (by omega)])
        have HF := Lib.hid (show Lib.compact (sortI out) = onceL (numsOf d.trouble) by rw [← HE.out]; exact compact_sort _)
        have hz := PB.lt
        go_wp2_with fail
        refine (Sort_own (w.heap.size + 1) 3 out.length c' A' out _ hown (by omega)).mono ?_
        rintro e w3 ⟨rfl, o3, O3⟩
        have K3 : Below w.heap.size w w3 := hb.trans (O3.below (fun b hb => by have := (own_top hown hb).1; omega) (by omega))
        go_wp2_with fail
        refine (Compact_own (w.heap.size + 1) 3 out.length c' A' (sortI out) _ o3 (by omega)).mono ?_
        rintro e w4 ⟨rfl, o4, O4⟩
        have K4 : Below w.heap.size w w4 := K3.trans (O4.below (fun b hb => by have := (own_top o3 hb).1; omega) (by have := O3.size; omega))
        have o5 := own_low o4 (show w.heap.size ≤ w.heap.size + 1 by omega)
        rw [HF.out] at o5 ⊢
        clear o3 o4
        go_wp2_with fail
        go_ret2
        rw [HR.out]
        exact ⟨A', c', rfl, o5, K4⟩

set_option maxRecDepth 100000 in
set_option maxHeartbeats 2000000 in
theorem specTroubleNumbers_any (h : DeskH) (d : DeskV) (w : World) (hs : SeesDesk w 0 h d) (hn : DeskFit 1048576 h d) (hcap : h.n3 ≤ h.c3) :
    Calls Try.prog 26 #[.agg #[.slice h.A0 h.n0 h.c0, .slice h.A1 h.n1 h.c1, .slice h.A2 h.n2 h.c2, .slice h.A3 h.n3 h.c3, .slice h.A4 h.n4 h.c4]] w (GivesInts w (troubleM d)) := by
  have K0 : Below w.heap.size w ((w.alloc (.cells #[.slice h.A0 h.n0 h.c0, .slice h.A1 h.n1 h.c1, .slice h.A2 h.n2 h.c2, .slice h.A3 h.n3 h.c3, .slice h.A4 h.n4 h.c4] 32)).alloc (.cells #[] 3)) := ((Below.refl _ _).alloc (Nat.le_refl _) _).alloc (by simp) _
  have P0 : Blk ((w.alloc (.cells #[.slice h.A0 h.n0 h.c0, .slice h.A1 h.n1 h.c1, .slice h.A2 h.n2 h.c2, .slice h.A3 h.n3 h.c3, .slice h.A4 h.n4 h.c4] 32)).alloc (.cells #[] 3)) w.heap.size 32 [.slice h.A0 h.n0 h.c0, .slice h.A1 h.n1 h.c1, .slice h.A2 h.n2 h.c2, .slice h.A3 h.n3 h.c3, .slice h.A4 h.n4 h.c4] := (Blk.at_ rfl).alloc _
  have o0 := own_empty_at (w := (w.alloc (.cells #[.slice h.A0 h.n0 h.c0, .slice h.A1 h.n1 h.c1, .slice h.A2 h.n2 h.c2, .slice h.A3 h.n3 h.c3, .slice h.A4 h.n4 h.c4] 32))) (g := w.heap.size + 1) 3 1 (by simp)
  have HL4 := Lib.hid hs.f4.count
  have hl4b : h.n4 ≤ d.trouble.length := by rw [HL4.out]; exact Nat.le_refl _
  have hl4a : d.trouble.length ≤ h.n4 := by rw [HL4.out]; exact Nat.le_refl _
  go_enter Try.func26, Try.ntmps26
  go_wp2_with fail
  refine (l25Good_any h d _ (hs.next K0) hn hcap).mono ?_
  cases g : deskB d
  · rintro e w1 ⟨rfl, b1⟩
    have o1 := own_low (own_below o0 b1) (show w.heap.size ≤ w.heap.size + 1 by omega)
    clear o0
    go_wp2_with fail
    go_ret2
    rw [show troubleM d = none by simp [troubleM, g]]
    exact ⟨_, 0, rfl, o1, bel_then K0 b1⟩
  · rintro e w1 ⟨rfl, b1⟩
    have HR := Lib.hid (show troubleM d = some (onceL (numsOf d.trouble)) by simp [troubleM, g])
    have ht := (deskB_top g).2
    have h10 : h.n4 ≤ 10 := by omega
    have K1 := bel_then K0 b1
    have P1 := P0.next b1
    have o1 := own_below o0 b1
    clear g o0 P0 K0 b1 ht
    go_wp2_with fail
    go_loopw [4, 5] (fun v i wr => ∃ (k : Nat) (out : List Int) (g : Nat) (c' : Nat), k ≤ h.n4 ∧ i = .int .i64 k ∧ v = .slice (some ⟨g, 0, none⟩) out.length c' ∧ wr.ownsRow (w.heap.size + 1) 3 1 (.slice (some ⟨g, 0, none⟩) out.length c') out.length (ints out) ∧ out.length ≤ k ∧ out.length ≤ c' ∧ Hid (onceL (numsOf (d.trouble.take k)) = out) ∧ Blk wr w.heap.size 32 [.slice h.A0 h.n0 h.c0, .slice h.A1 h.n1 h.c1, .slice h.A2 h.n2 h.c2, .slice h.A3 h.n3 h.c3, .slice h.A4 h.n4 h.c4] ∧ Below w.heap.size w wr) (fun _ i _ => h.n4 - (intOf i).toNat)
    case atStart => exact ⟨0, [], _, 0, Nat.zero_le _, rfl, rfl, o1, Nat.le_refl _, Nat.le_refl _, Lib.hid rfl, P1, K1⟩
    case round =>
      obtain ⟨k, out, gb, c', hk, rfl, rfl, hown, hlo, hlc, HO, PB, hb⟩ := hrel
      have cm := PB.cell
      by_cases hlt : k < h.n4
      · obtain ⟨bk, offk, B0, mc, cc0, hA4, hkx, x0, x1, x2, x3, -⟩ := SeesCard.elem (hs.f4.next hb) hlt
        have hN : onceL (numsOf (d.trouble.take (k + 1))) = onceI out d.trouble[k].number := by
          have hq := onceL_next (numsOf d.trouble) (k := k) (by simpa [numsOf] using hkx)
          simp only [numsOf, ← List.map_take, List.getElem_map] at hq ⊢
          rw [hq, show onceL ((d.trouble.take k).map Card.number) = out from HO.out]
        have hblt := World.block_lt_of_cell? wr _ x0
        have hnp : (k : Int) < (h.n4 : Int) := by omega
        have zz := PB.lt
        rw [hA4] at cm
        clear hA4
        go_wp2_with fail
        refine (l1Has_any (some ⟨gb, 0, none⟩) out.length c' out d.trouble[k].number _ ((Sees.of_own hown).less (Nat.zero_le _)) (by omega)).mono ?_
        cases g : hasI out d.trouble[k].number
        · rintro e w3 ⟨rfl, q3⟩
          have b3 := q3.below wr.heap.size
          have HN := Lib.hid (show onceL (numsOf (d.trouble.take (k + 1))) = putI out d.trouble[k].number by rw [hN, onceI, g]; rfl)
          have hno : d.trouble[k].number ∉ out := fun hh => by rw [hasI_iff.2 hh] at g; cases g
          have hpl := putI_len (n := d.trouble[k].number) (l := out)
          have hpp : 0 < (putI out d.trouble[k].number).length := List.length_pos_of_mem (putI_mem.2 (.inr rfl))
          have K3 := bel_then hb b3
          have P3 := PB.next b3
          have ow := own_below hown b3
          have z3 := b3.size
          clear hN g b3
          go_wp2_with fail
          refine (l1Put_any gb 0 out.length c' (w.heap.size + 1) out d.trouble[k].number _ (Sees.of_own ow) (by omega) hlc hno).mono ?_
          generalize putI out d.trouble[k].number = out2 at *
          rintro e w4 ⟨A4, c4, rfl, o4, b4⟩
          rcases own_open o4 with ⟨_, hz, _, _⟩ | ⟨g4, cur4, rfl, _, _, _, hnc4, _, _⟩
          · omega
          have K4 := bel_then K3 b4
          have P4 := P3.next b4
          have o5 := own_low o4 (show w.heap.size + 1 ≤ w3.heap.size by omega)
          clear o4
          go_wp2_with fail
          go_roundw
          case rel => exact ⟨k + 1, out2, g4, c4, by omega, by go_num, rfl, o5, by omega, hnc4, HN, P4, K4⟩
          case measure => simp [intOf]; omega
        · rintro e w3 ⟨rfl, q3⟩
          have b3 := q3.below wr.heap.size
          have HN := Lib.hid (show onceL (numsOf (d.trouble.take (k + 1))) = out by rw [hN, onceI, g]; rfl)
          clear hN g
          go_wp2_with fail
          go_roundw
          case rel => exact ⟨k + 1, out, gb, c', by omega, by go_num, rfl, own_below hown b3, by omega, hlc, HN, PB.next b3, bel_then hb b3⟩
          case measure => simp [intOf]; omega
      · have HE := Lib.hid (show troubleM d = some out by rw [HR.out, ← HO.out, List.take_of_length_le (by omega)])
        go_wp2_with fail
        go_ret2
        rw [HE.out]
        exact ⟨_, c', rfl, own_low hown (by omega), hb⟩

end Go.Proofs.Ytkeffhnkhmalpaa
