/- The draw of FoundChance. -/
import Derived.Test.YtjcmlloglnkbfaaCurD
namespace Go.Proofs.Ytjcmlloglnkbfaa
open Go.RowKit

def GivesDF (w : World) (e : Ending) (w' : World) : Prop := ∃ (A : Option Addr) (m c : Nat) (xs : List Sector) (A2 : Option Addr) (m2 d2 : Nat) (cs : List Int), e = .returned (.tuple #[.slice A m c, .slice A2 m2 d2]) ∧ SecAt w' A m xs ∧ Sees w' 0 1 A2 m2 (ints cs) ∧ m2 ≤ 37 ∧ Below w.heap.size w w'
theorem ints_snoc (cs : List Int) (v : Int) : ints cs ++ [.int .i64 v] = ints (cs ++ [v]) := by simp [ints]

set_option maxRecDepth 100000 in
set_option maxHeartbeats 4000000 in
theorem DrawFoundChance_any (A : Option Addr) (m c : Nat) (w : World) (h : CodeIn w A m) (hm : m ≤ 1000000) : Calls Try.prog 57 #[.slice A m c] w (GivesDF w) := by
  have U : Below w.heap.size w (w.alloc (.cells #[.slice A m c, .int .i64 0, .int .u64 0] 110)) := (Below.refl _ _).alloc (Nat.le_refl _) _
  have CC := cur_new h hm U (Nat.le_refl _) (Blk.at_ rfl)
  go_enter Try.func57, Try.ntmps57
  go_wp2_with fail
  refine (sectors_any w.heap.size 0 _ CC (by decide)).mono ?_
  rintro e w1 ⟨B, l, d, xs, rfl, hl, ow, hl36, hu, c1, o1⟩
  have K1 := U.trans (o1.below (fun b (hb : b = _) => by omega) (by simp))
  have S1 := (Sees.of_own ow).less (Nat.zero_le _)
  have hz1 : w.heap.size < w1.heap.size := c1.lt
  have hown : ∀ b, OwnB B b → w.heap.size < b := fun b hb => by have := (own_top ow hb).1; simp at this; omega
  have HX := Lib.hid hl
  have U2 : Below w1.heap.size w1 (w1.alloc (.cells #[] 3)) := (Below.refl _ _).alloc (Nat.le_refl _) _
  have E0 := own_empty w1 3 1
  have C2 := c1.next U2
  have P2 := Only.of_below (S := fun b => b = w.heap.size) U2
  clear U CC o1 ow hl U2 c1
  go_wp2_with fail
  go_loopw [6, 7] (fun v i wr => ∃ (k t : Nat) (A' : Option Addr) (c' : Nat) (cs : List Int), i = .int .i64 (k : Int) ∧ k ≤ 36 ∧ v = .slice A' t c' ∧ wr.ownsRow w1.heap.size 3 1 (.slice A' t c') t (ints cs) ∧ t ≤ k ∧ Cur wr w.heap.size (1000 + 2 * k) ∧ Only (fun b => b = w.heap.size) w1 wr) (fun _ i _ => 36 - (intOf i).toNat)
  case atStart => exact ⟨0, 0, _, _, [], rfl, Nat.zero_le _, rfl, E0, Nat.le_refl _, C2.more (by omega), P2⟩
  case round =>
    obtain ⟨k, t, A', c', cs, rfl, hk, rfl, hown2, htk, hc, ho⟩ := hrel
    have hz := ho.size
    have hcl := hc.lt
    clear E0 C2 P2
    by_cases hlt : k < 36
    · go_wp2_with fail
      refine (one_any 4 w.heap.size _ wr hc (by omega) (by decide) (by decide)).mono ?_
      rintro e w2 ⟨yes, rfl, c2, o2⟩
      have N2 := own_only hown2 o2 (fun b hb (e : b = w.heap.size) => by have := (own_top hown2 hb).1; omega)
      have O2 := ho.trans o2
      have hz2 := o2.size
      clear o2 hown2 hc ho
      cases yes
      · go_wp2_with fail
        go_roundw
        case rel => exact ⟨k + 1, t, _, _, cs, by go_num, by omega, rfl, N2, by omega, c2.more (by omega), O2⟩
        case measure => simp [intOf]; omega
      · go_wp2_with (at_builtin; (first | (refine wpList_pushNew rfl _ _ _ rfl Try.underlying22 info_int rfl (by decide) rfl N2 rfl (by simp) (by rfl) (by rfl) (by omega) (by decide) (by omega) ?_) | (go_loud (refine wpList_pushNew rfl _ _ _ rfl Try.underlying22 info_int rfl (by decide) rfl N2 rfl (by simp) (by rfl) (by rfl) (by omega) (by decide) (by omega) ?_))); intro A3 d3 w4 p4 h4 b4 q4)
        have O4 := only_pushS O2 N2 (Nat.le_refl _) h4
        have K4 := c2.keep h4 (fun hb => by have := (own_top N2 hb).1; omega) (fun b hb => by have := (own_top N2 hb).1; omega)
        rw [ints_snoc] at p4
        go_roundw
        case rel => exact ⟨k + 1, t + 1, A3, d3, _, by go_num, by omega, rfl, p4, by omega, K4.more (by omega), O4⟩
        case measure => simp [intOf]; omega
    · obtain rfl : k = 36 := by omega
      go_wp2_with fail
      refine (one_any 20 w.heap.size _ wr hc (by omega) (by decide) (by decide)).mono ?_
      rintro e w2 ⟨yes, rfl, c2, o2⟩
      have N2 := own_only hown2 o2 (fun b hb (e : b = w.heap.size) => by have := (own_top hown2 hb).1; omega)
      have O2 := ho.trans o2
      have hz2 := o2.size
      have hcl2 := c2.lt
      clear o2 hown2 hc ho
      cases yes
      · go_wp2_with fail
        go_ret2
        exact ⟨B, l, d, xs, _, t, _, cs, rfl, ⟨HX.out, S1.only O2 (fun b off e _ (hb : b = _) => by have := hown b (by rw [e]; rfl); omega), hl36, hu⟩, (Sees.of_own N2).less (Nat.zero_le _), by omega, K1.trans (O2.below (fun b (hb : b = _) => by omega) (by omega))⟩
      · go_wp2_with fail
        refine (among_any w.heap.size _ w2.heap.size 3 _ [-1, 36, 0] _ (Blk.at_ rfl : Blk (w2.alloc (.cells #[.int .i64 (-1), .int .i64 36, .int .i64 0] 3)) w2.heap.size 3 (ints [-1, 36, 0])) (by omega) (c2.next ((Below.refl _ _).alloc (Nat.le_refl _) _)) (by omega) rfl (by decide) (by decide)).mono ?_
        rintro e w3 ⟨v, rfl, _, k3, o3⟩
        have UA : Below w2.heap.size w2 (w2.alloc (.cells #[.int .i64 (-1), .int .i64 36, .int .i64 0] 3)) := (Below.refl _ _).alloc (Nat.le_refl _) _
        have N3 := own_only (own_below N2 UA) o3 (fun b hb (e : b = w.heap.size) => by have := (own_top N2 hb).1; omega)
        have O3 := (O2.then_ UA).trans o3
        have hz3 := O3.size
        clear UA o3 N2 O2 c2
        go_wp2_with (at_builtin; (first | (refine wpList_pushNew rfl _ _ _ rfl Try.underlying22 info_int rfl (by decide) rfl N3 rfl (by simp) (by rfl) (by rfl) (by omega) (by decide) (by omega) ?_) | (go_loud (refine wpList_pushNew rfl _ _ _ rfl Try.underlying22 info_int rfl (by decide) rfl N3 rfl (by simp) (by rfl) (by rfl) (by omega) (by decide) (by omega) ?_))); intro A3 d3 w4 p4 h4 b4 q4)
        have O4 := only_pushS O3 N3 (Nat.le_refl _) h4
        rw [ints_snoc] at p4
        go_ret2
        exact ⟨B, l, d, xs, _, t + 1, _, _, rfl, ⟨HX.out, S1.only O4 (fun b off e _ (hb : b = _) => by have := hown b (by rw [e]; rfl); omega), hl36, hu⟩, (Sees.of_own p4).less (Nat.zero_le _), by omega, K1.trans (O4.below (fun b (hb : b = _) => by omega) (by omega))⟩
end Go.Proofs.Ytjcmlloglnkbfaa
