/- The draw of sectors. -/
import Derived.Test.YtjcmlloglnkbfaaCurM
import Derived.Test.YtjcmlloglnkbfaaBest
namespace Go.Proofs.Ytjcmlloglnkbfaa
open Go.RowKit

def SecOk (x : Sector) : Prop := 0 ≤ x.chance ∧ x.chance ≤ 101
/-- Sectors, drawn: in memory of the call's own. -/
def DrawnSe (w : World) (g n : Nat) (e : Ending) (w' : World) : Prop := ∃ (A : Option Addr) (m c : Nat) (xs : List Sector), e = .returned (.slice A m c) ∧ xs.length = m ∧ w'.ownsRow w.heap.size 77 2 (.slice A m c) m (xs.flatMap Sector.enc) ∧ m ≤ 36 ∧ (∀ x ∈ xs, SecOk x) ∧ Cur w' g n ∧ Only (fun b => b = g) w w'
theorem secok_nil : ∀ x ∈ ([] : List Sector), SecOk x := fun x hx => absurd hx (by simp)
theorem secok_snoc {xs : List Sector} {a b : Int} (h : ∀ y ∈ xs, SecOk y) (h0 : 0 ≤ b) (h1 : b ≤ 101) : ∀ y ∈ xs ++ [(⟨a, b⟩ : Sector)], SecOk y := fun y hy => by
  rcases List.mem_append.1 hy with hy | hy
  · exact h y hy
  · rw [List.mem_singleton.1 hy]; exact ⟨h0, h1⟩
theorem snoc_encS (xs : List Sector) (a b : Int) : (xs ++ [(⟨a, b⟩ : Sector)]).flatMap Sector.enc = xs.flatMap Sector.enc ++ [.int .i64 a, .int .i64 b] := by rw [List.flatMap_append]; rfl
theorem only_pushS {w wr w4 : World} {g base : Nat} {A : Option Addr} {n c t s : Nat} {cs : List Value} (ho : Only (fun b => b = g) w wr) (own : wr.ownsRow base t s (.slice A n c) n cs) (hb : w.heap.size ≤ base) (h4 : Only (OwnB A) wr w4) : Only (fun b => b = g) w w4 :=
  ⟨h4.os.trans ho.os, h4.tape.trans ho.tape, h4.output.trans ho.output, Nat.le_trans ho.size h4.size, fun i hi hS => (h4.block i (Nat.lt_of_lt_of_le hi ho.size) (fun (h : OwnB A i) => absurd (own_top own h).1 (by omega))).trans (ho.block i hi hS)⟩

set_option maxRecDepth 100000 in
set_option maxHeartbeats 4000000 in
theorem sectors_any (g n : Nat) (w : World) (h : Cur w g n) (hn : n ≤ 800000) :
    Calls Try.prog 99 #[.pointer (some ⟨g, 0, none⟩)] w (DrawnSe w g (n + 100)) := by
  have hg := h.lt
  have U0 : Below w.heap.size w (w.alloc (.cells #[] 77)) := (Below.refl _ _).alloc (Nat.le_refl _) _
  have O0 := own_empty w 77 2
  go_enter Try.func99, Try.ntmps99
  go_wp2_with fail
  refine (pick_any 4 g n _ (h.next U0) (by omega) (by decide) (by decide)).mono ?_
  rintro e w1 ⟨r, rfl, hr, c1, o1⟩
  have hr3 : r ≤ 3 := hr
  have P1 := (Only.of_below (S := fun b => b = g) U0).trans o1
  have Q1 := own_only O0 o1 (fun b hb (e : b = g) => by have := (own_top O0 hb).1; omega)
  clear U0 O0 o1 hr
  go_wp2_with fail
  refine (pick_any 8 g _ w1 c1 (by omega) (by decide) (by decide)).mono ?_
  rintro e w2 ⟨q, rfl, hq, c2, o2⟩
  have hq7 : q ≤ 7 := hq
  have P2 := P1.trans o2
  have Q2 := own_only Q1 o2 (fun b hb (e : b = g) => by have := (own_top Q1 hb).1; omega)
  clear P1 Q1 o2 hq c1
  go_wp2_with fail
  go_loopw [3, 4, 5] (fun v cv i wr => ∃ (k m : Nat) (A : Option Addr) (c : Nat) (xs : List Sector) (a : Nat), i = .int .i64 (k : Int) ∧ k ≤ 8 ∧ cv = .int .i64 (a : Int) ∧ a ≤ 3 + 3 * (8 - k) ∧ v = .slice A m c ∧ wr.ownsRow w.heap.size 77 2 (.slice A m c) m (xs.flatMap Sector.enc) ∧ m + k ≤ 8 ∧ Hid (xs.length = m) ∧ Hid (∀ x ∈ xs, SecOk x) ∧ Cur wr g (n + 4 + 4 * (8 - k)) ∧ Only (fun b => b = g) w wr) (fun _ _ i _ => (intOf i).toNat)
  case atStart => exact ⟨q + 1, 0, _, _, [], r, by go_num, by omega, rfl, by omega, rfl, Q2, by omega, Lib.hid rfl, Lib.hid secok_nil, c2.more (by omega), P2⟩
  case round =>
    obtain ⟨k, m, A, c, xs, a, rfl, hk, rfl, ha, rfl, hown, hlen, HL, HU, hc, ho⟩ := hrel
    have hz := ho.size
    have hcl := hc.lt
    clear c2 P2 Q2
    by_cases hpos : 0 < k
    · obtain ⟨j, rfl⟩ : ∃ j, k = j + 1 := ⟨k - 1, by omega⟩
      go_wp2_with fail
      refine (among_any g _ wr.heap.size 5 _ [1, 2, 2, 5, 100] _ (Blk.at_ rfl : Blk (wr.alloc (.cells #[.int .i64 1, .int .i64 2, .int .i64 2, .int .i64 5, .int .i64 100] 3)) wr.heap.size 3 (ints [1, 2, 2, 5, 100])) (by omega) (hc.next ((Below.refl _ _).alloc (Nat.le_refl _) _)) (by omega) rfl (by decide) (by decide)).mono ?_
      rintro e w2 ⟨v, rfl, hv, k2, o2⟩
      have hv1 : 0 ≤ v ∧ v ≤ 101 := by simp only [List.mem_cons, List.not_mem_nil, or_false] at hv; omega
      have UA : Below wr.heap.size wr (wr.alloc (.cells #[.int .i64 1, .int .i64 2, .int .i64 2, .int .i64 5, .int .i64 100] 3)) := (Below.refl _ _).alloc (Nat.le_refl _) _
      have N1 := own_only (own_below hown UA) o2 (fun b hb (e : b = g) => by have := (own_top hown hb).1; omega)
      have O1 := (ho.then_ UA).trans o2
      have hz1 := O1.size
      clear UA o2 hv hown hc ho
      go_wp2_with (at_builtin; (first | (refine wpList_pushNew rfl _ _ _ rfl Try.underlying37 info_impl_Sector rfl (by decide) rfl N1 rfl (by simp) (by rfl) (by rfl) (by omega) (by decide) (by omega) ?_) | (go_loud (refine wpList_pushNew rfl _ _ _ rfl Try.underlying37 info_impl_Sector rfl (by decide) rfl N1 rfl (by simp) (by rfl) (by rfl) (by omega) (by decide) (by omega) ?_))); intro A2 d2 w4 p4 h4 b4 q4)
      have O4 := only_pushS O1 N1 (Nat.le_refl _) h4
      have K4 := k2.keep h4 (fun hb => by have := (own_top N1 hb).1; omega) (fun b hb => by have := (own_top N1 hb).1; omega)
      rw [← snoc_encS] at p4
      have HX := Lib.hid (secok_snoc (a := (a : Int)) HU.out hv1.1 hv1.2)
      have HL2 := Lib.hid (show (xs ++ [(⟨(a : Int), v⟩ : Sector)]).length = m + 1 by rw [List.length_append, HL.out]; rfl)
      clear N1 h4 q4 b4 k2 O1 hv1
      generalize xs ++ [(⟨(a : Int), v⟩ : Sector)] = ys at *
      have hz4 := O4.size
      go_wp2_with fail
      refine (pick_any 3 g _ w4 K4 (by omega) (by decide) (by decide)).mono ?_
      rintro e w5 ⟨r2, rfl, hr2, c5, o5⟩
      have hr22 : r2 ≤ 2 := hr2
      have N5 := own_only p4 o5 (fun b hb (e : b = g) => by have := (own_top p4 hb).1; omega)
      have O5 := O4.trans o5
      clear hr2 K4 p4 o5 O4
      go_wp2_with fail
      go_roundw
      case rel => exact ⟨j, m + 1, A2, d2, ys, a + 1 + r2, by go_num, by omega, by go_num, by omega, rfl, N5, by omega, HL2, HX, c5.more (by omega), O5⟩
      case measure => simp [intOf]
    · obtain rfl : k = 0 := by omega
      have hm8 : m ≤ 8 := by omega
      go_wp2_with fail
      refine (pick_any 40 g _ wr hc (by omega) (by decide) (by decide)).mono ?_
      rintro e w2 ⟨r2, rfl, hr2, c2, o2⟩
      have hr39 : r2 ≤ 39 := hr2
      have N2 := own_only hown o2 (fun b hb (e : b = g) => by have := (own_top hown hb).1; omega)
      have O2 := ho.trans o2
      have hz2 := o2.size
      clear hr2 hc hown ho o2
      rcases (by omega : r2 = 0 ∨ r2 = 1 ∨ r2 = 2 ∨ 3 ≤ r2) with rfl | rfl | rfl | h3
      · have N3 := own_row N2
        rcases N3 with ⟨rfl, rfl, rfl, h4⟩ | ⟨g', rest, rfl, h2, h3, h4, h5, h6⟩
        · go_wp2_with fail
          go_ret
          exact ⟨_, 0, _, [], rfl, rfl, World.ownsRow_nil _ _ _ _, by omega, secok_nil, c2.more (by omega), O2⟩
        · go_wp2_with fail
          go_ret
          exact ⟨_, 0, _, [], rfl, rfl, own_row_mk (rest := xs.flatMap Sector.enc ++ rest) h2 h3 h4 (Nat.zero_le _) h6 rfl, by omega, secok_nil, c2.more (by omega), O2⟩
      · go_wp2_with fail
        refine (among_any g _ w2.heap.size 3 _ [0, 35, 36] _ (Blk.at_ rfl : Blk (w2.alloc (.cells #[.int .i64 0, .int .i64 35, .int .i64 36] 3)) w2.heap.size 3 (ints [0, 35, 36])) (by omega) (c2.next ((Below.refl _ _).alloc (Nat.le_refl _) _)) (by omega) rfl (by decide) (by decide)).mono ?_
        rintro e w3 ⟨u, rfl, hu, k3, o3⟩
        have UA : Below w2.heap.size w2 (w2.alloc (.cells #[.int .i64 0, .int .i64 35, .int .i64 36] 3)) := (Below.refl _ _).alloc (Nat.le_refl _) _
        have N3 := own_only (own_below N2 UA) o3 (fun b hb (e : b = g) => by have := (own_top N2 hb).1; omega)
        have O3 := (O2.then_ UA).trans o3
        have hz3 := O3.size
        have hcl3 := k3.lt
        clear UA o3 hu N2 O2 c2
        go_wp2_with fail
        refine (among_any g _ w3.heap.size 3 _ [0, 1, 101] _ (Blk.at_ rfl : Blk (w3.alloc (.cells #[.int .i64 0, .int .i64 1, .int .i64 101] 3)) w3.heap.size 3 (ints [0, 1, 101])) (by omega) (k3.next ((Below.refl _ _).alloc (Nat.le_refl _) _)) (by omega) rfl (by decide) (by decide)).mono ?_
        rintro e w5 ⟨v, rfl, hv, k5, o5⟩
        have hv1 : 0 ≤ v ∧ v ≤ 101 := by simp only [List.mem_cons, List.not_mem_nil, or_false] at hv; omega
        have UA : Below w3.heap.size w3 (w3.alloc (.cells #[.int .i64 0, .int .i64 1, .int .i64 101] 3)) := (Below.refl _ _).alloc (Nat.le_refl _) _
        have N5 := own_only (own_below N3 UA) o5 (fun b hb (e : b = g) => by have := (own_top N3 hb).1; omega)
        have O5 := (O3.then_ UA).trans o5
        have hz5 := O5.size
        clear UA o5 hv N3 O3 k3
        go_wp2_with (at_builtin; (first | (refine wpList_pushNew rfl _ _ _ rfl Try.underlying37 info_impl_Sector rfl (by decide) rfl N5 rfl (by simp) (by rfl) (by rfl) (by omega) (by decide) (by omega) ?_) | (go_loud (refine wpList_pushNew rfl _ _ _ rfl Try.underlying37 info_impl_Sector rfl (by decide) rfl N5 rfl (by simp) (by rfl) (by rfl) (by omega) (by decide) (by omega) ?_))); intro A2 d2 w4 p4 h4 b4 q4)
        have O4 := only_pushS O5 N5 (Nat.le_refl _) h4
        have K4 := k5.keep h4 (fun hb => by have := (own_top N5 hb).1; omega) (fun b hb => by have := (own_top N5 hb).1; omega)
        rw [← snoc_encS] at p4
        have HX := Lib.hid (secok_snoc (a := u) HU.out hv1.1 hv1.2)
        have HL2 := Lib.hid (show (xs ++ [(⟨u, v⟩ : Sector)]).length = m + 1 by rw [List.length_append, HL.out]; rfl)
        go_wp2_with fail
        go_ret
        exact ⟨_, m + 1, _, _, rfl, HL2.out, p4, by omega, HX.out, K4.more (by omega), O4⟩
      · have E0 := own_base (own_empty w2 77 2) (show w.heap.size ≤ w2.heap.size by omega)
        have UA : Below w2.heap.size w2 (w2.alloc (.cells #[] 77)) := (Below.refl _ _).alloc (Nat.le_refl _) _
        have C3 := c2.next UA
        have O3 := O2.then_ UA
        clear N2 HU c2 O2 UA HL
        go_wp2_with fail
        generalize w2.alloc (.cells #[] 77) = w3 at *
        go_loopw [3, 6] (fun v i wr => ∃ (k : Nat) (A : Option Addr) (c : Nat) (xs : List Sector), i = .int .i64 (k : Int) ∧ k ≤ 36 ∧ v = .slice A k c ∧ wr.ownsRow w.heap.size 77 2 (.slice A k c) k (xs.flatMap Sector.enc) ∧ Hid (xs.length = k) ∧ Hid (∀ x ∈ xs, SecOk x) ∧ Cur wr g (n + 100) ∧ Only (fun b => b = g) w wr) (fun _ i _ => 36 - (intOf i).toNat)
        case atStart => exact ⟨0, _, _, [], rfl, Nat.zero_le _, rfl, E0, Lib.hid rfl, Lib.hid secok_nil, C3.more (by omega), O3⟩
        case round =>
          obtain ⟨k, A, c, xs, rfl, hk, rfl, hown, HL, HU, hc, ho⟩ := hrel
          have hz := ho.size
          have hcl := hc.lt
          by_cases hlt : k < 36
          · clear C3 O3 E0
            go_wp2_with (at_builtin; (first | (refine wpList_pushNew rfl _ _ _ rfl Try.underlying37 info_impl_Sector rfl (by decide) rfl hown rfl (by simp) (by rfl) (by rfl) (by omega) (by decide) (by omega) ?_) | (go_loud (refine wpList_pushNew rfl _ _ _ rfl Try.underlying37 info_impl_Sector rfl (by decide) rfl hown rfl (by simp) (by rfl) (by rfl) (by omega) (by decide) (by omega) ?_))); intro A2 d2 w4 p4 h4 b4 q4)
            have O4 := only_pushS ho hown (Nat.le_refl _) h4
            have K4 := hc.keep h4 (fun hb => by have := (own_top hown hb).1; omega) (fun b hb => by have := (own_top hown hb).1; omega)
            rw [← snoc_encS] at p4
            have HX := Lib.hid (secok_snoc (a := (k : Int)) (b := 1 + (k : Int)) HU.out (by omega) (by omega))
            have HL2 := Lib.hid (show (xs ++ [(⟨(k : Int), 1 + (k : Int)⟩ : Sector)]).length = k + 1 by rw [List.length_append, HL.out]; rfl)
            go_roundw
            case rel => exact ⟨k + 1, _, _, _, by go_num, by omega, rfl, p4, HL2, HX, K4, O4⟩
            case measure => simp [intOf]; omega
          · obtain rfl : k = 36 := by omega
            go_wp2_with fail
            go_ret
            exact ⟨_, _, _, _, rfl, HL.out, hown, by omega, HU.out, hc, ho⟩
      · go_wp2_with fail
        go_ret
        exact ⟨_, _, _, _, rfl, HL.out, N2, by omega, HU.out, c2.more (by omega), O2⟩
end Go.Proofs.Ytjcmlloglnkbfaa
