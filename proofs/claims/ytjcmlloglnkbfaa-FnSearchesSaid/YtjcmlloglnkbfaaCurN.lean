/- The draw of LongMissing. -/
import Derived.Test.YtjcmlloglnkbfaaCurS
import Derived.Test.YtjcmlloglnkbfaaCurB
namespace Go.Proofs.Ytjcmlloglnkbfaa
open Go.RowKit

def GivesDM (w : World) (e : Ending) (w' : World) : Prop := ∃ (A : Option Addr) (m c : Nat) (xs : List Missing) (t l : Int), e = .returned (.tuple #[.slice A m c, .int .i64 t, .int .i64 l]) ∧ Sees w' 0 4 A m (xs.flatMap Missing.enc) ∧ m ≤ 30 ∧ Below w.heap.size w w'
theorem snoc_encM (xs : List Missing) (x : Missing) : xs.flatMap Missing.enc ++ [.int .i64 x.runner, .int .i64 x.start, .int .i64 x.seen, .int .i64 x.place] = (xs ++ [x]).flatMap Missing.enc := by rw [List.flatMap_append]; rfl
def lenV : Value → Nat
  | .slice _ n _ => n
  | _ => 0

set_option maxRecDepth 100000 in
set_option maxHeartbeats 8000000 in
theorem DrawLongMissing_any (A : Option Addr) (m c : Nat) (w : World) (h : CodeIn w A m) (hm : m ≤ 1000000) : Calls Try.prog 58 #[.slice A m c] w (GivesDM w) := by
  have UA : Below w.heap.size w (w.alloc (.cells #[.slice A m c, .int .i64 0, .int .u64 0] 110)) := (Below.refl _ _).alloc (Nat.le_refl _) _
  have CC := cur_new h hm UA (Nat.le_refl _) (Blk.at_ rfl)
  go_enter Try.func58, Try.ntmps58
  go_wp2_with fail
  have hz0 : (w.alloc (.cells #[.slice A m c, .int .i64 0, .int .u64 0] 110)).heap.size = w.heap.size + 1 := by simp
  have hW : ∃ W, W = (w.alloc (.cells #[.slice A m c, .int .i64 0, .int .u64 0] 110)) := ⟨_, rfl⟩
  have UB : Below (w.heap.size + 1) (w.alloc (.cells #[.slice A m c, .int .i64 0, .int .u64 0] 110)) ((w.alloc (.cells #[.slice A m c, .int .i64 0, .int .u64 0] 110)).alloc (.cells #[.int .i64 5, .int .i64 5, .slice none 0 0, .slice none 0 0] 29)) := (Below.refl _ _).alloc (by simp) _
  have UC : Below (w.heap.size + 2) ((w.alloc (.cells #[.slice A m c, .int .i64 0, .int .u64 0] 110)).alloc (.cells #[.int .i64 5, .int .i64 5, .slice none 0 0, .slice none 0 0] 29)) (((w.alloc (.cells #[.slice A m c, .int .i64 0, .int .u64 0] 110)).alloc (.cells #[.int .i64 5, .int .i64 5, .slice none 0 0, .slice none 0 0] 29)).alloc (.cells #[] 31)) := (Below.refl _ _).alloc (by simp) _
  have BM : Blk ((w.alloc (.cells #[.slice A m c, .int .i64 0, .int .u64 0] 110)).alloc (.cells #[.int .i64 5, .int .i64 5, .slice none 0 0, .slice none 0 0] 29)) (w.heap.size + 1) 29 [.int .i64 5, .int .i64 5, .slice none 0 0, .slice none 0 0] := Blk.at_ (by simp)
  have E0 := own_empty ((w.alloc (.cells #[.slice A m c, .int .i64 0, .int .u64 0] 110)).alloc (.cells #[.int .i64 5, .int .i64 5, .slice none 0 0, .slice none 0 0] 29)) 31 4
  have hz1 : ((w.alloc (.cells #[.slice A m c, .int .i64 0, .int .u64 0] 110)).alloc (.cells #[.int .i64 5, .int .i64 5, .slice none 0 0, .slice none 0 0] 29)).heap.size = w.heap.size + 2 := by simp
  have hz2 : (((w.alloc (.cells #[.slice A m c, .int .i64 0, .int .u64 0] 110)).alloc (.cells #[.int .i64 5, .int .i64 5, .slice none 0 0, .slice none 0 0] 29)).alloc (.cells #[] 31)).heap.size = w.heap.size + 3 := by simp
  have C3 := (CC.next (UB.mono (by omega))).next (UC.mono (by omega))
  have B3 := BM.next (UC.mono (by omega))
  have P3 := Only.of_below (S := fun b => b = w.heap.size) ((UA.trans (UB.mono (by omega))).trans (UC.mono (by omega)))
  rw [hz1] at E0
  clear UA UB UC CC BM hW hz0 hz1
  refine (pick_any 6 w.heap.size 0 _ C3 (by decide) (by decide) (by decide)).mono ?_
  rintro e w1 ⟨r, rfl, hr, c1, o1⟩
  have hr5 : r ≤ 5 := hr
  have B1 := B3.only o1 (fun (e : _ = _) => by omega)
  have N1 := own_only E0 o1 (fun b hb (e : b = w.heap.size) => by have := (own_top E0 hb).1; omega)
  have P1 := P3.trans o1
  have hz3 := o1.size
  rw [hz2] at hz3
  clear C3 B3 E0 P3 o1 hr hz2
  go_wp2_with fail
  go_loopw [7, 8] (fun v i wr => ∃ (k t : Nat) (A : Option Addr) (c : Nat) (xs : List Missing), i = .int .i64 (k : Int) ∧ k ≤ 5 ∧ v = .slice A t c ∧ wr.ownsRow (w.heap.size + 2) 31 4 (.slice A t c) t (xs.flatMap Missing.enc) ∧ t + k ≤ 5 ∧ Blk wr (w.heap.size + 1) 29 [.int .i64 5, .int .i64 5, .slice none 0 0, .slice none 0 0] ∧ w.heap.size + 3 ≤ wr.heap.size ∧ Cur wr w.heap.size (10 + 40 * (5 - k)) ∧ Only (fun b => b = w.heap.size) w wr) (fun _ i _ => (intOf i).toNat)
  case atStart => exact ⟨r, 0, _, _, [], rfl, hr5, rfl, N1, by omega, B1, hz3, c1.more (by omega), P1⟩
  case round =>
    obtain ⟨k, t, A, c, xs, rfl, hk, rfl, hown, htk, hB, hz, hc, ho⟩ := hrel
    clear c1 P1 N1 B1 hz3 h
    have hcl := hc.lt
    by_cases hpos : 0 < k
    · obtain ⟨j, rfl⟩ : ∃ j, k = j + 1 := ⟨k - 1, by omega⟩
      have hC := hB.cell
      go_wp2_with fail
      refine (missing_any w.heap.size _ ⟨5, 5, [], []⟩ none none 0 0 0 0 wr hc (by omega) (by decide)).mono ?_
      rintro e w2 ⟨x, rfl, -, c2, o2⟩
      have N2 := own_only hown o2 (fun b hb (e : b = w.heap.size) => by have := (own_top hown hb).1; omega)
      have O2 := ho.trans o2
      have B2 := hB.only o2 (fun (e : _ = _) => by omega)
      have hz2 := o2.size
      clear hC o2 hown hc ho hB
      go_wp2_with (at_builtin; (first | (refine wpList_pushNew rfl _ _ _ rfl Try.underlying48 info_impl_Missing rfl (by decide) rfl N2 rfl (by simp) (by rfl) (by rfl) (by omega) (by decide) (by omega) ?_) | (go_loud (refine wpList_pushNew rfl _ _ _ rfl Try.underlying48 info_impl_Missing rfl (by decide) rfl N2 rfl (by simp) (by rfl) (by rfl) (by omega) (by decide) (by omega) ?_))); intro A3 d3 w4 p4 h4 b4 q4)
      have O4 := only_pushS O2 N2 (by omega) h4
      have K4 := c2.keep h4 (fun hb => by have := (own_top N2 hb).1; omega) (fun b hb => by have := (own_top N2 hb).1; omega)
      have B4 := B2.only h4 (fun hb => by have := (own_top N2 hb).1; omega)
      have hz4 := h4.size
      rw [snoc_encM] at p4
      go_roundw
      case rel => exact ⟨j, t + 1, _, _, _, by go_num, by omega, rfl, p4, by omega, B4, by omega, K4.more (by omega), O4⟩
      case measure => simp [intOf]
    · obtain rfl : k = 0 := by omega
      clear hB
      go_wp2_with fail
      refine (one_any 24 w.heap.size _ wr hc (by omega) (by decide) (by decide)).mono ?_
      rintro e wz ⟨yes, rfl, cz, o2⟩
      have N2 := own_only hown o2 (fun b hb (e : b = w.heap.size) => by have := (own_top hown hb).1; omega)
      have O2 := ho.trans o2
      have hz2 := o2.size
      clear o2 hown hc ho
      cases yes
      · go_wp2_with fail
        have SX := (Sees.of_own N2).less (Nat.zero_le _)
        have SH : ∀ b, OwnB A b → w.heap.size + 1 < b := fun b hb => by have := (own_top N2 hb).1; omega
        have KX : Below w.heap.size w wz := O2.below (fun b (hb : b = _) => by omega) (Nat.le_refl _)
        clear N2 O2
        have R0 : Only (fun b => b = w.heap.size) wz wz := Only.refl _ _
        have U3 : Below wz.heap.size wz (wz.alloc (.cells #[.int .i64 8000, .int .i64 9000, .int .i64 36000, .int .i64 3600, .int .i64 (-1), .int .i64 36001] 3)) := (Below.refl _ _).alloc (Nat.le_refl _) _
        have B3 : Blk (wz.alloc (.cells #[.int .i64 8000, .int .i64 9000, .int .i64 36000, .int .i64 3600, .int .i64 (-1), .int .i64 36001] 3)) wz.heap.size 3 (ints [8000, 9000, 36000, 3600, -1, 36001]) := Blk.at_ rfl
        have hlt1 := cz.lt
        go_wp2_with fail
        refine (pick_any 24 w.heap.size _ _ (cz.next U3) (by omega) (by decide) (by decide)).mono ?_
        rintro e x1 ⟨r, rfl, hr, k1, o3⟩
        have hr23 : r ≤ 23 := hr
        have B4 := B3.only o3 (fun (e : _ = _) => by omega)
        have P1 := (R0.then_ U3).trans o3
        obtain ⟨q, hq, hq7⟩ : ∃ q : Nat, (4 + (r : Int) / 11) = (q : Int) ∧ 4 ≤ q ∧ q ≤ 6 := ⟨4 + r / 11, by omega, by omega, by omega⟩
        have hq4 := hq7.1
        have hq5 := hq7.2
        clear hr U3 B3 o3 hq7
        go_wp2_with fail
        refine (among_cut w.heap.size _ wz.heap.size q 6 _ [8000, 9000, 36000, 3600, -1, 36001] _ B4 (by omega) k1 (by omega) (by simpa using hq5) (by omega) (by omega)).mono ?_
        rintro e y1 ⟨tm, rfl, -, l1, o4⟩
        have Q1 := P1.trans o4
        clear P1 o4 B4 hq hq4 hq5 hr23
        have U3 : Below y1.heap.size y1 (y1.alloc (.cells #[.int .i64 600, .int .i64 3600, .int .i64 7999, .int .i64 8000, .int .i64 36000, .int .i64 599, .int .i64 36001] 3)) := (Below.refl _ _).alloc (Nat.le_refl _) _
        have B3 : Blk (y1.alloc (.cells #[.int .i64 600, .int .i64 3600, .int .i64 7999, .int .i64 8000, .int .i64 36000, .int .i64 599, .int .i64 36001] 3)) y1.heap.size 3 (ints [600, 3600, 7999, 8000, 36000, 599, 36001]) := Blk.at_ rfl
        have hlt2 := l1.lt
        go_wp2_with fail
        refine (pick_any 24 w.heap.size _ _ (l1.next U3) (by omega) (by decide) (by decide)).mono ?_
        rintro e x2 ⟨r, rfl, hr, k2, o3⟩
        have hr23 : r ≤ 23 := hr
        have B4 := B3.only o3 (fun (e : _ = _) => by omega)
        have P2 := (Q1.then_ U3).trans o3
        obtain ⟨q, hq, hq7⟩ : ∃ q : Nat, (5 + (r : Int) / 11) = (q : Int) ∧ 5 ≤ q ∧ q ≤ 7 := ⟨5 + r / 11, by omega, by omega, by omega⟩
        have hq4 := hq7.1
        have hq5 := hq7.2
        clear hr U3 B3 o3 hq7
        go_wp2_with fail
        refine (among_cut w.heap.size _ y1.heap.size q 7 _ [600, 3600, 7999, 8000, 36000, 599, 36001] _ B4 (by omega) k2 (by omega) (by simpa using hq5) (by omega) (by omega)).mono ?_
        rintro e y2 ⟨lm, rfl, -, l2, o4⟩
        have Q2 := P2.trans o4
        clear P2 o4 B4 hq hq4 hq5 hr23
        go_wp2_with fail
        go_ret3
        exact ⟨_, t, _, xs, tm, lm, rfl, SX.only Q2 (fun b off e _ (hb : b = _) => by have := SH b (by rw [e]; rfl); omega), by omega, KX.trans (Q2.below (fun b (hb : b = _) => by omega) (by omega))⟩
      · go_wp2_with fail
        go_loopw [7] (fun v wr => ∃ (t : Nat) (A : Option Addr) (c : Nat) (xs : List Missing), v = .slice A t c ∧ wr.ownsRow (w.heap.size + 2) 31 4 (.slice A t c) t (xs.flatMap Missing.enc) ∧ t ≤ 21 ∧ w.heap.size + 3 ≤ wr.heap.size ∧ Cur wr w.heap.size (300 + 4 * t) ∧ Only (fun b => b = w.heap.size) w wr) (fun v _ => 30 - lenV v)
        case atStart => exact ⟨t, A, c, xs, rfl, N2, by omega, by omega, cz.more (by omega), O2⟩
        case round =>
          clear N2 O2 cz
          obtain ⟨t, A, c, xs, rfl, hown, ht, hz, hc, ho⟩ := hrel
          have hcl := hc.lt
          go_wp2_with fail
          refine (pick_any 2 w.heap.size _ _ hc (by omega) (by decide) (by decide)).mono ?_
          rintro e wz ⟨r, rfl, hr, cz, o2⟩
          have hr1 : r ≤ 1 := hr
          have N2 := own_only hown o2 (fun b hb (e : b = w.heap.size) => by have := (own_top hown hb).1; omega)
          have O2 := ho.trans o2
          have hz2 := o2.size
          clear o2 hown hc ho hr
          by_cases hlt : (t : Int) < 20 + (r : Int)
          · have ht21 : t ≤ 20 := by omega
            have hcl2 := cz.lt
            go_wp2_with (at_builtin; (first | (refine wpList_pushNew rfl _ _ _ rfl Try.underlying48 info_impl_Missing rfl (by decide) rfl N2 rfl (by simp) (by rfl) (by rfl) (by omega) (by decide) (by omega) ?_) | (go_loud (refine wpList_pushNew rfl _ _ _ rfl Try.underlying48 info_impl_Missing rfl (by decide) rfl N2 rfl (by simp) (by rfl) (by rfl) (by omega) (by decide) (by omega) ?_))); intro A3 d3 w4 p4 h4 b4 q4)
            have O4 := only_pushS O2 N2 (by omega) h4
            have K4 := cz.keep h4 (fun hb => by have := (own_top N2 hb).1; omega) (fun b hb => by have := (own_top N2 hb).1; omega)
            have hz4 := h4.size
            have p5 : w4.ownsRow (w.heap.size + 2) 31 4 (.slice A3 (t + 1) d3) (t + 1) ((xs ++ [(⟨5, 0, 0, 0⟩ : Missing)]).flatMap Missing.enc) := by rw [← snoc_encM]; exact p4
            go_roundw
            case rel => exact ⟨t + 1, _, _, _, rfl, p5, by omega, by omega, K4.more (by omega), O4⟩
            case measure => simp [lenV]; omega
          · go_wp2_with fail
            have SX := (Sees.of_own N2).less (Nat.zero_le _)
            have SH : ∀ b, OwnB A b → w.heap.size + 1 < b := fun b hb => by have := (own_top N2 hb).1; omega
            have KX : Below w.heap.size w wz := O2.below (fun b (hb : b = _) => by omega) (Nat.le_refl _)
            clear N2 O2
            have R0 : Only (fun b => b = w.heap.size) wz wz := Only.refl _ _
            have U3 : Below wz.heap.size wz (wz.alloc (.cells #[.int .i64 8000, .int .i64 9000, .int .i64 36000, .int .i64 3600, .int .i64 (-1), .int .i64 36001] 3)) := (Below.refl _ _).alloc (Nat.le_refl _) _
            have B3 : Blk (wz.alloc (.cells #[.int .i64 8000, .int .i64 9000, .int .i64 36000, .int .i64 3600, .int .i64 (-1), .int .i64 36001] 3)) wz.heap.size 3 (ints [8000, 9000, 36000, 3600, -1, 36001]) := Blk.at_ rfl
            have hlt1 := cz.lt
            go_wp2_with fail
            refine (pick_any 24 w.heap.size _ _ (cz.next U3) (by omega) (by decide) (by decide)).mono ?_
            rintro e x1 ⟨r, rfl, hr, k1, o3⟩
            have hr23 : r ≤ 23 := hr
            have B4 := B3.only o3 (fun (e : _ = _) => by omega)
            have P1 := (R0.then_ U3).trans o3
            obtain ⟨q, hq, hq7⟩ : ∃ q : Nat, (4 + (r : Int) / 11) = (q : Int) ∧ 4 ≤ q ∧ q ≤ 6 := ⟨4 + r / 11, by omega, by omega, by omega⟩
            have hq4 := hq7.1
            have hq5 := hq7.2
            clear hr U3 B3 o3 hq7
            go_wp2_with fail
            refine (among_cut w.heap.size _ wz.heap.size q 6 _ [8000, 9000, 36000, 3600, -1, 36001] _ B4 (by omega) k1 (by omega) (by simpa using hq5) (by omega) (by omega)).mono ?_
            rintro e y1 ⟨tm, rfl, -, l1, o4⟩
            have Q1 := P1.trans o4
            clear P1 o4 B4 hq hq4 hq5 hr23
            have U3 : Below y1.heap.size y1 (y1.alloc (.cells #[.int .i64 600, .int .i64 3600, .int .i64 7999, .int .i64 8000, .int .i64 36000, .int .i64 599, .int .i64 36001] 3)) := (Below.refl _ _).alloc (Nat.le_refl _) _
            have B3 : Blk (y1.alloc (.cells #[.int .i64 600, .int .i64 3600, .int .i64 7999, .int .i64 8000, .int .i64 36000, .int .i64 599, .int .i64 36001] 3)) y1.heap.size 3 (ints [600, 3600, 7999, 8000, 36000, 599, 36001]) := Blk.at_ rfl
            have hlt2 := l1.lt
            go_wp2_with fail
            refine (pick_any 24 w.heap.size _ _ (l1.next U3) (by omega) (by decide) (by decide)).mono ?_
            rintro e x2 ⟨r, rfl, hr, k2, o3⟩
            have hr23 : r ≤ 23 := hr
            have B4 := B3.only o3 (fun (e : _ = _) => by omega)
            have P2 := (Q1.then_ U3).trans o3
            obtain ⟨q, hq, hq7⟩ : ∃ q : Nat, (5 + (r : Int) / 11) = (q : Int) ∧ 5 ≤ q ∧ q ≤ 7 := ⟨5 + r / 11, by omega, by omega, by omega⟩
            have hq4 := hq7.1
            have hq5 := hq7.2
            clear hr U3 B3 o3 hq7
            go_wp2_with fail
            refine (among_cut w.heap.size _ y1.heap.size q 7 _ [600, 3600, 7999, 8000, 36000, 599, 36001] _ B4 (by omega) k2 (by omega) (by simpa using hq5) (by omega) (by omega)).mono ?_
            rintro e y2 ⟨lm, rfl, -, l2, o4⟩
            have Q2 := P2.trans o4
            clear P2 o4 B4 hq hq4 hq5 hr23
            go_wp2_with fail
            go_ret3
            exact ⟨_, t, _, xs, tm, lm, rfl, SX.only Q2 (fun b off e _ (hb : b = _) => by have := SH b (by rw [e]; rfl); omega), by omega, KX.trans (Q2.below (fun b (hb : b = _) => by omega) (by omega))⟩
end Go.Proofs.Ytjcmlloglnkbfaa
