/- The draws of BestSectors and of AfterSearch. -/
import Derived.Test.YtjcmlloglnkbfaaCurB
namespace Go.Proofs.Ytjcmlloglnkbfaa
open Go.RowKit

/-- Sectors that a draw has made, to be read. -/
structure SecAt (w : World) (A : Option Addr) (m : Nat) (xs : List Sector) : Prop where
  len : xs.length = m
  sees : Sees w 0 2 A m (xs.flatMap Sector.enc)
  small : m ≤ 36
  ok : ∀ x ∈ xs, SecOk x
theorem SecAt.next {w w' : World} {A : Option Addr} {m : Nat} {xs : List Sector} (h : SecAt w A m xs) (hb : Below w.heap.size w w') : SecAt w' A m xs := ⟨h.len, h.sees.next hb, h.small, h.ok⟩
def GivesDB (w : World) (e : Ending) (w' : World) : Prop := ∃ (A : Option Addr) (m c : Nat) (xs : List Sector) (s : Int), e = .returned (.tuple #[.slice A m c, .int .i64 s]) ∧ SecAt w' A m xs ∧ Below w.heap.size w w'
def GivesDA (w : World) (e : Ending) (w' : World) : Prop := ∃ (A : Option Addr) (m c : Nat) (xs : List Sector) (cell s : Int), e = .returned (.tuple #[.slice A m c, .int .i64 cell, .int .i64 s]) ∧ SecAt w' A m xs ∧ Below w.heap.size w w'

set_option maxHeartbeats 4000000 in
theorem DrawBestSectors_any (A : Option Addr) (m c : Nat) (w : World) (h : CodeIn w A m) (hm : m ≤ 1000000) : Calls Try.prog 55 #[.slice A m c] w (GivesDB w) := by
  have U : Below w.heap.size w (w.alloc (.cells #[.slice A m c, .int .i64 0, .int .u64 0] 110)) := (Below.refl _ _).alloc (Nat.le_refl _) _
  have CC := cur_new h hm U (Nat.le_refl _) (Blk.at_ rfl)
  go_enter Try.func55, Try.ntmps55
  go_wp2_with fail
  refine (sectors_any w.heap.size 0 _ CC (by decide)).mono ?_
  rintro e w1 ⟨B, l, d, xs, rfl, hl, ow, hl36, hu, c1, o1⟩
  have K1 := U.trans (o1.below (fun b (hb : b = _) => by omega) (by simp))
  have S1 := (Sees.of_own ow).less (Nat.zero_le _)
  have hz1 : w.heap.size < w1.heap.size := c1.lt
  have hown : ∀ b, OwnB B b → w.heap.size < b := fun b hb => by have := (own_top ow hb).1; simp at this; omega
  have R1 : Only (fun b => b = w.heap.size) w1 w1 := Only.refl _ _
  clear U CC o1 ow
  have U3 : Below w1.heap.size w1 (w1.alloc (.cells #[.int .i64 1, .int .i64 2, .int .i64 6, .int .i64 0, .int .i64 7] 3)) := (Below.refl _ _).alloc (Nat.le_refl _) _
  have B3 : Blk (w1.alloc (.cells #[.int .i64 1, .int .i64 2, .int .i64 6, .int .i64 0, .int .i64 7] 3)) w1.heap.size 3 (ints [1, 2, 6, 0, 7]) := Blk.at_ rfl
  have hltW := c1.lt
  go_wp2_with fail
  refine (pick_any 24 w.heap.size _ _ (c1.next U3) (by omega) (by decide) (by decide)).mono ?_
  rintro e v3 ⟨r, rfl, hr, k3, o3⟩
  have hr23 : r ≤ 23 := hr
  have B4 := B3.only o3 (fun (e : _ = _) => by omega)
  have P3 := (R1.then_ U3).trans o3
  obtain ⟨q, hq, hq7⟩ : ∃ q : Nat, (3 + (r : Int) / 11) = (q : Int) ∧ 3 ≤ q ∧ q ≤ 5 := ⟨3 + r / 11, by omega, by omega, by omega⟩
  have hq4 := hq7.1
  have hq5 := hq7.2
  clear hr U3 B3 o3 hq7
  go_wp2_with fail
  refine (among_cut w.heap.size _ w1.heap.size q 5 _ [1, 2, 6, 0, 7] _ B4 (by omega) k3 (by omega) (by simpa using hq5) (by omega) (by omega)).mono ?_
  rintro e v4 ⟨s, rfl, hs, k4, o4⟩
  have P4 := P3.trans o4
  have hs2 : 0 ≤ s := by simp only [List.mem_cons, List.not_mem_nil, or_false] at hs; omega
  clear hs
  go_wp2_with fail
  go_ret2
  exact ⟨B, l, d, xs, s, rfl, ⟨hl, S1.only P4 (fun b off e _ (hb : b = _) => by have := hown b (by rw [e]; rfl); omega), hl36, hu⟩, K1.trans (P4.below (fun b (hb : b = _) => by omega) (by omega))⟩


set_option maxHeartbeats 4000000 in
theorem DrawAfterSearch_any (A : Option Addr) (m c : Nat) (w : World) (h : CodeIn w A m) (hm : m ≤ 1000000) : Calls Try.prog 56 #[.slice A m c] w (GivesDA w) := by
  have U : Below w.heap.size w (w.alloc (.cells #[.slice A m c, .int .i64 0, .int .u64 0] 110)) := (Below.refl _ _).alloc (Nat.le_refl _) _
  have CC := cur_new h hm U (Nat.le_refl _) (Blk.at_ rfl)
  go_enter Try.func56, Try.ntmps56
  go_wp2_with fail
  refine (sectors_any w.heap.size 0 _ CC (by decide)).mono ?_
  rintro e w1 ⟨B, l, d, xs, rfl, hl, ow, hl36, hu, c1, o1⟩
  have K1 := U.trans (o1.below (fun b (hb : b = _) => by omega) (by simp))
  have S1 := (Sees.of_own ow).less (Nat.zero_le _)
  have hz1 : w.heap.size < w1.heap.size := c1.lt
  have hown : ∀ b, OwnB B b → w.heap.size < b := fun b hb => by have := (own_top ow hb).1; simp at this; omega
  clear U CC o1 ow
  go_wp2_with fail
  refine (pick_any 36 w.heap.size _ w1 c1 (by omega) (by decide) (by decide)).mono ?_
  rintro e w2 ⟨a, rfl, ha, c2, o2⟩
  have hz2 := o2.size
  have HX := Lib.hid hl
  clear ha c1 hl
  by_cases hl0 : 0 < l
  · have hl00 : (0 : Int) < (l : Int) := by omega
    go_wp2_with fail
    refine (one_any 6 w.heap.size _ w2 c2 (by omega) (by decide) (by decide)).mono ?_
    rintro e w3 ⟨yes, rfl, c3, o3⟩
    have R3 := o2.trans o3
    have hz3 := o3.size
    clear o2 o3 c2
    cases yes
    · go_wp2_with fail
      refine (pick_any l w.heap.size _ w3 c3 (by omega) (by omega) (by omega)).mono ?_
      rintro e w4 ⟨j, rfl, hj, c4, o4⟩
      have R4 := R3.trans o4
      have S4 := S1.only R4 (fun b off e _ (hb : b = _) => by have := hown b (by rw [e]; rfl); omega)
      have hjl : j < l := by omega
      have hz4 := o4.size
      clear o4 c3 R3 hj
      obtain ⟨b, off, rfl, hjx, x0, x1⟩ := S4.elem2 (fun _ => rfl) hjl
      go_wp2_with fail
      generalize xs[j].cell = u at *
      clear x0 x1
      have U3 : Below w4.heap.size w4 (w4.alloc (.cells #[.int .i64 0, .int .i64 1, .int .i64 50, .int .i64 99, .int .i64 100, .int .i64 (-1), .int .i64 101] 3)) := (Below.refl _ _).alloc (Nat.le_refl _) _
      have B3 : Blk (w4.alloc (.cells #[.int .i64 0, .int .i64 1, .int .i64 50, .int .i64 99, .int .i64 100, .int .i64 (-1), .int .i64 101] 3)) w4.heap.size 3 (ints [0, 1, 50, 99, 100, -1, 101]) := Blk.at_ rfl
      have hltW := c4.lt
      go_wp2_with fail
      refine (pick_any 24 w.heap.size _ _ (c4.next U3) (by omega) (by decide) (by decide)).mono ?_
      rintro e v3 ⟨r, rfl, hr, k3, o3⟩
      have hr23 : r ≤ 23 := hr
      have B4 := B3.only o3 (fun (e : _ = _) => by omega)
      have P3 := (R4.then_ U3).trans o3
      obtain ⟨q, hq, hq7⟩ : ∃ q : Nat, (5 + (r : Int) / 11) = (q : Int) ∧ 5 ≤ q ∧ q ≤ 7 := ⟨5 + r / 11, by omega, by omega, by omega⟩
      have hq4 := hq7.1
      have hq5 := hq7.2
      clear hr U3 B3 o3 hq7
      go_wp2_with fail
      refine (among_cut w.heap.size _ w4.heap.size q 7 _ [0, 1, 50, 99, 100, -1, 101] _ B4 (by omega) k3 (by omega) (by simpa using hq5) (by omega) (by omega)).mono ?_
      rintro e v4 ⟨s, rfl, hs, k4, o4⟩
      have P4 := P3.trans o4
      have hs2 : -1 ≤ s := by simp only [List.mem_cons, List.not_mem_nil, or_false] at hs; omega
      clear hs
      go_wp2_with fail
      go_ret3
      exact ⟨_, l, d, xs, u, s, rfl, ⟨HX.out, S1.only P4 (fun b off e _ (hb : b = _) => by have := hown b (by rw [e]; rfl); omega), hl36, hu⟩, K1.trans (P4.below (fun b (hb : b = _) => by omega) (by omega))⟩
    · go_wp2_with fail
      have U3 : Below w3.heap.size w3 (w3.alloc (.cells #[.int .i64 0, .int .i64 1, .int .i64 50, .int .i64 99, .int .i64 100, .int .i64 (-1), .int .i64 101] 3)) := (Below.refl _ _).alloc (Nat.le_refl _) _
      have B3 : Blk (w3.alloc (.cells #[.int .i64 0, .int .i64 1, .int .i64 50, .int .i64 99, .int .i64 100, .int .i64 (-1), .int .i64 101] 3)) w3.heap.size 3 (ints [0, 1, 50, 99, 100, -1, 101]) := Blk.at_ rfl
      have hltW := c3.lt
      go_wp2_with fail
      refine (pick_any 24 w.heap.size _ _ (c3.next U3) (by omega) (by decide) (by decide)).mono ?_
      rintro e v3 ⟨r, rfl, hr, k3, o3⟩
      have hr23 : r ≤ 23 := hr
      have B4 := B3.only o3 (fun (e : _ = _) => by omega)
      have P3 := (R3.then_ U3).trans o3
      obtain ⟨q, hq, hq7⟩ : ∃ q : Nat, (5 + (r : Int) / 11) = (q : Int) ∧ 5 ≤ q ∧ q ≤ 7 := ⟨5 + r / 11, by omega, by omega, by omega⟩
      have hq4 := hq7.1
      have hq5 := hq7.2
      clear hr U3 B3 o3 hq7
      go_wp2_with fail
      refine (among_cut w.heap.size _ w3.heap.size q 7 _ [0, 1, 50, 99, 100, -1, 101] _ B4 (by omega) k3 (by omega) (by simpa using hq5) (by omega) (by omega)).mono ?_
      rintro e v4 ⟨s, rfl, hs, k4, o4⟩
      have P4 := P3.trans o4
      have hs2 : -1 ≤ s := by simp only [List.mem_cons, List.not_mem_nil, or_false] at hs; omega
      clear hs
      go_wp2_with fail
      go_ret3
      exact ⟨_, l, d, xs, (a : Int), s, rfl, ⟨HX.out, S1.only P4 (fun b off e _ (hb : b = _) => by have := hown b (by rw [e]; rfl); omega), hl36, hu⟩, K1.trans (P4.below (fun b (hb : b = _) => by omega) (by omega))⟩
  · have hl00 : ¬ (0 : Int) < (l : Int) := by omega
    go_wp2_with fail
    have U3 : Below w2.heap.size w2 (w2.alloc (.cells #[.int .i64 0, .int .i64 1, .int .i64 50, .int .i64 99, .int .i64 100, .int .i64 (-1), .int .i64 101] 3)) := (Below.refl _ _).alloc (Nat.le_refl _) _
    have B3 : Blk (w2.alloc (.cells #[.int .i64 0, .int .i64 1, .int .i64 50, .int .i64 99, .int .i64 100, .int .i64 (-1), .int .i64 101] 3)) w2.heap.size 3 (ints [0, 1, 50, 99, 100, -1, 101]) := Blk.at_ rfl
    have hltW := c2.lt
    go_wp2_with fail
    refine (pick_any 24 w.heap.size _ _ (c2.next U3) (by omega) (by decide) (by decide)).mono ?_
    rintro e v3 ⟨r, rfl, hr, k3, o3⟩
    have hr23 : r ≤ 23 := hr
    have B4 := B3.only o3 (fun (e : _ = _) => by omega)
    have P3 := (o2.then_ U3).trans o3
    obtain ⟨q, hq, hq7⟩ : ∃ q : Nat, (5 + (r : Int) / 11) = (q : Int) ∧ 5 ≤ q ∧ q ≤ 7 := ⟨5 + r / 11, by omega, by omega, by omega⟩
    have hq4 := hq7.1
    have hq5 := hq7.2
    clear hr U3 B3 o3 hq7
    go_wp2_with fail
    refine (among_cut w.heap.size _ w2.heap.size q 7 _ [0, 1, 50, 99, 100, -1, 101] _ B4 (by omega) k3 (by omega) (by simpa using hq5) (by omega) (by omega)).mono ?_
    rintro e v4 ⟨s, rfl, hs, k4, o4⟩
    have P4 := P3.trans o4
    have hs2 : -1 ≤ s := by simp only [List.mem_cons, List.not_mem_nil, or_false] at hs; omega
    clear hs
    go_wp2_with fail
    go_ret3
    exact ⟨_, l, d, xs, (a : Int), s, rfl, ⟨HX.out, S1.only P4 (fun b off e _ (hb : b = _) => by have := hown b (by rw [e]; rfl); omega), hl36, hu⟩, K1.trans (P4.below (fun b (hb : b = _) => by omega) (by omega))⟩

end Go.Proofs.Ytjcmlloglnkbfaa
