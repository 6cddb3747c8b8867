/- FoundChance, as the program and as the reference have it. -/
import Derived.Test.YtjcmlloglnkbfaaSec
import Derived.Test.YtjcmlloglnkbfaaInts
namespace Go.Proofs.Ytjcmlloglnkbfaa
open Go.RowKit

theorem wrap_div (a d : Nat) (ha : a ≤ 1000000) : wrap64 ((a : Int) / (d : Int)) = (a : Int) / (d : Int) := by
  have l := Nat.div_le_self a d
  rw [← Int.natCast_ediv]
  generalize a / d = x at *
  exact IntWalk.wrap64_in _ (by omega)
def sumBy {α : Type} (f : α → Int) : List α → Int
  | [] => 0
  | x :: l => f x + sumBy f l
theorem sumBy_snoc {α : Type} (f : α → Int) (l : List α) (x : α) : sumBy f (l ++ [x]) = sumBy f l + f x := by
  induction l with
  | nil => simp [sumBy]
  | cons y l ih => simp only [List.cons_append, sumBy, ih]; omega
theorem sumBy_next {α : Type} (f : α → Int) {xs : List α} {k : Nat} (hk : k < xs.length) : sumBy f (xs.take (k + 1)) = sumBy f (xs.take k) + f xs[k] := by
  rw [List.take_succ_eq_append_getElem hk, sumBy_snoc]
def foundPart (cells : List Int) (s : Sector) : Int := if hasI cells s.cell then s.chance else 0
def foundNum (cells : List Int) (xs : List Sector) : Int := sumBy (foundPart cells) xs
def foundDen (xs : List Sector) : Int := sumBy (fun s => s.chance) xs
def lowest (a b : Int) : Int × Int := (a / (Nat.gcd a.toNat b.toNat : Nat), b / (Nat.gcd a.toNat b.toNat : Nat))
def foundChance (cells : List Int) (xs : List Sector) : Option (Int × Int) :=
  if sectorsB xs && risingB 0 35 cells then some (lowest (foundNum cells xs) (foundDen xs)) else none
/-- Two numbers, and a word on whether there are any. -/
def GivesPair (w : World) (R : Option (Int × Int)) (e : Ending) (w' : World) : Prop :=
  e = .returned (.tuple #[.int .i64 (R.getD (0, 0)).1, .int .i64 (R.getD (0, 0)).2, .bool R.isSome]) ∧ Below w.heap.size w w'

theorem lowestTerms_any (a b : Nat) (w : World) (ha : a ≤ 1000000) (hb : b ≤ 1000000) (h0 : 0 < b) :
    Calls Try.prog 80 #[.int .i64 (a : Int), .int .i64 (b : Int)] w fun e w' => e = .returned (.tuple #[.int .i64 (lowest a b).1, .int .i64 (lowest a b).2]) ∧ Quiet w w' := by
  have hg : 0 < Nat.gcd a b := Nat.gcd_pos_of_pos_right a h0
  have HL := Lib.hid (show lowest a b = ((a : Int) / (Nat.gcd a b : Nat), (b : Int) / (Nat.gcd a b : Nat)) by simp [lowest])
  go_enter Try.func80, Try.ntmps80
  go_wp2_with fail
  refine (gcdOf_any a b w (by omega) (by omega)).mono ?_
  have hda : Nat.gcd a b ≤ b := Nat.gcd_le_right a h0
  generalize Nat.gcd a b = d at *
  rintro e w1 ⟨rfl, q1⟩
  have hd0 : ((d : Int) == 0) = false := by simp; omega
  have l1 : a / d ≤ a := Nat.div_le_self _ _
  have l2 : b / d ≤ b := Nat.div_le_self _ _
  go_wp2_with fail
  go_quiet (fail)
  go_wp2_with fail
  go_ret2
  have W1 : wrap64 ((a : Int) / (d : Int)) = (a : Int) / (d : Int) := wrap_div _ _ (by omega)
  have W2 : wrap64 ((b : Int) / (d : Int)) = (b : Int) / (d : Int) := wrap_div _ _ (by omega)
  refine ⟨?_, q1.more _⟩
  show Ending.returned (.tuple #[.int .i64 (wrap64 ((a : Int) / (d : Int))), .int .i64 (wrap64 ((b : Int) / (d : Int)))]) = _
  rw [W1, W2, HL.out]

set_option maxRecDepth 100000 in
set_option maxHeartbeats 1000000 in
theorem FoundChance_any (A A' : Option Addr) (n c n' c' : Nat) (xs : List Sector) (cells : List Int) (w : World) (hx : Sees w 0 2 A n (xs.flatMap Sector.enc)) (hn : n ≤ 1048576) (hy : Sees w 0 1 A' n' (ints cells)) (hn' : n' ≤ 1048576) :
    Calls Try.prog 37 #[.slice A n c, .slice A' n' c'] w (GivesPair w (foundChance cells xs)) := by
  have hl := hx.count (by decide) (fun _ => rfl)
  go_enter Try.func37, Try.ntmps37
  go_wp2_with fail
  refine (areSectors_any _ _ _ _ _ hx hn).mono ?_
  cases g1 : sectorsB xs
  · rintro e w1 ⟨rfl, b1⟩
    go_wp2_with fail
    go_ret3
    rw [show foundChance cells xs = none by simp [foundChance, g1]]
    exact ⟨rfl, b1⟩
  · rintro e w1 ⟨rfl, b1⟩
    obtain ⟨hn36, hn1, hat⟩ := sectorsB_at g1
    go_wp2_with fail
    refine (ascending_any _ _ _ _ _ _ _ (hy.next b1) hn').mono ?_
    cases g2 : risingB 0 35 cells
    · rintro e w2 ⟨rfl, q2⟩
      go_wp2_with fail
      go_ret3
      rw [show foundChance cells xs = none by simp [foundChance, g2]]
      exact ⟨rfl, bel_quiet b1 q2⟩
    · rintro e w2 ⟨rfl, q2⟩
      have K2 := bel_quiet b1 q2
      have HR : Hid (foundChance cells xs = some (lowest (foundNum cells xs) (foundDen xs))) := Lib.hid (by simp [foundChance, g1, g2])
      clear b1 q2 g1 g2
      go_wp2_with fail
      go_loopw [7, 8, 23] (fun a b i wr => ∃ (k p q : Nat), k ≤ n ∧ i = .int .i64 k ∧ a = .int .i64 (p : Int) ∧ b = .int .i64 (q : Int) ∧ p ≤ q ∧ k ≤ q ∧ q ≤ 100 * k ∧ Hid (foundNum cells (xs.take k) = p) ∧ Hid (foundDen (xs.take k) = q) ∧ Below w.heap.size w wr) (fun _ _ i _ => n - (intOf i).toNat)
      case atStart => exact ⟨0, 0, 0, Nat.zero_le _, rfl, rfl, rfl, Nat.le_refl _, Nat.le_refl _, by omega, Lib.hid rfl, Lib.hid rfl, K2⟩
      case round =>
        obtain ⟨k, p, q, hk, rfl, rfl, rfl, hpq, hkq, hq1, HN, HD, hb⟩ := hrel
        by_cases hlt : k < n
        · obtain ⟨b, off, rfl, hkx, x0, x1⟩ := (hx.next hb).elem2 (fun _ => rfl) hlt
          have hblt : b < wr.heap.size := World.block_lt_of_cell? wr _ x0
          obtain ⟨u, hu, hu1⟩ : ∃ u : Nat, xs[k].chance = (u : Int) ∧ (1 ≤ u ∧ u ≤ 100) := ⟨xs[k].chance.toNat, by have := (hat k hkx).2; omega, by have := (hat k hkx).2; omega⟩
          have HD' := Lib.hid (show foundDen (xs.take (k + 1)) = ((q + u : Nat) : Int) by rw [foundDen, sumBy_next _ hkx, ← foundDen, HD.out, hu]; rfl)
          rw [hu] at x1
          clear hat
          cases hh : hasI cells xs[k].cell
          · have HN' := Lib.hid (show foundNum cells (xs.take (k + 1)) = ((p : Nat) : Int) by rw [foundNum, sumBy_next _ hkx, ← foundNum, HN.out, foundPart, hh]; simp)
            have HH := Lib.hid hh
            clear hu hh
            go_wp2_with fail
            refine (Contains_int _ _ _ _ _ _ (hy.below (hb.alloc hb.size _) (Nat.le_refl _)) (by omega)).mono ?_
            rw [show (cells.any fun x => decide (xs[k].cell = x)) = hasI cells xs[k].cell from rfl, HH.out]
            rintro e w3 ⟨rfl, q3⟩
            go_wp2_with fail
            go_roundw
            case rel => exact ⟨k + 1, p, q + u, by omega, by go_num, rfl, by go_num, by omega, by omega, by omega, HN', HD', bel_quiet (hb.alloc hb.size _) q3⟩
            case measure => simp [intOf]; omega
          · have HN' := Lib.hid (show foundNum cells (xs.take (k + 1)) = ((p + u : Nat) : Int) by rw [foundNum, sumBy_next _ hkx, ← foundNum, HN.out, foundPart, hh, hu]; simp)
            have HH := Lib.hid hh
            clear hu hh
            go_wp2_with fail
            refine (Contains_int _ _ _ _ _ _ (hy.below (hb.alloc hb.size _) (Nat.le_refl _)) (by omega)).mono ?_
            rw [show (cells.any fun x => decide (xs[k].cell = x)) = hasI cells xs[k].cell from rfl, HH.out]
            rintro e w3 ⟨rfl, q3, rfl⟩
            go_wp2_with fail
            go_roundw
            case rel => exact ⟨k + 1, p + u, q + u, by omega, by go_num, by go_num, by go_num, by omega, by omega, by omega, HN', HD', bel_drewN (hb.alloc hb.size _) _⟩
            case measure => simp [intOf]; omega
        · obtain rfl : k = n := by omega
          have HN2 := Lib.hid (show foundNum cells xs = p by rw [← HN.out, List.take_of_length_le (by omega)])
          have HD2 := Lib.hid (show foundDen xs = q by rw [← HD.out, List.take_of_length_le (by omega)])
          clear HN HD
          go_wp2_with fail
          refine (lowestTerms_any p q _ (by omega) (by omega) (by omega)).mono ?_
          rintro e w3 ⟨rfl, q3⟩
          go_wp2_with fail
          go_ret3
          rw [HR.out, HN2.out, HD2.out]
          exact ⟨rfl, bel_quiet hb q3⟩

set_option maxRecDepth 100000 in
set_option maxHeartbeats 1000000 in
theorem specFoundChance_any (A A' : Option Addr) (n c n' c' : Nat) (xs : List Sector) (cells : List Int) (w : World) (hx : Sees w 0 2 A n (xs.flatMap Sector.enc)) (hn : n ≤ 1048576) (hy : Sees w 0 1 A' n' (ints cells)) (hn' : n' ≤ 1048576) :
    Calls Try.prog 35 #[.slice A n c, .slice A' n' c'] w (GivesPair w (foundChance cells xs)) := by
  have hl := hx.count (by decide) (fun _ => rfl)
  go_enter Try.func35, Try.ntmps35
  go_wp2_with fail
  refine (l23Sectors_any _ _ _ _ _ hx hn).mono ?_
  cases g1 : sectorsB xs
  · rintro e w1 ⟨rfl, b1⟩
    go_wp2_with fail
    go_ret3
    rw [show foundChance cells xs = none by simp [foundChance, g1]]
    exact ⟨rfl, b1⟩
  · rintro e w1 ⟨rfl, b1⟩
    obtain ⟨hn36, hn1, hat⟩ := sectorsB_at g1
    go_wp2_with fail
    refine (l1Rising_any _ _ _ _ _ _ _ (hy.next b1) hn').mono ?_
    cases g2 : risingB 0 35 cells
    · rintro e w2 ⟨rfl, q2⟩
      go_wp2_with fail
      go_ret3
      rw [show foundChance cells xs = none by simp [foundChance, g2]]
      exact ⟨rfl, bel_quiet b1 q2⟩
    · rintro e w2 ⟨rfl, q2⟩
      have K2 := bel_quiet b1 q2
      have HR : Hid (foundChance cells xs = some (lowest (foundNum cells xs) (foundDen xs))) := Lib.hid (by simp [foundChance, g1, g2])
      clear b1 q2 g1 g2
      go_wp2_with fail
      go_loopw [7, 8, 9] (fun a b i wr => ∃ (k p q : Nat), k ≤ n ∧ i = .int .i64 k ∧ a = .int .i64 (p : Int) ∧ b = .int .i64 (q : Int) ∧ p ≤ q ∧ k ≤ q ∧ q ≤ 100 * k ∧ Hid (foundNum cells (xs.take k) = p) ∧ Hid (foundDen (xs.take k) = q) ∧ Below w.heap.size w wr) (fun _ _ i _ => n - (intOf i).toNat)
      case atStart => exact ⟨0, 0, 0, Nat.zero_le _, rfl, rfl, rfl, Nat.le_refl _, Nat.le_refl _, by omega, Lib.hid rfl, Lib.hid rfl, K2⟩
      case round =>
        obtain ⟨k, p, q, hk, rfl, rfl, rfl, hpq, hkq, hq1, HN, HD, hb⟩ := hrel
        by_cases hlt : k < n
        · obtain ⟨b, off, rfl, hkx, x0, x1⟩ := (hx.next hb).elem2 (fun _ => rfl) hlt
          have hblt : b < wr.heap.size := World.block_lt_of_cell? wr _ x0
          obtain ⟨u, hu, hu1⟩ : ∃ u : Nat, xs[k].chance = (u : Int) ∧ (1 ≤ u ∧ u ≤ 100) := ⟨xs[k].chance.toNat, by have := (hat k hkx).2; omega, by have := (hat k hkx).2; omega⟩
          have HD' := Lib.hid (show foundDen (xs.take (k + 1)) = ((q + u : Nat) : Int) by rw [foundDen, sumBy_next _ hkx, ← foundDen, HD.out, hu]; rfl)
          rw [hu] at x1
          clear hat
          cases hh : hasI cells xs[k].cell
          · have HN' := Lib.hid (show foundNum cells (xs.take (k + 1)) = ((p : Nat) : Int) by rw [foundNum, sumBy_next _ hkx, ← foundNum, HN.out, foundPart, hh]; simp)
            have HH := Lib.hid hh
            clear hu hh
            go_wp2_with fail
            refine (l1Has_any _ _ _ _ _ _ (hy.below hb (Nat.le_refl _)) (by omega)).mono ?_
            rw [HH.out]
            rintro e w3 ⟨rfl, q3⟩
            go_wp2_with fail
            go_roundw
            case rel => exact ⟨k + 1, p, q + u, by omega, by go_num, rfl, by go_num, by omega, by omega, by omega, HN', HD', bel_quiet hb q3⟩
            case measure => simp [intOf]; omega
          · have HN' := Lib.hid (show foundNum cells (xs.take (k + 1)) = ((p + u : Nat) : Int) by rw [foundNum, sumBy_next _ hkx, ← foundNum, HN.out, foundPart, hh, hu]; simp)
            have HH := Lib.hid hh
            clear hu hh
            go_wp2_with fail
            refine (l1Has_any _ _ _ _ _ _ (hy.below hb (Nat.le_refl _)) (by omega)).mono ?_
            rw [HH.out]
            rintro e w3 ⟨rfl, q3, rfl⟩
            go_wp2_with fail
            go_roundw
            case rel => exact ⟨k + 1, p + u, q + u, by omega, by go_num, by go_num, by go_num, by omega, by omega, by omega, HN', HD', bel_drewN hb _⟩
            case measure => simp [intOf]; omega
        · obtain rfl : k = n := by omega
          have HN2 := Lib.hid (show foundNum cells xs = p by rw [← HN.out, List.take_of_length_le (by omega)])
          have HD2 := Lib.hid (show foundDen xs = q by rw [← HD.out, List.take_of_length_le (by omega)])
          clear HN HD
          have hg : 0 < Nat.gcd p q := Nat.gcd_pos_of_pos_right p (by omega)
          have hgle : Nat.gcd p q ≤ q := Nat.gcd_le_right p (by omega)
          have HL := Lib.hid (show lowest p q = ((p : Int) / (Nat.gcd p q : Nat), (q : Int) / (Nat.gcd p q : Nat)) by simp [lowest])
          go_wp2_with fail
          refine (l23Common_any p q _ (by omega) (by omega)).mono ?_
          generalize Nat.gcd p q = d at *
          rintro e w3 ⟨rfl, rfl⟩
          have hd0 : ((d : Int) == 0) = false := by simp; omega
          have l1 : p / d ≤ p := Nat.div_le_self _ _
          have l2 : q / d ≤ q := Nat.div_le_self _ _
          go_wp2_with fail
          go_quiet (fail)
          go_wp2_with fail
          go_ret3
          have W1 : wrap64 ((p : Int) / (d : Int)) = (p : Int) / (d : Int) := wrap_div _ _ (by omega)
          have W2 : wrap64 ((q : Int) / (d : Int)) = (q : Int) / (d : Int) := wrap_div _ _ (by omega)
          rw [HR.out, HN2.out, HD2.out]
          refine ⟨?_, bel_drewN hb _⟩
          show Ending.returned (.tuple #[.int .i64 (wrap64 ((p : Int) / (d : Int))), .int .i64 (wrap64 ((q : Int) / (d : Int))), .bool true]) = Ending.returned (.tuple #[.int .i64 (lowest p q).1, .int .i64 (lowest p q).2, .bool true])
          rw [W1, W2, HL.out]

end Go.Proofs.Ytjcmlloglnkbfaa
