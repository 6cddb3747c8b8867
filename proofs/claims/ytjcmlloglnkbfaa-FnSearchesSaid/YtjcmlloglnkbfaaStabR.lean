/- The library's exchange and rotation of pieces, at sectors. -/
import Derived.Test.YtjcmlloglnkbfaaSortS
namespace Go.Proofs.Ytjcmlloglnkbfaa
open Go.RowKit

theorem swap_perm {α : Type} {l : List α} {i j : Nat} {x y : α} (hx : l[i]? = some x) (hy : l[j]? = some y) : ((l.set i y).set j x).Perm l := by
  obtain ⟨h1, rfl⟩ := List.getElem?_eq_some_iff.1 hx
  obtain ⟨h2, rfl⟩ := List.getElem?_eq_some_iff.1 hy
  exact List.set_set_perm h1 h2
/-- A piece that has turned in a row. -/
def GivesRow (w : World) (blk : Nat) (t : TypeId) (rest : List Value) (P : List Sector → Prop) (e : Ending) (w' : World) : Prop := e = .returned (.tuple #[]) ∧ ∃ ys : List Sector, Blk w' blk t (ys.flatMap Sector.enc ++ rest) ∧ P ys ∧ Only (fun z => z = blk) w w'

set_option maxRecDepth 100000 in
set_option maxHeartbeats 4000000 in
theorem swapRange_Sector (g : Nat) (lb : Array Value) (blk c n : Nat) (t : TypeId) (xs : List Sector) (rest : List Value) (a b k : Nat) (w : World) (hB : Blk w blk t (xs.flatMap Sector.enc ++ rest)) (hn : xs.length = n) (hn2 : n ≤ 1000) (h1 : a + k ≤ b) (h2 : b + k ≤ n) :
    Calls Try.prog 121 #[.slice (some ⟨blk, 0, none⟩) n c, .int .i64 (a : Int), .int .i64 (b : Int), .int .i64 (k : Int), .func (.func g) #[] lb] w (GivesRow w blk t rest fun ys => Swapped xs ys a b k ∧ ys.Perm xs) := by
  have hB0 := hB
  have HN := Lib.hid hn
  clear hB hn
  go_enter Try.func121, Try.ntmps121
  go_wp2_with fail
  go_loopw [10] (fun v wr => ∃ (j : Nat) (ys : List Sector), v = .int .i64 (j : Int) ∧ j ≤ k ∧ Blk wr blk t (ys.flatMap Sector.enc ++ rest) ∧ Hid (Swapped xs ys a b j) ∧ Hid (ys.Perm xs) ∧ Only (fun z => z = blk) w wr) (fun v _ => k - (intOf v).toNat)
  case atStart => exact ⟨0, xs, rfl, Nat.zero_le _, hB0, Lib.hid (Swapped.zero _ _ _), Lib.hid (.refl _), Only.refl _ _⟩
  case round =>
    obtain ⟨j, ys, rfl, hj, hB, HS, HP, ho⟩ := hrel
    clear hB0
    have hyl : ys.length = n := HP.out.length_eq.trans HN.out
    by_cases hlt : j < k
    · have hu : (a : Int) + (j : Int) = ((a + j : Nat) : Int) := by omega
      have hv : (b : Int) + (j : Int) = ((b + j : Nat) : Int) := by omega
      obtain ⟨p, hp⟩ : ∃ p, ys[a + j]? = some p := ⟨_, List.getElem?_eq_getElem (by omega)⟩
      obtain ⟨q, hq⟩ : ∃ q, ys[b + j]? = some q := ⟨_, List.getElem?_eq_getElem (by omega)⟩
      have HSW := Lib.hid (HS.out.next hlt h1 hp hq)
      have HPM := Lib.hid ((swap_perm hp hq).trans HP.out)
      obtain ⟨u, hu2⟩ : ∃ u, a + j = u := ⟨_, rfl⟩
      obtain ⟨v, hv2⟩ : ∃ v, b + j = v := ⟨_, rfl⟩
      have hun : u < n := by omega
      have hvn : v < n := by omega
      rw [hu2] at hu hp HSW HPM
      rw [hv2] at hv hq HSW HPM
      clear hu2 hv2
      have e0 : wr.cell? ⟨blk, u * 2, none⟩ = some (.int .i64 p.cell) := row_cell? (enc := Sector.enc) (s := 2) (k := u) (fun _ => rfl) hB hp 0 _ rfl
      have e1 : wr.cell? ⟨blk, u * 2 + 1, none⟩ = some (.int .i64 p.chance) := row_cell? (enc := Sector.enc) (s := 2) (k := u) (fun _ => rfl) hB hp 1 _ rfl
      have f0 : wr.cell? ⟨blk, v * 2, none⟩ = some (.int .i64 q.cell) := row_cell? (enc := Sector.enc) (s := 2) (k := v) (fun _ => rfl) hB hq 0 _ rfl
      have f1 : wr.cell? ⟨blk, v * 2 + 1, none⟩ = some (.int .i64 q.chance) := row_cell? (enc := Sector.enc) (s := 2) (k := v) (fun _ => rfl) hB hq 1 _ rfl
      have fz0 := hB.frozen (u * 2)
      have fz1 := hB.frozen (u * 2 + 1)
      have fz2 := hB.frozen (v * 2)
      have fz3 := hB.frozen (v * 2 + 1)
      have HYL := Lib.hid hyl
      have HU := Lib.hid hu
      have HV := Lib.hid hv
      clear hp hq hyl
      have hui : (u : Int) < (n : Int) := by omega
      have hvi : (v : Int) < (n : Int) := by omega
      have hu0 : (0 : Int) ≤ (u : Int) := by omega
      have hv0 : (0 : Int) ≤ (v : Int) := by omega
      have hwu : IntKind.i64.wrap (u : Int) = (u : Int) := IntWalk.i64_in _ (by omega)
      have hwv : IntKind.i64.wrap (v : Int) = (v : Int) := IntWalk.i64_in _ (by omega)
      go_wp2_with fail
      go_region
      all_goals
        go_wp2_with fail
        go_roundw
        case rel =>
          clear hwu hwv
          have B5 := (Blk.many (Sector.enc q) hB (u * 2)).many (Sector.enc p) (v * 2)
          rw [row_set (enc := Sector.enc) (s := 2) (fun _ => rfl) _ _ u q (by rw [HYL.out]; exact hun), row_set (enc := Sector.enc) (s := 2) (fun _ => rfl) _ _ v p (by rw [List.length_set]; rw [HYL.out]; exact hvn)] at B5
          have O5 := Only.many (S := fun z => z = blk) (g := blk) rfl (Sector.enc p) (Only.many (S := fun z => z = blk) (g := blk) rfl (Sector.enc q) ho (u * 2)) (v * 2)
          exact ⟨j + 1, _, by go_num, by omega, B5.quiet (Quiet.one _), HSW, HPM, O5.quiet (Quiet.one _)⟩
        case measure => simp [intOf]; omega
    · obtain rfl : j = k := by omega
      clear hyl
      go_wp2_with fail
      go_end0
      exact ⟨rfl, ys, hB, ⟨HS.out, HP.out⟩, ho⟩

set_option maxRecDepth 100000 in
set_option maxHeartbeats 4000000 in
theorem rotate_Sector (g : Nat) (lb : Array Value) (blk c n : Nat) (t : TypeId) (xs : List Sector) (rest : List Value) (a m b : Nat) (w : World) (hB : Blk w blk t (xs.flatMap Sector.enc ++ rest)) (hn : xs.length = n) (hn2 : n ≤ 1000) (h1 : a < m) (h2 : m < b) (h3 : b ≤ n) :
    Calls Try.prog 120 #[.slice (some ⟨blk, 0, none⟩) n c, .int .i64 (a : Int), .int .i64 (m : Int), .int .i64 (b : Int), .func (.func g) #[] lb] w (GivesRow w blk t rest fun ys => Rotated xs ys a m b ∧ ys.Perm xs) := by
  have hB0 := hB
  have HN := Lib.hid hn
  clear hB hn
  have hs0 : (m : Int) - (a : Int) = ((m - a : Nat) : Int) := by omega
  have hs1 : (b : Int) - (m : Int) = ((b - m : Nat) : Int) := by omega
  go_enter Try.func120, Try.ntmps120
  go_wp2_with fail
  go_loopw [10, 11] (fun u v wr => ∃ (i j : Nat) (ys : List Sector), u = .int .i64 (i : Int) ∧ v = .int .i64 (j : Int) ∧ 1 ≤ i ∧ 1 ≤ j ∧ i ≤ m ∧ m + j ≤ n ∧ Blk wr blk t (ys.flatMap Sector.enc ++ rest) ∧ Hid (∀ x, rotF xs a m b x = rotF ys (m - i) m (m + j) x) ∧ Hid (ys.Perm xs) ∧ Only (fun z => z = blk) w wr) (fun u v _ => (intOf u).toNat + (intOf v).toNat)
  case atStart => exact ⟨m - a, b - m, xs, rfl, rfl, by omega, by omega, by omega, by omega, hB0, Lib.hid (fun x => by rw [show m - (m - a) = a by omega, show m + (b - m) = b by omega]), Lib.hid (.refl _), Only.refl _ _⟩
  case round =>
    obtain ⟨i, j, ys, rfl, rfl, hi1, hj1, him, hjn, hB, HT, HP, ho⟩ := hrel
    clear hB0 hs0 hs1
    by_cases hij : i = j
    · subst hij
      have hs : (m : Int) - (i : Int) = ((m - i : Nat) : Int) := by omega
      have hne : ((i : Int) != (i : Int)) = false := bne_self_eq_false _
      go_wp2_with fail
      refine (swapRange_Sector g lb blk c n t ys rest (m - i) m i wr hB (HP.out.length_eq.trans HN.out) hn2 (by omega) (by omega)).mono ?_
      rintro e w2 ⟨rfl, zs, B2, ⟨HSW, HPZ⟩, o2⟩
      go_wp2_with fail
      go_end0
      exact ⟨rfl, zs, B2, ⟨fun x => by rw [rot_end HSW him x, HT.out x], HPZ.trans HP.out⟩, ho.trans o2⟩
    · have hne : ((i : Int) != (j : Int)) = true := by rw [bne_iff_ne]; omega
      have hne2 : ((i : Int) == (j : Int)) = false := by rw [beq_eq_false_iff_ne]; omega
      have hs : (m : Int) - (i : Int) = ((m - i : Nat) : Int) := by omega
      by_cases hgt : j < i
      · have hgt1 : (j : Int) < (i : Int) := by omega
        have hd : (i : Int) - (j : Int) = ((i - j : Nat) : Int) := by omega
        go_wp2_with fail
        refine (swapRange_Sector g lb blk c n t ys rest (m - i) m j wr hB (HP.out.length_eq.trans HN.out) hn2 (by omega) (by omega)).mono ?_
        rintro e w2 ⟨rfl, zs, B2, ⟨HSW, HPZ⟩, o2⟩
        have HTT := Lib.hid (fun x => (HT.out x).trans (rot_left HSW hgt him x))
        have HPP := Lib.hid (HPZ.trans HP.out)
        clear HSW HPZ
        go_wp2_with fail
        go_roundw
        case rel => exact ⟨i - j, j, zs, rfl, rfl, by omega, hj1, by omega, hjn, B2, HTT, HPP, ho.trans o2⟩
        case measure => simp [intOf]; omega
      · have hgt1 : ¬ (j : Int) < (i : Int) := by omega
        have hd : (j : Int) - (i : Int) = ((j - i : Nat) : Int) := by omega
        have hs2 : (m : Int) + (j : Int) - (i : Int) = ((m + j - i : Nat) : Int) := by omega
        go_wp2_with fail
        refine (swapRange_Sector g lb blk c n t ys rest (m - i) (m + j - i) i wr hB (HP.out.length_eq.trans HN.out) hn2 (by omega) (by omega)).mono ?_
        rintro e w2 ⟨rfl, zs, B2, ⟨HSW, HPZ⟩, o2⟩
        have HTT := Lib.hid (fun x => (HT.out x).trans (rot_right HSW (by omega) him x))
        have HPP := Lib.hid (HPZ.trans HP.out)
        clear HSW HPZ
        go_wp2_with fail
        go_roundw
        case rel => exact ⟨i, j - i, zs, rfl, rfl, hi1, by omega, him, by omega, B2, HTT, HPP, ho.trans o2⟩
        case measure => simp [intOf]; omega

end Go.Proofs.Ytjcmlloglnkbfaa
