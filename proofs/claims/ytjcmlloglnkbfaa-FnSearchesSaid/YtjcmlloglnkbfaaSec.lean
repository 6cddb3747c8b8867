/- Sectors: when a list of them is valid, as the program and as the reference ask. -/
import Derived.Test.YtjcmlloglnkbfaaS1
namespace Go.Proofs.Ytjcmlloglnkbfaa
open Go.RowKit

def secAt (xs : List Sector) (k : Nat) : Bool :=
  match xs[k]? with
  | none => false
  | some s => inB s.cell 0 35 && inB s.chance 1 100 && (k == 0 || (match xs[k - 1]? with | none => false | some p => decide (p.cell < s.cell)))
def sectorsB (xs : List Sector) : Bool := allTo xs.length (secAt xs) && inB xs.length 1 36
theorem secAt_cell {xs : List Sector} {k : Nat} (hk : k < xs.length) (h : inB xs[k].cell 0 35 = false) : secAt xs k = false := by simp [secAt, List.getElem?_eq_getElem hk, h]
theorem secAt_chance {xs : List Sector} {k : Nat} (hk : k < xs.length) (h : inB xs[k].chance 1 100 = false) : secAt xs k = false := by simp [secAt, List.getElem?_eq_getElem hk, h]
theorem secAt_zero {xs : List Sector} (hk : 0 < xs.length) (h : inB xs[0].cell 0 35 = true) (h' : inB xs[0].chance 1 100 = true) : secAt xs 0 = true := by simp [secAt, List.getElem?_eq_getElem hk, h, h']
theorem secAt_succ {xs : List Sector} {k : Nat} (hk : k + 1 < xs.length) (h : inB xs[k + 1].cell 0 35 = true) (h' : inB xs[k + 1].chance 1 100 = true) : secAt xs (k + 1) = decide (xs[k].cell < xs[k + 1].cell) := by
  have hk' : k < xs.length := by omega
  simp [secAt, List.getElem?_eq_getElem hk, List.getElem?_eq_getElem hk', h, h']

set_option maxRecDepth 100000 in
theorem l23Sectors_any (A : Option Addr) (n c : Nat) (xs : List Sector) (w : World) (hx : Sees w 0 2 A n (xs.flatMap Sector.enc)) (hn : n ≤ 1048576) :
    Calls Try.prog 63 #[.slice A n c] w fun e w' => e = .returned (.bool (sectorsB xs)) ∧ Below w.heap.size w w' := by
  have hl := hx.count (by decide) (fun _ => rfl)
  have HS : Hid (sectorsB xs = (allTo n (secAt xs) && inB n 1 36)) := Lib.hid (by rw [sectorsB, hl])
  go_enter Try.func63, Try.ntmps63
  go_wp2_with fail
  go_loopw [3] (fun v wr => ∃ k : Nat, k ≤ n ∧ v = .int .i64 k ∧ Hid (allTo k (secAt xs) = true) ∧ Below w.heap.size w wr) (fun v _ => n - (intOf v).toNat)
  case atStart => exact ⟨0, Nat.zero_le _, rfl, Lib.hid (allTo_zero _), Below.refl _ _⟩
  case round =>
    obtain ⟨k, hk, rfl, ht, hb⟩ := hrel
    by_cases hlt : k < n
    · obtain ⟨b, off, hA, hkx, x0, x1⟩ := (hx.next hb).elem2 (fun _ => rfl) hlt
      obtain ⟨HA⟩ : Nonempty (Hid (A = some ⟨b, off, none⟩)) := ⟨Lib.hid hA⟩
      have hblt : b < wr.heap.size := World.block_lt_of_cell? wr _ x0
      cases g1 : inB xs[k].cell 0 35
      · have HF := Lib.hid (allTo_false (n := n) (p := secAt xs) hlt (secAt_cell hkx g1))
        subst hA
        go_wp2_with fail
        go_quiet ((go_at_call 64; exact quiet_left (l1In_any _ _ _ _)))
        go_wp2_with fail
        go_ret
        exact ⟨ret_bool (by rw [HS.out, HF.out]; rfl), bel_drewN hb _⟩
      · cases g2 : inB xs[k].chance 1 100
        · have HF := Lib.hid (allTo_false (n := n) (p := secAt xs) hlt (secAt_chance hkx g2))
          subst hA
          go_wp2_with fail
          go_quiet ((go_at_call 64; exact quiet_left (l1In_any _ _ _ _)))
          go_wp2_with fail
          go_ret
          exact ⟨ret_bool (by rw [HS.out, HF.out]; rfl), bel_drewN hb _⟩
        · rcases Nat.eq_zero_or_pos k with hk0 | hk0
          · subst hk0
            have HT := Lib.hid (allTo_succ ht.out (secAt_zero hkx g1 g2))
            simp only [Nat.zero_mul, Nat.add_zero] at x0 x1
            subst hA
            go_wp2_with fail
            go_quiet ((go_at_call 64; exact quiet_left (l1In_any _ _ _ _)))
            go_wp2_with fail
            go_roundw
            case rel => exact ⟨0 + 1, by omega, by go_num, HT, bel_drewN hb _⟩
            case measure => simp [intOf]; omega
          · obtain ⟨j, rfl⟩ : ∃ j, k = j + 1 := ⟨k - 1, by omega⟩
            have hz : decide ((0 : Int) < ((j + 1 : Nat) : Int)) = true := decide_eq_true (by omega)
            obtain ⟨b', off', hA', hjx, y0, y1⟩ := (hx.next hb).elem2 (fun _ => rfl) (show j < n by omega)
            rw [HA.out] at hA'
            injection hA' with hA'
            injection hA' with e1 e2
            subst e1 e2
            have hw1 : IntKind.i64.wrap (((j + 1 : Nat) : Int) - 1) = (j : Int) := by rw [IntWalk.i64_in _ (by omega)]; omega
            by_cases hlt2 : xs[j].cell < xs[j + 1].cell
            · have HT := Lib.hid (allTo_succ ht.out (by rw [secAt_succ hkx g1 g2]; simp [hlt2]))
              have hge : decide (xs[j + 1].cell ≤ xs[j].cell) = false := decide_eq_false (by omega)
              subst hA
              go_wp2_with fail
              go_quiet ((go_at_call 64; exact quiet_left (l1In_any _ _ _ _)))
              go_wp2_with fail
              go_roundw
              case rel => exact ⟨j + 1 + 1, by omega, by go_num, HT, bel_drewN hb _⟩
              case measure => simp [intOf]; omega
            · have HF := Lib.hid (allTo_false (n := n) (p := secAt xs) hlt (by rw [secAt_succ hkx g1 g2]; simp [hlt2]))
              have hge : decide (xs[j + 1].cell ≤ xs[j].cell) = true := decide_eq_true (by omega)
              subst hA
              go_wp2_with fail
              go_quiet ((go_at_call 64; exact quiet_left (l1In_any _ _ _ _)))
              go_wp2_with fail
              go_ret
              exact ⟨ret_bool (by rw [HS.out, HF.out]; rfl), bel_drewN hb _⟩
    · obtain rfl : k = n := by omega
      go_wp2_with (go_at_call 64; refine (l1In_any _ _ _ _).mono ?_; rintro e w' ⟨rfl, rfl⟩)
      go_ret
      exact ⟨ret_bool (by rw [HS.out, ht.out]; rfl), hb⟩

set_option maxRecDepth 100000 in
theorem areSectors_any (A : Option Addr) (n c : Nat) (xs : List Sector) (w : World) (hx : Sees w 0 2 A n (xs.flatMap Sector.enc)) (hn : n ≤ 1048576) :
    Calls Try.prog 66 #[.slice A n c] w fun e w' => e = .returned (.bool (sectorsB xs)) ∧ Below w.heap.size w w' := by
  have hl := hx.count (by decide) (fun _ => rfl)
  have HS : Hid (sectorsB xs = (allTo n (secAt xs) && inB n 1 36)) := Lib.hid (by rw [sectorsB, hl])
  go_enter Try.func66, Try.ntmps66
  go_wp2_with fail
  go_loopw [7] (fun v wr => ∃ k : Nat, k ≤ n ∧ v = .int .i64 k ∧ Hid (allTo k (secAt xs) = true) ∧ Below w.heap.size w wr) (fun v _ => n - (intOf v).toNat)
  case atStart => exact ⟨0, Nat.zero_le _, rfl, Lib.hid (allTo_zero _), Below.refl _ _⟩
  case round =>
    obtain ⟨k, hk, rfl, ht, hb⟩ := hrel
    by_cases hlt : k < n
    · obtain ⟨b, off, hA, hkx, x0, x1⟩ := (hx.next hb).elem2 (fun _ => rfl) hlt
      obtain ⟨HA⟩ : Nonempty (Hid (A = some ⟨b, off, none⟩)) := ⟨Lib.hid hA⟩
      have hblt : b < wr.heap.size := World.block_lt_of_cell? wr _ x0
      cases g1 : inB xs[k].cell 0 35
      · have HF := Lib.hid (allTo_false (n := n) (p := secAt xs) hlt (secAt_cell hkx g1))
        subst hA
        go_wp2_with fail
        go_quiet ((go_at_call 67; exact quiet_left (inside_any _ _ _ _)))
        go_wp2_with fail
        go_ret
        exact ⟨ret_bool (by rw [HS.out, HF.out]; rfl), bel_drewN (hb.alloc hb.size _) _⟩
      · cases g2 : inB xs[k].chance 1 100
        · have HF := Lib.hid (allTo_false (n := n) (p := secAt xs) hlt (secAt_chance hkx g2))
          subst hA
          go_wp2_with fail
          go_quiet ((go_at_call 67; exact quiet_left (inside_any _ _ _ _)))
          go_wp2_with fail
          go_ret
          exact ⟨ret_bool (by rw [HS.out, HF.out]; rfl), bel_drewN (hb.alloc hb.size _) _⟩
        · rcases Nat.eq_zero_or_pos k with hk0 | hk0
          · subst hk0
            have HT := Lib.hid (allTo_succ ht.out (secAt_zero hkx g1 g2))
            simp only [Nat.zero_mul, Nat.add_zero] at x0 x1
            subst hA
            go_wp2_with fail
            go_quiet ((go_at_call 67; exact quiet_left (inside_any _ _ _ _)))
            go_wp2_with fail
            go_roundw
            case rel => exact ⟨0 + 1, by omega, by go_num, HT, bel_drewN (hb.alloc hb.size _) _⟩
            case measure => simp [intOf]; omega
          · obtain ⟨j, rfl⟩ : ∃ j, k = j + 1 := ⟨k - 1, by omega⟩
            have hz : decide ((0 : Int) < ((j + 1 : Nat) : Int)) = true := decide_eq_true (by omega)
            obtain ⟨b', off', hA', hjx, y0, y1⟩ := (hx.next hb).elem2 (fun _ => rfl) (show j < n by omega)
            rw [HA.out] at hA'
            injection hA' with hA'
            injection hA' with e1 e2
            subst e1 e2
            have hw1 : IntKind.i64.wrap (((j + 1 : Nat) : Int) - 1) = (j : Int) := by rw [IntWalk.i64_in _ (by omega)]; omega
            by_cases hlt2 : xs[j].cell < xs[j + 1].cell
            · have HT := Lib.hid (allTo_succ ht.out (by rw [secAt_succ hkx g1 g2]; simp [hlt2]))
              have hge : decide (xs[j + 1].cell ≤ xs[j].cell) = false := decide_eq_false (by omega)
              subst hA
              go_wp2_with fail
              go_quiet ((go_at_call 67; exact quiet_left (inside_any _ _ _ _)))
              go_wp2_with fail
              go_roundw
              case rel => exact ⟨j + 1 + 1, by omega, by go_num, HT, bel_drewN (hb.alloc hb.size _) _⟩
              case measure => simp [intOf]; omega
            · have HF := Lib.hid (allTo_false (n := n) (p := secAt xs) hlt (by rw [secAt_succ hkx g1 g2]; simp [hlt2]))
              have hge : decide (xs[j + 1].cell ≤ xs[j].cell) = true := decide_eq_true (by omega)
              subst hA
              go_wp2_with fail
              go_quiet ((go_at_call 67; exact quiet_left (inside_any _ _ _ _)))
              go_wp2_with fail
              go_ret
              exact ⟨ret_bool (by rw [HS.out, HF.out]; rfl), bel_drewN (hb.alloc hb.size _) _⟩
    · obtain rfl : k = n := by omega
      go_wp2_with (go_at_call 67; refine (inside_any _ _ _ _).mono ?_; rintro e w' ⟨rfl, rfl⟩)
      go_ret
      exact ⟨ret_bool (by rw [HS.out, ht.out]; rfl), hb⟩

theorem sectorsB_at {xs : List Sector} (h : sectorsB xs = true) : xs.length ≤ 36 ∧ 1 ≤ xs.length ∧ ∀ (k : Nat) (hk : k < xs.length), (0 ≤ xs[k].cell ∧ xs[k].cell ≤ 35) ∧ (1 ≤ xs[k].chance ∧ xs[k].chance ≤ 100) := by
  simp only [sectorsB, Bool.and_eq_true] at h
  have h2 := inB_true h.2
  refine ⟨by omega, by omega, fun k hk => ?_⟩
  have h1 := allTo_at h.1 hk
  simp only [secAt, List.getElem?_eq_getElem hk, Bool.and_eq_true] at h1
  exact ⟨inB_true h1.1.1, inB_true h1.1.2⟩

end Go.Proofs.Ytjcmlloglnkbfaa
