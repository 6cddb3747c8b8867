/- Maps: IsMap, isCell, as the program and as the reference have them. -/
import Derived.Test.YtljiflbaknakaaaMap
import Derived.Test.YtljiflbaknakaaaS1
import Derived.Test.YtljiflbaknakaaaLib1
import Derived.Shelf.Abstract
namespace Go.Proofs.Ytljiflbaknakaaa
open Go.RowKit

def in09 (x : Int) : Bool := inB x 0 9
def isMapB (m : MapV) : Bool := inB m.width 1 6 && inB m.height 1 6 && decide ((m.rise.length : Int) = m.width * m.height) && decide (m.cost.length = m.rise.length) && (m.rise.all in09 && m.cost.all in09)
theorem prod_bd {a b : Int} (ha : 1 ≤ a ∧ a ≤ 6) (hb : 1 ≤ b ∧ b ≤ 6) : 1 ≤ a * b ∧ a * b ≤ 36 := by
  obtain ⟨a1, a2⟩ := ha
  obtain ⟨b1, b2⟩ := hb
  have h : a = 1 ∨ a = 2 ∨ a = 3 ∨ a = 4 ∨ a = 5 ∨ a = 6 := by omega
  rcases h with rfl | rfl | rfl | rfl | rfl | rfl <;> omega
theorem not_any_all {α : Type} (p : α → Bool) (l : List α) : (!l.any fun x => !p x) = l.all p := by
  induction l with
  | nil => rfl
  | cons x l ih => simp only [List.any_cons, List.all_cons, Bool.not_or, Bool.not_not, ih]

theorem IsMap1_any (x : Int) (w : World) : Calls Try.prog 104 #[.int .i64 x] w fun e w' => e = .returned (.bool (!in09 x)) ∧ w = w' := by
  go_enter Try.func104, Try.ntmps104
  go_wp2_with (go_at_call 67; refine (inside_any _ _ _ _).mono ?_; rintro e w' ⟨rfl, rfl⟩)
  go_ret
  exact ⟨rfl, rfl⟩

theorem IsMap1_answers (xs : List Int) (w : World) : Answers 104 #[] (.int .i64) (fun x => !in09 x) xs w :=
  ⟨enters_of Try.func104 (by kernel_rfl) rfl, fun i hi W _ => (IsMap1_any xs[i] W).mono fun e W' ⟨he, hw⟩ => ⟨he, hw ▸ Below.refl _ _⟩⟩

theorem IsMap2_any (x : Int) (w : World) : Calls Try.prog 105 #[.int .i64 x] w fun e w' => e = .returned (.bool (!in09 x)) ∧ w = w' := by
  go_enter Try.func105, Try.ntmps105
  go_wp2_with (go_at_call 67; refine (inside_any _ _ _ _).mono ?_; rintro e w' ⟨rfl, rfl⟩)
  go_ret
  exact ⟨rfl, rfl⟩

theorem IsMap2_answers (xs : List Int) (w : World) : Answers 105 #[] (.int .i64) (fun x => !in09 x) xs w :=
  ⟨enters_of Try.func105 (by kernel_rfl) rfl, fun i hi W _ => (IsMap2_any xs[i] W).mono fun e W' ⟨he, hw⟩ => ⟨he, hw ▸ Below.refl _ _⟩⟩

set_option maxRecDepth 100000 in
theorem IsMap_any (A1 A2 : Option Addr) (n1 n2 c1 c2 : Nat) (m : MapV) (w : World) (hm : SeesMap w A1 n1 A2 n2 m) (hn : n1 ≤ 1048576 ∧ n2 ≤ 1048576) :
    Calls Try.prog 66 #[.agg #[.int .i64 m.width, .int .i64 m.height, .slice A1 n1 c1, .slice A2 n2 c2]] w fun e w' => e = .returned (.bool (isMapB m)) ∧ Below w.heap.size w w' := by
  have hl1 := hm.f1.icount
  have hl2 := hm.f2.icount
  cases h1 : inB m.width 1 6
  · have HM : Hid (isMapB m = false) := Lib.hid (by simp [isMapB, h1])
    go_enter Try.func66, Try.ntmps66
    go_wp2_with (go_at_call 67; refine (inside_any _ _ _ _).mono ?_; rintro e w' ⟨rfl, rfl⟩)
    go_ret
    exact ⟨ret_bool HM.out.symm, (Below.refl _ _).alloc (Nat.le_refl _) _⟩
  · have i1 := inB_true h1
    cases h2 : inB m.height 1 6
    · have HM : Hid (isMapB m = false) := Lib.hid (by simp [isMapB, h2])
      go_enter Try.func66, Try.ntmps66
      go_wp2_with (go_at_call 67; refine (inside_any _ _ _ _).mono ?_; rintro e w' ⟨rfl, rfl⟩)
      go_ret
      exact ⟨ret_bool HM.out.symm, (Below.refl _ _).alloc (Nat.le_refl _) _⟩
    · have i2 := inB_true h2
      have i3 := prod_bd i1 i2
      by_cases h3 : (n1 : Int) = m.width * m.height
      · by_cases h4 : n2 = n1
        · have hn1 : n1 ≤ 36 := by omega
          have hn2 : n2 ≤ 36 := by omega
          have b3 : ((n1 : Int) != m.width * m.height) = false := by simp; omega
          have b4 : ((n2 : Int) != (n1 : Int)) = false := by simp; omega
          have HR : Hid ((!m.rise.any fun x => !in09 x) = m.rise.all in09) := Lib.hid (not_any_all _ _)
          have HC : Hid ((!m.cost.any fun x => !in09 x) = m.cost.all in09) := Lib.hid (not_any_all _ _)
          have HM : Hid (isMapB m = (m.rise.all in09 && m.cost.all in09)) := Lib.hid (by simp [isMapB, h1, h2, h3, h4, hl1, hl2])
          clear h3 h4
          go_enter Try.func66, Try.ntmps66
          go_wp2_with (go_at_call 67; refine (inside_any _ _ _ _).mono ?_; rintro e w' ⟨rfl, rfl⟩)
          have K0 : Below w.heap.size w _ := (Below.refl w.heap.size w).alloc (Nat.le_refl _) (.cells #[.int .i64 m.width, .int .i64 m.height, .slice A1 n1 c1, .slice A2 n2 c2] 29)
          refine (ContainsFunc_int 104 #[] _ _ _ _ _ _ (hm.f1.next K0) (by omega) (IsMap1_answers _ _)).mono ?_
          generalize (m.rise.any fun x => !in09 x) = ar at *
          rintro e w1 ⟨rfl, b1⟩
          have K1 := bel_then K0 b1
          have P1 : Blk w1 w.heap.size 29 [.int .i64 m.width, .int .i64 m.height, .slice A1 n1 c1, .slice A2 n2 c2] := (Blk.at_ rfl).next b1
          have p1 := P1.cell
          cases ar
          · go_wp2_with fail
            refine (ContainsFunc_int 105 #[] _ _ _ _ _ _ (hm.f2.next K1) (by omega) (IsMap2_answers _ _)).mono ?_
            generalize (m.cost.any fun x => !in09 x) = ac at *
            rintro e w2 ⟨rfl, b2⟩
            go_wp2_with fail
            go_ret
            exact ⟨ret_bool (by rw [HM.out, ← HR.out, ← HC.out]; rfl), bel_then K1 b2⟩
          · go_wp2_with fail
            go_ret
            exact ⟨ret_bool (by rw [HM.out, ← HR.out]; rfl), K1⟩
        · have b3 : ((n1 : Int) != m.width * m.height) = false := by simp; omega
          have b4 : ((n2 : Int) != (n1 : Int)) = true := by simp; omega
          have HM : Hid (isMapB m = false) := Lib.hid (by simp [isMapB, hl1, hl2, h4])
          clear h3 h4
          go_enter Try.func66, Try.ntmps66
          go_wp2_with (go_at_call 67; refine (inside_any _ _ _ _).mono ?_; rintro e w' ⟨rfl, rfl⟩)
          go_ret
          exact ⟨ret_bool HM.out.symm, (Below.refl _ _).alloc (Nat.le_refl _) _⟩
      · have b3 : ((n1 : Int) != m.width * m.height) = true := by simp; omega
        have HM : Hid (isMapB m = false) := Lib.hid (by simp [isMapB, hl1, h3])
        clear h3
        go_enter Try.func66, Try.ntmps66
        go_wp2_with (go_at_call 67; refine (inside_any _ _ _ _).mono ?_; rintro e w' ⟨rfl, rfl⟩)
        go_ret
        exact ⟨ret_bool HM.out.symm, (Below.refl _ _).alloc (Nat.le_refl _) _⟩

theorem all_take_succ {α : Type} {p : α → Bool} {xs : List α} {k : Nat} (hk : k < xs.length) (h : (xs.take k).all p = true) (hp : p xs[k] = true) : (xs.take (k + 1)).all p = true := by
  rw [List.take_succ_eq_append_getElem hk, List.all_append, h]
  simp [hp]
theorem all_false {α : Type} {p : α → Bool} {xs : List α} {k : Nat} (hk : k < xs.length) (hp : p xs[k] = false) : xs.all p = false := by
  rw [List.all_eq_false]
  exact ⟨_, List.getElem_mem hk, by simp [hp]⟩
set_option maxRecDepth 100000 in
theorem l2Map_any (A1 A2 : Option Addr) (n1 n2 c1 c2 : Nat) (m : MapV) (w : World) (hm : SeesMap w A1 n1 A2 n2 m) (hn : n1 ≤ 1048576 ∧ n2 ≤ 1048576) :
    Calls Try.prog 101 #[.agg #[.int .i64 m.width, .int .i64 m.height, .slice A1 n1 c1, .slice A2 n2 c2]] w fun e w' => e = .returned (.bool (isMapB m)) ∧ Below w.heap.size w w' := by
  have hl1 := hm.f1.icount
  have hl2 := hm.f2.icount
  cases h1 : inB m.width 1 6
  · have HM : Hid (isMapB m = false) := Lib.hid (by simp [isMapB, h1])
    go_enter Try.func101, Try.ntmps101
    go_wp2_with (go_at_call 77; refine (l1In_any _ _ _ _).mono ?_; rintro e w' ⟨rfl, rfl⟩)
    go_ret
    exact ⟨ret_bool HM.out.symm, (Below.refl _ _).alloc (Nat.le_refl _) _⟩
  · have i1 := inB_true h1
    cases h2 : inB m.height 1 6
    · have HM : Hid (isMapB m = false) := Lib.hid (by simp [isMapB, h2])
      go_enter Try.func101, Try.ntmps101
      go_wp2_with (go_at_call 77; refine (l1In_any _ _ _ _).mono ?_; rintro e w' ⟨rfl, rfl⟩)
      go_ret
      exact ⟨ret_bool HM.out.symm, (Below.refl _ _).alloc (Nat.le_refl _) _⟩
    · have i2 := inB_true h2
      have i3 := prod_bd i1 i2
      by_cases h3 : (n1 : Int) = m.width * m.height
      · by_cases h4 : n2 = n1
        · have hn1 : n1 ≤ 36 := by omega
          have b3 : ((n1 : Int) != m.width * m.height) = false := by simp; omega
          have b4 : ((n2 : Int) != (n1 : Int)) = false := by simp; omega
          have HM : Hid (isMapB m = (m.rise.all in09 && m.cost.all in09)) := Lib.hid (by simp [isMapB, h1, h2, h3, h4, hl1, hl2])
          obtain rfl : n2 = n1 := h4
          clear h3
          go_enter Try.func101, Try.ntmps101
          go_wp2_with (go_at_call 77; refine (l1In_any _ _ _ _).mono ?_; rintro e w' ⟨rfl, rfl⟩)
          have K0 : Below w.heap.size w _ := (Below.refl w.heap.size w).alloc (Nat.le_refl _) (.cells #[.int .i64 m.width, .int .i64 m.height, .slice A1 n2 c1, .slice A2 n2 c2] 29)
          go_loopw [3] (fun v wr => ∃ k : Nat, k ≤ n2 ∧ v = .int .i64 k ∧ Hid ((m.rise.take k).all in09 = true) ∧ Hid ((m.cost.take k).all in09 = true) ∧ wr = w.alloc (.cells #[.int .i64 m.width, .int .i64 m.height, .slice A1 n2 c1, .slice A2 n2 c2] 29)) (fun v _ => n2 - (intOf v).toNat)
          case atStart => exact ⟨0, Nat.zero_le _, rfl, by simp [Hid], by simp [Hid], rfl⟩
          case round =>
            obtain ⟨k, hk, rfl, hr, hc, rfl⟩ := hrel
            by_cases hlt : k < n2
            · obtain ⟨b, off, rfl, hkx, hcx⟩ := (hm.f1.next K0).int hlt
              obtain ⟨b', off', rfl, hky, hcy⟩ := (hm.f2.next K0).int hlt
              cases g1 : inB m.rise[k] 0 9
              · go_wp2_with (go_at_call 77; refine (l1In_any _ _ _ _).mono ?_; rintro e w' ⟨rfl, rfl⟩)
                go_ret
                exact ⟨ret_bool (by rw [HM.out, all_false hkx g1]; rfl), K0⟩
              · cases g2 : inB m.cost[k] 0 9
                · go_wp2_with (go_at_call 77; refine (l1In_any _ _ _ _).mono ?_; rintro e w' ⟨rfl, rfl⟩)
                  go_ret
                  exact ⟨ret_bool (by rw [HM.out, all_false hky g2, Bool.and_false]), K0⟩
                · go_wp2_with (go_at_call 77; refine (l1In_any _ _ _ _).mono ?_; rintro e w' ⟨rfl, rfl⟩)
                  go_roundw
                  case rel => exact ⟨k + 1, by omega, by go_num, all_take_succ hkx hr.out g1, all_take_succ hky hc.out g2, by first | rfl | trivial⟩
                  case measure => simp [intOf]; omega
            · go_wp2_with fail
              go_ret
              have h5 := hr.out
              have h6 := hc.out
              rw [List.take_of_length_le (by omega)] at h5 h6
              exact ⟨ret_bool (by rw [HM.out, h5, h6]; rfl), K0⟩
        · have b3 : ((n1 : Int) != m.width * m.height) = false := by simp; omega
          have b4 : ((n2 : Int) != (n1 : Int)) = true := by simp; omega
          have HM : Hid (isMapB m = false) := Lib.hid (by simp [isMapB, hl1, hl2, h4])
          clear h3 h4
          go_enter Try.func101, Try.ntmps101
          go_wp2_with (go_at_call 77; refine (l1In_any _ _ _ _).mono ?_; rintro e w' ⟨rfl, rfl⟩)
          go_ret
          exact ⟨ret_bool HM.out.symm, (Below.refl _ _).alloc (Nat.le_refl _) _⟩
      · have b3 : ((n1 : Int) != m.width * m.height) = true := by simp; omega
        have HM : Hid (isMapB m = false) := Lib.hid (by simp [isMapB, hl1, h3])
        clear h3
        go_enter Try.func101, Try.ntmps101
        go_wp2_with (go_at_call 77; refine (l1In_any _ _ _ _).mono ?_; rintro e w' ⟨rfl, rfl⟩)
        go_ret
        exact ⟨ret_bool HM.out.symm, (Below.refl _ _).alloc (Nat.le_refl _) _⟩

theorem isMapB_size {m : MapV} (h : isMapB m = true) : (m.rise.length : Int) = m.width * m.height ∧ m.cost.length = m.rise.length ∧ 1 ≤ m.width * m.height ∧ m.width * m.height ≤ 36 := by
  simp only [isMapB, Bool.and_eq_true, decide_eq_true_eq] at h
  obtain ⟨⟨⟨⟨h1, h2⟩, h3⟩, h4⟩, _⟩ := h
  exact ⟨h3, h4, prod_bd (inB_true h1) (inB_true h2)⟩
def isCellB (m : MapV) (c : Int) : Bool := isMapB m && inB c 0 ((m.cost.length : Int) - 1)
def missingB (m : MapV) (x : Missing) : Bool := isMapB m && isMissingB x.runner x.start x.seen x.place && inB x.place 0 ((m.cost.length : Int) - 1)

theorem l2Cell_any (A1 A2 : Option Addr) (n1 n2 c1 c2 : Nat) (m : MapV) (c : Int) (w : World) (hw : 1 ≤ m.width * m.height ∧ m.width * m.height ≤ 36) :
    Calls Try.prog 70 #[.agg #[.int .i64 m.width, .int .i64 m.height, .slice A1 n1 c1, .slice A2 n2 c2], .int .i64 c] w fun e w' => e = .returned (.bool (inB c 0 (m.width * m.height - 1))) ∧ Below w.heap.size w w' := by
  go_enter Try.func70, Try.ntmps70
  go_wp2_with (go_at_call 77; refine (l1In_any _ _ _ _).mono ?_; rintro e w' ⟨rfl, rfl⟩)
  go_ret
  exact ⟨rfl, (Below.refl _ _).alloc (Nat.le_refl _) _⟩

set_option maxRecDepth 100000 in
theorem isCell_any (A1 A2 : Option Addr) (n1 n2 c1 c2 : Nat) (m : MapV) (c : Int) (w : World) (hm : SeesMap w A1 n1 A2 n2 m) (hn : n1 ≤ 1048576 ∧ n2 ≤ 1048576) :
    Calls Try.prog 73 #[.agg #[.int .i64 m.width, .int .i64 m.height, .slice A1 n1 c1, .slice A2 n2 c2], .int .i64 c] w fun e w' => e = .returned (.bool (isCellB m c)) ∧ Below w.heap.size w w' := by
  have HL := Lib.hid hm.f2.icount
  go_enter Try.func73, Try.ntmps73
  go_wp2_with fail
  have K0 : Below w.heap.size w _ := (Below.refl w.heap.size w).alloc (Nat.le_refl _) (.cells #[.int .i64 m.width, .int .i64 m.height, .slice A1 n1 c1, .slice A2 n2 c2] 29)
  refine (IsMap_any _ _ _ _ _ _ _ _ (hm.next K0) hn).mono ?_
  cases g : isMapB m
  · rintro e w1 ⟨rfl, b1⟩
    go_wp2_with fail
    go_ret
    exact ⟨ret_bool (by simp [isCellB, g]), bel_then K0 b1⟩
  · rintro e w1 ⟨rfl, b1⟩
    have P1 : Blk w1 w.heap.size 29 [.int .i64 m.width, .int .i64 m.height, .slice A1 n1 c1, .slice A2 n2 c2] := (Blk.at_ rfl).next b1
    have p1 := P1.cell
    go_wp2_with (go_at_call 67; refine (inside_any _ _ _ _).mono ?_; rintro e w' ⟨rfl, rfl⟩)
    go_ret
    exact ⟨ret_bool (by simp [isCellB, g, HL.out]), bel_then K0 b1⟩

end Go.Proofs.Ytljiflbaknakaaa
