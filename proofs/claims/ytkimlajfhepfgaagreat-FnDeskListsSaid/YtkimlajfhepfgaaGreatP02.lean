/- Joined texts of this proof: Ints, Card, DeskF, DelF, ShelfCS, SortD, RankP. -/
import Derived.Shelf.Abstract
import Derived.Shelf.Small.Bits
import Derived.Shelf.Strconv.Itoa0
import Derived.Shelf.Sort.Plain
import Derived.Shelf.Slices.In.SortNone
import Derived.Test.YtkimlajfhepfgaaGreatChecked
import Derived.Test.YtkimlajfhepfgaaGreatP01
namespace Go.Proofs.YtkimlajfhepfgaaGreat
open Go.RowKit

def hasI (xs : List Int) (v : Int) : Bool := xs.any fun x => decide (v = x)
def risingAt (lo hi : Int) (xs : List Int) (k : Nat) : Bool :=
  match xs[k]? with
  | none => false
  | some x => inB x lo hi && (k == 0 || (match xs[k - 1]? with | none => false | some p => decide (p < x)))
def risingB (lo hi : Int) (xs : List Int) : Bool := allTo xs.length (risingAt lo hi xs)
theorem risingAt_in {lo hi : Int} {xs : List Int} {k : Nat} (hk : k < xs.length) (h : inB xs[k] lo hi = false) : risingAt lo hi xs k = false := by simp [risingAt, List.getElem?_eq_getElem hk, h]
theorem risingAt_zero {lo hi : Int} {xs : List Int} (hk : 0 < xs.length) (h : inB xs[0] lo hi = true) : risingAt lo hi xs 0 = true := by simp [risingAt, List.getElem?_eq_getElem hk, h]
theorem risingAt_succ {lo hi : Int} {xs : List Int} {k : Nat} (hk : k + 1 < xs.length) (h : inB xs[k + 1] lo hi = true) : risingAt lo hi xs (k + 1) = decide (xs[k] < xs[k + 1]) := by
  have hk' : k < xs.length := by omega
  simp [risingAt, List.getElem?_eq_getElem hk, List.getElem?_eq_getElem hk', h]

theorem l1Has_any (A : Option Addr) (n c : Nat) (xs : List Int) (v0 : Int) (w : World) (hx : Sees w 0 1 A n (ints xs)) (hn : n ≤ 140737488355328) :
    Calls Tryz.prog 69 #[.slice A n c, .int .i64 v0] w fun e w' => e = .returned (.bool (hasI xs v0)) ∧ Quiet w w' := by
  have hl := hx.icount
  go_enter Tryz.func69, Tryz.ntmps69
  go_wp2_with fail
  go_loopw [5] (fun v wr => ∃ k : Nat, k ≤ n ∧ v = .int .i64 k ∧ Hid ((xs.take k).any (fun x => decide (v0 = x)) = false) ∧ Quiet w wr) (fun v _ => n - (intOf v).toNat)
  case atStart => exact ⟨0, Nat.zero_le _, rfl, by simp [Hid], Quiet.refl _⟩
  case round =>
    obtain ⟨k, hk, rfl, ht, hq⟩ := hrel
    by_cases hlt : k < n
    · obtain ⟨b, off, rfl, hkx, hcx⟩ := (hx.quiet hq).int hlt
      by_cases hv : xs[k] = v0
      · have hv' : (xs[k] == v0) = true := by simp [hv]
        have HV := Lib.hid (show hasI xs v0 = true by rw [hasI, List.any_eq_true]; exact ⟨_, List.getElem_mem hkx, by simp [hv]⟩)
        clear hv
        go_wp2_with fail
        go_ret
        exact ⟨ret_bool HV.out.symm, hq⟩
      · have hv' : (xs[k] == v0) = false := by simp [hv]
        have HV := Lib.hid (any_take_succ hkx ht.out (by simp only [decide_eq_false_iff_not]; exact fun e => hv e.symm))
        clear hv
        go_wp2_with fail
        go_roundw
        case rel => exact ⟨k + 1, by omega, by go_num, HV, hq⟩
        case measure => simp [intOf]; omega
    · go_wp2_with fail
      go_ret
      have h := ht.out
      rw [List.take_of_length_le (by omega)] at h
      exact ⟨ret_bool h.symm, hq⟩

set_option maxRecDepth 100000 in
theorem l1Rising_any (A : Option Addr) (n c : Nat) (xs : List Int) (lo hi : Int) (w : World) (hx : Sees w 0 1 A n (ints xs)) (hn : n ≤ 1048576) :
    Calls Tryz.prog 76 #[.slice A n c, .int .i64 lo, .int .i64 hi] w fun e w' => e = .returned (.bool (risingB lo hi xs)) ∧ Quiet w w' := by
  have hl := hx.icount
  have HS : Hid (risingB lo hi xs = allTo n (risingAt lo hi xs)) := Lib.hid (by rw [risingB, hl])
  go_enter Tryz.func76, Tryz.ntmps76
  go_wp2_with fail
  go_loopw [7] (fun v wr => ∃ k : Nat, k ≤ n ∧ v = .int .i64 k ∧ Hid (allTo k (risingAt lo hi xs) = true) ∧ Quiet w wr) (fun v _ => n - (intOf v).toNat)
  case atStart => exact ⟨0, Nat.zero_le _, rfl, Lib.hid (allTo_zero _), Quiet.refl _⟩
  case round =>
    obtain ⟨k, hk, rfl, ht, hq⟩ := hrel
    by_cases hlt : k < n
    · obtain ⟨b, off, hA, hkx, x0⟩ := (hx.quiet hq).int hlt
      have HA := Lib.hid hA
      cases g1 : inB xs[k] lo hi
      · have HF := Lib.hid (allTo_false (n := n) (p := risingAt lo hi xs) hlt (risingAt_in hkx g1))
        subst hA
        go_wp2_with fail
        go_quiet ((go_at_call 77; exact quiet_left (l1In_any _ _ _ _)))
        go_wp2_with fail
        go_ret
        exact ⟨ret_bool (by rw [HS.out, HF.out]), hq.more _⟩
      · rcases Nat.eq_zero_or_pos k with hk0 | hk0
        · subst hk0
          have HT := Lib.hid (allTo_succ ht.out (risingAt_zero hkx g1))
          simp only [Nat.add_zero] at x0
          subst hA
          go_wp2_with fail
          go_quiet ((go_at_call 77; exact quiet_left (l1In_any _ _ _ _)))
          go_wp2_with fail
          go_roundw
          case rel => exact ⟨0 + 1, by omega, by go_num, HT, hq.more _⟩
          case measure => simp [intOf]; omega
        · obtain ⟨j, rfl⟩ : ∃ j, k = j + 1 := ⟨k - 1, by omega⟩
          have hz : decide ((0 : Int) < ((j + 1 : Nat) : Int)) = true := decide_eq_true (by omega)
          obtain ⟨b', off', hA', hjx, y0⟩ := (hx.quiet hq).int (show j < n by omega)
          rw [HA.out] at hA'
          injection hA' with hA'
          injection hA' with e1 e2
          subst e1 e2
          have hw1 : IntKind.i64.wrap (((j + 1 : Nat) : Int) - 1) = (j : Int) := by rw [IntWalk.i64_in _ (by omega)]; omega
          by_cases hlt2 : xs[j] < xs[j + 1]
          · have HT := Lib.hid (allTo_succ ht.out (by rw [risingAt_succ hkx g1]; simp [hlt2]))
            have hge : decide (xs[j + 1] ≤ xs[j]) = false := decide_eq_false (by omega)
            subst hA
            go_wp2_with fail
            go_quiet ((go_at_call 77; exact quiet_left (l1In_any _ _ _ _)))
            go_wp2_with fail
            go_roundw
            case rel => exact ⟨j + 1 + 1, by omega, by go_num, HT, hq.more _⟩
            case measure => simp [intOf]; omega
          · have HF := Lib.hid (allTo_false (n := n) (p := risingAt lo hi xs) hlt (by rw [risingAt_succ hkx g1]; simp [hlt2]))
            have hge : decide (xs[j + 1] ≤ xs[j]) = true := decide_eq_true (by omega)
            subst hA
            go_wp2_with fail
            go_quiet ((go_at_call 77; exact quiet_left (l1In_any _ _ _ _)))
            go_wp2_with fail
            go_ret
            exact ⟨ret_bool (by rw [HS.out, HF.out]), hq.more _⟩
    · obtain rfl : k = n := by omega
      go_wp2_with fail
      go_ret
      exact ⟨ret_bool (by rw [HS.out, ht.out]), hq⟩

set_option maxRecDepth 100000 in
theorem ascending_any (A : Option Addr) (n c : Nat) (xs : List Int) (lo hi : Int) (w : World) (hx : Sees w 0 1 A n (ints xs)) (hn : n ≤ 1048576) :
    Calls Tryz.prog 41 #[.slice A n c, .int .i64 lo, .int .i64 hi] w fun e w' => e = .returned (.bool (risingB lo hi xs)) ∧ Quiet w w' := by
  have hl := hx.icount
  have HS : Hid (risingB lo hi xs = allTo n (risingAt lo hi xs)) := Lib.hid (by rw [risingB, hl])
  go_enter Tryz.func41, Tryz.ntmps41
  go_wp2_with fail
  go_loopw [11] (fun v wr => ∃ k : Nat, k ≤ n ∧ v = .int .i64 k ∧ Hid (allTo k (risingAt lo hi xs) = true) ∧ Quiet w wr) (fun v _ => n - (intOf v).toNat)
  case atStart => exact ⟨0, Nat.zero_le _, rfl, Lib.hid (allTo_zero _), Quiet.refl _⟩
  case round =>
    obtain ⟨k, hk, rfl, ht, hq⟩ := hrel
    by_cases hlt : k < n
    · obtain ⟨b, off, hA, hkx, x0⟩ := (hx.quiet hq).int hlt
      have HA := Lib.hid hA
      cases g1 : inB xs[k] lo hi
      · have HF := Lib.hid (allTo_false (n := n) (p := risingAt lo hi xs) hlt (risingAt_in hkx g1))
        subst hA
        go_wp2_with (go_at_call 45; refine (inside_any _ _ _ _).mono ?_; rintro e w' ⟨rfl, rfl⟩)
        go_ret
        exact ⟨ret_bool (by rw [HS.out, HF.out]), hq⟩
      · rcases Nat.eq_zero_or_pos k with hk0 | hk0
        · subst hk0
          have HT := Lib.hid (allTo_succ ht.out (risingAt_zero hkx g1))
          simp only [Nat.add_zero] at x0
          subst hA
          go_wp2_with (go_at_call 45; refine (inside_any _ _ _ _).mono ?_; rintro e w' ⟨rfl, rfl⟩)
          go_roundw
          case rel => exact ⟨0 + 1, by omega, by go_num, HT, hq⟩
          case measure => simp [intOf]; omega
        · obtain ⟨j, rfl⟩ : ∃ j, k = j + 1 := ⟨k - 1, by omega⟩
          have hz : decide ((0 : Int) < ((j + 1 : Nat) : Int)) = true := decide_eq_true (by omega)
          obtain ⟨b', off', hA', hjx, y0⟩ := (hx.quiet hq).int (show j < n by omega)
          rw [HA.out] at hA'
          injection hA' with hA'
          injection hA' with e1 e2
          subst e1 e2
          have hw1 : IntKind.i64.wrap (((j + 1 : Nat) : Int) - 1) = (j : Int) := by rw [IntWalk.i64_in _ (by omega)]; omega
          by_cases hlt2 : xs[j] < xs[j + 1]
          · have HT := Lib.hid (allTo_succ ht.out (by rw [risingAt_succ hkx g1]; simp [hlt2]))
            have hge : decide (xs[j + 1] ≤ xs[j]) = false := decide_eq_false (by omega)
            subst hA
            go_wp2_with (go_at_call 45; refine (inside_any _ _ _ _).mono ?_; rintro e w' ⟨rfl, rfl⟩)
            go_roundw
            case rel => exact ⟨j + 1 + 1, by omega, by go_num, HT, hq⟩
            case measure => simp [intOf]; omega
          · have HF := Lib.hid (allTo_false (n := n) (p := risingAt lo hi xs) hlt (by rw [risingAt_succ hkx g1]; simp [hlt2]))
            have hge : decide (xs[j + 1] ≤ xs[j]) = true := decide_eq_true (by omega)
            subst hA
            go_wp2_with (go_at_call 45; refine (inside_any _ _ _ _).mono ?_; rintro e w' ⟨rfl, rfl⟩)
            go_ret
            exact ⟨ret_bool (by rw [HS.out, HF.out]), hq⟩
    · obtain rfl : k = n := by omega
      go_wp2_with fail
      go_ret
      exact ⟨ret_bool (by rw [HS.out, ht.out]), hq⟩

end Go.Proofs.YtkimlajfhepfgaaGreat

namespace Go.Proofs.YtkimlajfhepfgaaGreat
open Go.RowKit

def codeB (x : Int) : Bool := inB x 31 99
def codesB (xs : List Int) : Bool := decide (xs.length ≤ 12) && xs.all codeB
def punchB (x : Card) (p : Punch) (t : Int) : Bool := codeB p.code && inB p.time 0 36000 && decide (t ≤ p.time) && (decide (x.finish = -1) || decide (p.time ≤ x.finish))
def prevT (x : Card) : Nat → Int
 | 0 => x.start
 | k + 1 => match x.punches[k]? with | some p => p.time | none => 0
def okAt (x : Card) (k : Nat) : Bool := match x.punches[k]? with | some p => punchB x p (prevT x k) | none => true
def headB (x : Card) : Bool := inB x.number 1 9999 && inB x.start 0 36000 && (decide (x.finish = -1) || inB x.finish x.start 36000) && decide (x.punches.length ≤ 12)
def cardB (x : Card) : Bool := headB x && allTo x.punches.length (okAt x)
def finB (x : Card) : Bool := cardB x && decide (x.finish ≠ -1)
theorem prevT_succ {x : Card} {k : Nat} (hk : k < x.punches.length) : prevT x (k + 1) = x.punches[k].time := by simp [prevT, List.getElem?_eq_getElem hk]
theorem okAt_at {x : Card} {k : Nat} (hk : k < x.punches.length) : okAt x k = punchB x x.punches[k] (prevT x k) := by simp [okAt, List.getElem?_eq_getElem hk]
theorem headB_true {x : Card} (h : headB x = true) : inB x.number 1 9999 = true ∧ inB x.start 0 36000 = true ∧ (x.finish = -1 ∨ inB x.finish x.start 36000 = true) ∧ x.punches.length ≤ 12 := by
 unfold headB at h
 simp only [Bool.and_eq_true, Bool.or_eq_true, decide_eq_true_eq] at h
 exact ⟨h.1.1.1, h.1.1.2, h.1.2, h.2⟩
theorem inB_mk {n lo hi : Int} (h : lo ≤ n ∧ n ≤ hi) : inB n lo hi = true := by simp [inB, h]
theorem inB_no {n lo hi : Int} (h : ¬ (lo ≤ n ∧ n ≤ hi)) : inB n lo hi = false := by
 cases e : inB n lo hi with
 | false => rfl
 | true => exact absurd (inB_true e) h

theorem isCode_any (n : Int) (w : World) : Calls Tryz.prog 87 #[.int .i64 n] w fun e w' => e = .returned (.bool (codeB n)) ∧ w = w' := by
 go_enter Tryz.func87, Tryz.ntmps87
 go_wp2_with (go_at_call 45; refine (inside_any _ _ _ _).mono ?_; rintro e w' ⟨rfl, rfl⟩)
 go_ret
 exact ⟨rfl, rfl⟩

theorem l6Code_any (n : Int) (w : World) : Calls Tryz.prog 106 #[.int .i64 n] w fun e w' => e = .returned (.bool (codeB n)) ∧ w = w' := by
 go_enter Tryz.func106, Tryz.ntmps106
 go_wp2_with (go_at_call 77; refine (l1In_any _ _ _ _).mono ?_; rintro e w' ⟨rfl, rfl⟩)
 go_ret
 exact ⟨rfl, rfl⟩

theorem areCodes1_any (x : Int) (w : World) : Calls Tryz.prog 86 #[.int .i64 x] w fun e w' => e = .returned (.bool (!codeB x)) ∧ w = w' := by
 go_enter Tryz.func86, Tryz.ntmps86
 go_wp2_with (go_at_call 87; refine (isCode_any _ _).mono ?_; rintro e w' ⟨rfl, rfl⟩)
 go_ret
 exact ⟨rfl, rfl⟩
theorem areCodes1_answers (xs : List Int) (w : World) : Answers 86 #[] (.int .i64) (fun x => !codeB x) xs w :=
 ⟨enters_of Tryz.func86 (by kernel_rfl) rfl, fun i hi W _ => (areCodes1_any xs[i] W).mono fun e W' ⟨he, hw⟩ => ⟨he, hw ▸ Below.refl _ _⟩⟩
theorem not_any_allC {α : Type} (p : α → Bool) (l : List α) : (!l.any fun x => !p x) = l.all p := by
 induction l with
 | nil => rfl
 | cons x l ih => simp only [List.any_cons, List.all_cons, Bool.not_or, Bool.not_not, ih]

theorem areCodes_any (A : Option Addr) (n c : Nat) (xs : List Int) (w : World) (hx : Sees w 0 1 A n (ints xs)) (hn : n ≤ 1048576) :
  Calls Tryz.prog 40 #[.slice A n c] w fun e w' => e = .returned (.bool (codesB xs)) ∧ Below w.heap.size w w' := by
 have hl := hx.icount
 by_cases h : n ≤ 12
 ·have HR := Lib.hid (show codesB xs = xs.all codeB by simp [codesB, hl, h])
  have h12 : decide ((n : Int) ≤ 12) = true := decide_eq_true (by omega)
  go_enter Tryz.func40, Tryz.ntmps40
  go_wp2_with fail
  refine (ContainsFunc_int 86 #[] _ A n c xs _ hx (by omega) (areCodes1_answers xs _)).mono ?_
  rintro e w1 ⟨rfl, b1⟩
  go_wp2_with fail
  go_ret
  exact ⟨ret_bool (by rw [HR.out, ← not_any_allC]), b1⟩
 ·have HR := Lib.hid (show codesB xs = false by simp [codesB, hl, h])
  go_enter Tryz.func40, Tryz.ntmps40
  go_wp2_with fail
  go_ret
  exact ⟨ret_bool HR.out.symm, Below.refl _ _⟩

theorem l12Codes_any (A : Option Addr) (n c : Nat) (xs : List Int) (w : World) (hx : Sees w 0 1 A n (ints xs)) (hn : n ≤ 1048576) :
  Calls Tryz.prog 75 #[.slice A n c] w fun e w' => e = .returned (.bool (codesB xs)) ∧ w = w' := by
 have hl := hx.icount
 go_enter Tryz.func75, Tryz.ntmps75
 go_wp2_with fail
 go_loop [3] (fun i => ∃ k : Nat, k ≤ n ∧ i = .int .i64 k ∧ Hid ((xs.take k).all codeB = true)) (fun i => n - (intOf i).toNat)
 case atStart => exact ⟨0, Nat.zero_le _, rfl, Lib.hid rfl⟩
 case round =>
  obtain ⟨k, hk, rfl, HA⟩ := hrel
  by_cases hlt : k < n
  ·obtain ⟨b, off, rfl, hkx, c0⟩ := hx.int hlt
   cases hc : codeB xs[k]
   ·have HR := Lib.hid (show codesB xs = false by
     have : xs.all codeB = false := by rw [Bool.eq_false_iff]; intro h; have := List.all_eq_true.1 h xs[k] (List.getElem_mem hkx); rw [hc] at this; cases this
     simp [codesB, this])
    go_wp2_with (go_at_call 106; refine (l6Code_any _ _).mono ?_; rintro e w' ⟨rfl, rfl⟩)
    go_ret
    exact ⟨ret_bool HR.out.symm, rfl⟩
   ·have HA2 := Lib.hid (show (xs.take (k + 1)).all codeB = true by rw [List.take_succ_eq_append_getElem hkx, List.all_append, HA.out]; simp [hc])
    go_wp2_with (go_at_call 106; refine (l6Code_any _ _).mono ?_; rintro e w' ⟨rfl, rfl⟩)
    go_round
    case rel => exact ⟨k + 1, by omega, by go_num, HA2⟩
    case measure => simp [intOf]; omega
  ·have HR := Lib.hid (show codesB xs = decide ((n : Int) ≤ 12) by
    have h := HA.out
    rw [List.take_of_length_le (by omega)] at h
    simp only [codesB, h, hl, Bool.and_true, decide_eq_decide]
    omega)
   go_wp2_with fail
   go_ret
   exact ⟨ret_bool (by rw [HR.out]), rfl⟩

set_option maxRecDepth 100000 in
set_option maxHeartbeats 2000000 in
theorem IsCard_any (A : Option Addr) (n c lo : Nat) (x : Card) (w : World) (hx : Sees w lo 2 A n (x.punches.flatMap Punch.enc)) (hn : n ≤ 1048576) :
  Calls Tryz.prog 90 #[.agg #[.int .i64 x.number, .int .i64 x.start, .int .i64 x.finish, .slice A n c]] w fun e w' => e = .returned (.bool (cardB x)) ∧ Below w.heap.size w w' := by
 have hl := hx.count (by decide) (fun _ => rfl)
 have K0 : Below w.heap.size w (w.alloc (.cells #[.int .i64 x.number, .int .i64 x.start, .int .i64 x.finish, .slice A n c] 31)) := (Below.refl _ _).alloc (Nat.le_refl _) _
 have Bm0 : Blk (w.alloc (.cells #[.int .i64 x.number, .int .i64 x.start, .int .i64 x.finish, .slice A n c] 31)) w.heap.size 31 [.int .i64 x.number, .int .i64 x.start, .int .i64 x.finish, .slice A n c] := Blk.at_ rfl
 cases h1 : inB x.number 1 9999
 ·have HF := Lib.hid (show cardB x = false by simp [cardB, headB, h1])
  go_enter Tryz.func90, Tryz.ntmps90
  go_wp2_with (first | (go_at_call 45; refine (inside_any _ _ _ _).mono ?_; rintro e w' ⟨rfl, rfl⟩) | (go_at_call 46; refine (isTime_any _ _).mono ?_; rintro e w' ⟨rfl, rfl⟩) | (go_at_call 87; refine (isCode_any _ _).mono ?_; rintro e w' ⟨rfl, rfl⟩))
  go_ret
  exact ⟨ret_bool HF.out.symm, K0⟩
 cases h2 : inB x.start 0 36000
 ·have HF := Lib.hid (show cardB x = false by simp [cardB, headB, h2])
  go_enter Tryz.func90, Tryz.ntmps90
  go_wp2_with (first | (go_at_call 45; refine (inside_any _ _ _ _).mono ?_; rintro e w' ⟨rfl, rfl⟩) | (go_at_call 46; refine (isTime_any _ _).mono ?_; rintro e w' ⟨rfl, rfl⟩) | (go_at_call 87; refine (isCode_any _ _).mono ?_; rintro e w' ⟨rfl, rfl⟩))
  go_ret
  exact ⟨ret_bool HF.out.symm, K0⟩
 have h2b := inB_true h2
 by_cases h3 : x.finish = -1
 ·have f1 : (x.finish != -1) = false := by simp [h3]
  have f2 : (x.finish == -1) = true := by simp [h3]
  by_cases h4 : n ≤ 12
  ·have HC := Lib.hid (show cardB x = allTo n (okAt x) by simp [cardB, headB, h1, h2, h3, h4, hl])
   have HF3 := Lib.hid h3
   clear h3
   go_enter Tryz.func90, Tryz.ntmps90
   go_wp2_with (first | (go_at_call 45; refine (inside_any _ _ _ _).mono ?_; rintro e w' ⟨rfl, rfl⟩) | (go_at_call 46; refine (isTime_any _ _).mono ?_; rintro e w' ⟨rfl, rfl⟩) | (go_at_call 87; refine (isCode_any _ _).mono ?_; rintro e w' ⟨rfl, rfl⟩))
   go_loopw [3, 40] (fun t i wr => ∃ k : Nat, k ≤ n ∧ i = .int .i64 k ∧ t = .int .i64 (prevT x k) ∧ 0 ≤ prevT x k ∧ prevT x k ≤ 36000 ∧ Hid (allTo k (okAt x) = true) ∧ Blk wr w.heap.size 31 [.int .i64 x.number, .int .i64 x.start, .int .i64 x.finish, .slice A n c] ∧ Below w.heap.size w wr) (fun _ i _ => n - (intOf i).toNat)
   case atStart => exact ⟨0, Nat.zero_le _, rfl, rfl, h2b.1, h2b.2, Lib.hid rfl, Bm0, K0⟩
   case round =>
    obtain ⟨k, hk, rfl, rfl, hp0, hp1, HA, Bm, hb⟩ := hrel
    have cm := Bm.cell
    by_cases hlt : k < n
    ·obtain ⟨b, off, rfl, hkx, c0, c1⟩ := (hx.next hb).elem2 (fun _ => rfl) hlt
     have hblt := World.block_lt_of_cell? wr _ c0
     have K2 : Below w.heap.size w (wr.alloc (.cells #[.int .i64 x.punches[k].code, .int .i64 x.punches[k].time] 109)) := hb.alloc hb.size _
     have B2 := Bm.alloc (.cells #[.int .i64 x.punches[k].code, .int .i64 x.punches[k].time] 109)
     have HO := okAt_at hkx
     have HPS := Lib.hid (prevT_succ hkx)
     have hbm := Bm.lt
     cases g1 : codeB x.punches[k].code
     ·have HR := Lib.hid (show cardB x = false by rw [HC.out]; exact allTo_false hlt (HO.trans (by simp [punchB, g1])))
      clear HO
      go_wp2_with (first | (go_at_call 45; refine (inside_any _ _ _ _).mono ?_; rintro e w' ⟨rfl, rfl⟩) | (go_at_call 46; refine (isTime_any _ _).mono ?_; rintro e w' ⟨rfl, rfl⟩) | (go_at_call 87; refine (isCode_any _ _).mono ?_; rintro e w' ⟨rfl, rfl⟩))
      go_ret
      exact ⟨ret_bool HR.out.symm, K2⟩
     cases g2 : inB x.punches[k].time 0 36000
     ·have HR := Lib.hid (show cardB x = false by rw [HC.out]; exact allTo_false hlt (HO.trans (by simp [punchB, g2])))
      clear HO
      go_wp2_with (first | (go_at_call 45; refine (inside_any _ _ _ _).mono ?_; rintro e w' ⟨rfl, rfl⟩) | (go_at_call 46; refine (isTime_any _ _).mono ?_; rintro e w' ⟨rfl, rfl⟩) | (go_at_call 87; refine (isCode_any _ _).mono ?_; rintro e w' ⟨rfl, rfl⟩))
      go_ret
      exact ⟨ret_bool HR.out.symm, K2⟩
     by_cases g3 : prevT x k ≤ x.punches[k].time
     ·have g2b := inB_true g2
      have HA2 := Lib.hid (allTo_succ HA.out (HO.trans (by simp [punchB, g1, g2, g3, HF3.out])))
      clear HO
      go_wp2_with (first | (go_at_call 45; refine (inside_any _ _ _ _).mono ?_; rintro e w' ⟨rfl, rfl⟩) | (go_at_call 46; refine (isTime_any _ _).mono ?_; rintro e w' ⟨rfl, rfl⟩) | (go_at_call 87; refine (isCode_any _ _).mono ?_; rintro e w' ⟨rfl, rfl⟩))
      go_roundw
      case rel => exact ⟨k + 1, by omega, by go_num, by rw [HPS.out], by rw [HPS.out]; exact g2b.1, by rw [HPS.out]; exact g2b.2, HA2, B2, K2⟩
      case measure => simp [intOf]; omega
     ·have HR := Lib.hid (show cardB x = false by rw [HC.out]; exact allTo_false hlt (HO.trans (by simp [punchB, g3])))
      clear HO
      go_wp2_with (first | (go_at_call 45; refine (inside_any _ _ _ _).mono ?_; rintro e w' ⟨rfl, rfl⟩) | (go_at_call 46; refine (isTime_any _ _).mono ?_; rintro e w' ⟨rfl, rfl⟩) | (go_at_call 87; refine (isCode_any _ _).mono ?_; rintro e w' ⟨rfl, rfl⟩))
      go_ret
      exact ⟨ret_bool HR.out.symm, K2⟩
    ·obtain rfl : k = n := by omega
     go_wp2_with fail
     go_ret
     exact ⟨ret_bool (by rw [HC.out, HA.out]), hb⟩
  ·have HF := Lib.hid (show cardB x = false by simp [cardB, headB, h4, hl])
   clear h3
   go_enter Tryz.func90, Tryz.ntmps90
   go_wp2_with (first | (go_at_call 45; refine (inside_any _ _ _ _).mono ?_; rintro e w' ⟨rfl, rfl⟩) | (go_at_call 46; refine (isTime_any _ _).mono ?_; rintro e w' ⟨rfl, rfl⟩) | (go_at_call 87; refine (isCode_any _ _).mono ?_; rintro e w' ⟨rfl, rfl⟩))
   go_ret
   exact ⟨ret_bool HF.out.symm, K0⟩
 ·have f1 : (x.finish != -1) = true := by simp [h3]
  have f2 : (x.finish == -1) = false := by simp [h3]
  cases h5 : inB x.finish x.start 36000
  ·have HF := Lib.hid (show cardB x = false by simp [cardB, headB, h3, h5])
   clear h3
   go_enter Tryz.func90, Tryz.ntmps90
   go_wp2_with (first | (go_at_call 45; refine (inside_any _ _ _ _).mono ?_; rintro e w' ⟨rfl, rfl⟩) | (go_at_call 46; refine (isTime_any _ _).mono ?_; rintro e w' ⟨rfl, rfl⟩) | (go_at_call 87; refine (isCode_any _ _).mono ?_; rintro e w' ⟨rfl, rfl⟩))
   go_ret
   exact ⟨ret_bool HF.out.symm, K0⟩
  by_cases h4 : n ≤ 12
  ·have HC := Lib.hid (show cardB x = allTo n (okAt x) by simp [cardB, headB, h1, h2, h5, h4, hl])
   have HF3 := Lib.hid h3
   clear h3
   go_enter Tryz.func90, Tryz.ntmps90
   go_wp2_with (first | (go_at_call 45; refine (inside_any _ _ _ _).mono ?_; rintro e w' ⟨rfl, rfl⟩) | (go_at_call 46; refine (isTime_any _ _).mono ?_; rintro e w' ⟨rfl, rfl⟩) | (go_at_call 87; refine (isCode_any _ _).mono ?_; rintro e w' ⟨rfl, rfl⟩))
   go_loopw [3, 40] (fun t i wr => ∃ k : Nat, k ≤ n ∧ i = .int .i64 k ∧ t = .int .i64 (prevT x k) ∧ 0 ≤ prevT x k ∧ prevT x k ≤ 36000 ∧ Hid (allTo k (okAt x) = true) ∧ Blk wr w.heap.size 31 [.int .i64 x.number, .int .i64 x.start, .int .i64 x.finish, .slice A n c] ∧ Below w.heap.size w wr) (fun _ i _ => n - (intOf i).toNat)
   case atStart => exact ⟨0, Nat.zero_le _, rfl, rfl, h2b.1, h2b.2, Lib.hid rfl, Bm0, K0⟩
   case round =>
    obtain ⟨k, hk, rfl, rfl, hp0, hp1, HA, Bm, hb⟩ := hrel
    have cm := Bm.cell
    by_cases hlt : k < n
    ·obtain ⟨b, off, rfl, hkx, c0, c1⟩ := (hx.next hb).elem2 (fun _ => rfl) hlt
     have hblt := World.block_lt_of_cell? wr _ c0
     have K2 : Below w.heap.size w (wr.alloc (.cells #[.int .i64 x.punches[k].code, .int .i64 x.punches[k].time] 109)) := hb.alloc hb.size _
     have B2 := Bm.alloc (.cells #[.int .i64 x.punches[k].code, .int .i64 x.punches[k].time] 109)
     have HO := okAt_at hkx
     have HPS := Lib.hid (prevT_succ hkx)
     have hbm := Bm.lt
     cases g1 : codeB x.punches[k].code
     ·have HR := Lib.hid (show cardB x = false by rw [HC.out]; exact allTo_false hlt (HO.trans (by simp [punchB, g1])))
      clear HO
      go_wp2_with (first | (go_at_call 45; refine (inside_any _ _ _ _).mono ?_; rintro e w' ⟨rfl, rfl⟩) | (go_at_call 46; refine (isTime_any _ _).mono ?_; rintro e w' ⟨rfl, rfl⟩) | (go_at_call 87; refine (isCode_any _ _).mono ?_; rintro e w' ⟨rfl, rfl⟩))
      go_ret
      exact ⟨ret_bool HR.out.symm, K2⟩
     cases g2 : inB x.punches[k].time 0 36000
     ·have HR := Lib.hid (show cardB x = false by rw [HC.out]; exact allTo_false hlt (HO.trans (by simp [punchB, g2])))
      clear HO
      go_wp2_with (first | (go_at_call 45; refine (inside_any _ _ _ _).mono ?_; rintro e w' ⟨rfl, rfl⟩) | (go_at_call 46; refine (isTime_any _ _).mono ?_; rintro e w' ⟨rfl, rfl⟩) | (go_at_call 87; refine (isCode_any _ _).mono ?_; rintro e w' ⟨rfl, rfl⟩))
      go_ret
      exact ⟨ret_bool HR.out.symm, K2⟩
     by_cases g3 : prevT x k ≤ x.punches[k].time
     ·have g2b := inB_true g2
      by_cases g4 : x.punches[k].time ≤ x.finish
      ·have HA2 := Lib.hid (allTo_succ HA.out (HO.trans (by simp [punchB, g1, g2, g3, g4])))
       clear HO
       go_wp2_with (first | (go_at_call 45; refine (inside_any _ _ _ _).mono ?_; rintro e w' ⟨rfl, rfl⟩) | (go_at_call 46; refine (isTime_any _ _).mono ?_; rintro e w' ⟨rfl, rfl⟩) | (go_at_call 87; refine (isCode_any _ _).mono ?_; rintro e w' ⟨rfl, rfl⟩))
       go_roundw
       case rel => exact ⟨k + 1, by omega, by go_num, by rw [HPS.out], by rw [HPS.out]; exact g2b.1, by rw [HPS.out]; exact g2b.2, HA2, B2, K2⟩
       case measure => simp [intOf]; omega
      ·have HR := Lib.hid (show cardB x = false by rw [HC.out]; exact allTo_false hlt (HO.trans (by simp [punchB, g4, HF3.out])))
       clear HO
       go_wp2_with (first | (go_at_call 45; refine (inside_any _ _ _ _).mono ?_; rintro e w' ⟨rfl, rfl⟩) | (go_at_call 46; refine (isTime_any _ _).mono ?_; rintro e w' ⟨rfl, rfl⟩) | (go_at_call 87; refine (isCode_any _ _).mono ?_; rintro e w' ⟨rfl, rfl⟩))
       go_ret
       exact ⟨ret_bool HR.out.symm, K2⟩
     ·have HR := Lib.hid (show cardB x = false by rw [HC.out]; exact allTo_false hlt (HO.trans (by simp [punchB, g3])))
      clear HO
      go_wp2_with (first | (go_at_call 45; refine (inside_any _ _ _ _).mono ?_; rintro e w' ⟨rfl, rfl⟩) | (go_at_call 46; refine (isTime_any _ _).mono ?_; rintro e w' ⟨rfl, rfl⟩) | (go_at_call 87; refine (isCode_any _ _).mono ?_; rintro e w' ⟨rfl, rfl⟩))
      go_ret
      exact ⟨ret_bool HR.out.symm, K2⟩
    ·obtain rfl : k = n := by omega
     go_wp2_with fail
     go_ret
     exact ⟨ret_bool (by rw [HC.out, HA.out]), hb⟩
  ·have HF := Lib.hid (show cardB x = false by simp [cardB, headB, h4, hl])
   clear h3
   go_enter Tryz.func90, Tryz.ntmps90
   go_wp2_with (first | (go_at_call 45; refine (inside_any _ _ _ _).mono ?_; rintro e w' ⟨rfl, rfl⟩) | (go_at_call 46; refine (isTime_any _ _).mono ?_; rintro e w' ⟨rfl, rfl⟩) | (go_at_call 87; refine (isCode_any _ _).mono ?_; rintro e w' ⟨rfl, rfl⟩))
   go_ret
   exact ⟨ret_bool HF.out.symm, K0⟩

set_option maxRecDepth 100000 in
set_option maxHeartbeats 2000000 in
theorem l12Card_any (A : Option Addr) (n c lo : Nat) (x : Card) (w : World) (hx : Sees w lo 2 A n (x.punches.flatMap Punch.enc)) (hn : n ≤ 1048576) :
  Calls Tryz.prog 80 #[.agg #[.int .i64 x.number, .int .i64 x.start, .int .i64 x.finish, .slice A n c]] w fun e w' => e = .returned (.bool (cardB x)) ∧ Below w.heap.size w w' := by
 have hl := hx.count (by decide) (fun _ => rfl)
 have K0 : Below w.heap.size w (w.alloc (.cells #[.int .i64 x.number, .int .i64 x.start, .int .i64 x.finish, .slice A n c] 31)) := (Below.refl _ _).alloc (Nat.le_refl _) _
 have Bm0 : Blk (w.alloc (.cells #[.int .i64 x.number, .int .i64 x.start, .int .i64 x.finish, .slice A n c] 31)) w.heap.size 31 [.int .i64 x.number, .int .i64 x.start, .int .i64 x.finish, .slice A n c] := Blk.at_ rfl
 cases h1 : inB x.number 1 9999
 ·have HF := Lib.hid (show cardB x = false by simp [cardB, headB, h1])
  go_enter Tryz.func80, Tryz.ntmps80
  go_wp2_with (first | (go_at_call 77; refine (l1In_any _ _ _ _).mono ?_; rintro e w' ⟨rfl, rfl⟩) | (go_at_call 78; refine (l12Time_any _ _).mono ?_; rintro e w' ⟨rfl, rfl⟩) | (go_at_call 106; refine (l6Code_any _ _).mono ?_; rintro e w' ⟨rfl, rfl⟩))
  go_ret
  exact ⟨ret_bool HF.out.symm, K0⟩
 cases h2 : inB x.start 0 36000
 ·have HF := Lib.hid (show cardB x = false by simp [cardB, headB, h2])
  go_enter Tryz.func80, Tryz.ntmps80
  go_wp2_with (first | (go_at_call 77; refine (l1In_any _ _ _ _).mono ?_; rintro e w' ⟨rfl, rfl⟩) | (go_at_call 78; refine (l12Time_any _ _).mono ?_; rintro e w' ⟨rfl, rfl⟩) | (go_at_call 106; refine (l6Code_any _ _).mono ?_; rintro e w' ⟨rfl, rfl⟩))
  go_ret
  exact ⟨ret_bool HF.out.symm, K0⟩
 have h2b := inB_true h2
 by_cases h3 : x.finish = -1
 ·have f1 : (x.finish != -1) = false := by simp [h3]
  have f2 : (x.finish == -1) = true := by simp [h3]
  by_cases h4 : n ≤ 12
  ·have HC := Lib.hid (show cardB x = allTo n (okAt x) by simp [cardB, headB, h1, h2, h3, h4, hl])
   have HF3 := Lib.hid h3
   clear h3
   go_enter Tryz.func80, Tryz.ntmps80
   go_wp2_with (first | (go_at_call 77; refine (l1In_any _ _ _ _).mono ?_; rintro e w' ⟨rfl, rfl⟩) | (go_at_call 78; refine (l12Time_any _ _).mono ?_; rintro e w' ⟨rfl, rfl⟩) | (go_at_call 106; refine (l6Code_any _ _).mono ?_; rintro e w' ⟨rfl, rfl⟩))
   go_loopw [3, 4] (fun t i wr => ∃ k : Nat, k ≤ n ∧ i = .int .i64 k ∧ t = .int .i64 (prevT x k) ∧ 0 ≤ prevT x k ∧ prevT x k ≤ 36000 ∧ Hid (allTo k (okAt x) = true) ∧ Blk wr w.heap.size 31 [.int .i64 x.number, .int .i64 x.start, .int .i64 x.finish, .slice A n c] ∧ Below w.heap.size w wr) (fun _ i _ => n - (intOf i).toNat)
   case atStart => exact ⟨0, Nat.zero_le _, rfl, rfl, h2b.1, h2b.2, Lib.hid rfl, Bm0, K0⟩
   case round =>
    obtain ⟨k, hk, rfl, rfl, hp0, hp1, HA, Bm, hb⟩ := hrel
    have cm := Bm.cell
    by_cases hlt : k < n
    ·obtain ⟨b, off, rfl, hkx, c0, c1⟩ := (hx.next hb).elem2 (fun _ => rfl) hlt
     have hblt := World.block_lt_of_cell? wr _ c0
     have K2 : Below w.heap.size w (wr.alloc (.cells #[.int .i64 x.punches[k].code, .int .i64 x.punches[k].time] 109)) := hb.alloc hb.size _
     have B2 := Bm.alloc (.cells #[.int .i64 x.punches[k].code, .int .i64 x.punches[k].time] 109)
     have HO := okAt_at hkx
     have HPS := Lib.hid (prevT_succ hkx)
     have hbm := Bm.lt
     cases g1 : codeB x.punches[k].code
     ·have HR := Lib.hid (show cardB x = false by rw [HC.out]; exact allTo_false hlt (HO.trans (by simp [punchB, g1])))
      clear HO
      go_wp2_with (first | (go_at_call 77; refine (l1In_any _ _ _ _).mono ?_; rintro e w' ⟨rfl, rfl⟩) | (go_at_call 78; refine (l12Time_any _ _).mono ?_; rintro e w' ⟨rfl, rfl⟩) | (go_at_call 106; refine (l6Code_any _ _).mono ?_; rintro e w' ⟨rfl, rfl⟩))
      go_ret
      exact ⟨ret_bool HR.out.symm, K2⟩
     cases g2 : inB x.punches[k].time 0 36000
     ·have HR := Lib.hid (show cardB x = false by rw [HC.out]; exact allTo_false hlt (HO.trans (by simp [punchB, g2])))
      clear HO
      have e2 : inB x.punches[k].time (prevT x k) 36000 = false := inB_no (fun h => by rw [inB_mk (⟨by omega, h.2⟩ : 0 ≤ x.punches[k].time ∧ x.punches[k].time ≤ 36000)] at g2; cases g2)
      go_wp2_with (first | (go_at_call 77; refine (l1In_any _ _ _ _).mono ?_; rintro e w' ⟨rfl, rfl⟩) | (go_at_call 78; refine (l12Time_any _ _).mono ?_; rintro e w' ⟨rfl, rfl⟩) | (go_at_call 106; refine (l6Code_any _ _).mono ?_; rintro e w' ⟨rfl, rfl⟩))
      go_ret
      exact ⟨ret_bool HR.out.symm, K2⟩
     by_cases g3 : prevT x k ≤ x.punches[k].time
     ·have g2b := inB_true g2
      have e2 : inB x.punches[k].time (prevT x k) 36000 = true := inB_mk ⟨g3, g2b.2⟩
      have HA2 := Lib.hid (allTo_succ HA.out (HO.trans (by simp [punchB, g1, g2, g3, HF3.out])))
      clear HO
      go_wp2_with (first | (go_at_call 77; refine (l1In_any _ _ _ _).mono ?_; rintro e w' ⟨rfl, rfl⟩) | (go_at_call 78; refine (l12Time_any _ _).mono ?_; rintro e w' ⟨rfl, rfl⟩) | (go_at_call 106; refine (l6Code_any _ _).mono ?_; rintro e w' ⟨rfl, rfl⟩))
      go_roundw
      case rel => exact ⟨k + 1, by omega, by go_num, by rw [HPS.out], by rw [HPS.out]; exact g2b.1, by rw [HPS.out]; exact g2b.2, HA2, B2, K2⟩
      case measure => simp [intOf]; omega
     ·have HR := Lib.hid (show cardB x = false by rw [HC.out]; exact allTo_false hlt (HO.trans (by simp [punchB, g3])))
      clear HO
      have e2 : inB x.punches[k].time (prevT x k) 36000 = false := inB_no (fun h => g3 h.1)
      go_wp2_with (first | (go_at_call 77; refine (l1In_any _ _ _ _).mono ?_; rintro e w' ⟨rfl, rfl⟩) | (go_at_call 78; refine (l12Time_any _ _).mono ?_; rintro e w' ⟨rfl, rfl⟩) | (go_at_call 106; refine (l6Code_any _ _).mono ?_; rintro e w' ⟨rfl, rfl⟩))
      go_ret
      exact ⟨ret_bool HR.out.symm, K2⟩
    ·obtain rfl : k = n := by omega
     go_wp2_with fail
     go_ret
     exact ⟨ret_bool (by rw [HC.out, HA.out]), hb⟩
  ·have HF := Lib.hid (show cardB x = false by simp [cardB, headB, h4, hl])
   clear h3
   go_enter Tryz.func80, Tryz.ntmps80
   go_wp2_with (first | (go_at_call 77; refine (l1In_any _ _ _ _).mono ?_; rintro e w' ⟨rfl, rfl⟩) | (go_at_call 78; refine (l12Time_any _ _).mono ?_; rintro e w' ⟨rfl, rfl⟩) | (go_at_call 106; refine (l6Code_any _ _).mono ?_; rintro e w' ⟨rfl, rfl⟩))
   go_ret
   exact ⟨ret_bool HF.out.symm, K0⟩
 ·have f1 : (x.finish != -1) = true := by simp [h3]
  have f2 : (x.finish == -1) = false := by simp [h3]
  cases h5 : inB x.finish x.start 36000
  ·have HF := Lib.hid (show cardB x = false by simp [cardB, headB, h3, h5])
   clear h3
   go_enter Tryz.func80, Tryz.ntmps80
   go_wp2_with (first | (go_at_call 77; refine (l1In_any _ _ _ _).mono ?_; rintro e w' ⟨rfl, rfl⟩) | (go_at_call 78; refine (l12Time_any _ _).mono ?_; rintro e w' ⟨rfl, rfl⟩) | (go_at_call 106; refine (l6Code_any _ _).mono ?_; rintro e w' ⟨rfl, rfl⟩))
   go_ret
   exact ⟨ret_bool HF.out.symm, K0⟩
  by_cases h4 : n ≤ 12
  ·have HC := Lib.hid (show cardB x = allTo n (okAt x) by simp [cardB, headB, h1, h2, h5, h4, hl])
   have HF3 := Lib.hid h3
   clear h3
   go_enter Tryz.func80, Tryz.ntmps80
   go_wp2_with (first | (go_at_call 77; refine (l1In_any _ _ _ _).mono ?_; rintro e w' ⟨rfl, rfl⟩) | (go_at_call 78; refine (l12Time_any _ _).mono ?_; rintro e w' ⟨rfl, rfl⟩) | (go_at_call 106; refine (l6Code_any _ _).mono ?_; rintro e w' ⟨rfl, rfl⟩))
   go_loopw [3, 4] (fun t i wr => ∃ k : Nat, k ≤ n ∧ i = .int .i64 k ∧ t = .int .i64 (prevT x k) ∧ 0 ≤ prevT x k ∧ prevT x k ≤ 36000 ∧ Hid (allTo k (okAt x) = true) ∧ Blk wr w.heap.size 31 [.int .i64 x.number, .int .i64 x.start, .int .i64 x.finish, .slice A n c] ∧ Below w.heap.size w wr) (fun _ i _ => n - (intOf i).toNat)
   case atStart => exact ⟨0, Nat.zero_le _, rfl, rfl, h2b.1, h2b.2, Lib.hid rfl, Bm0, K0⟩
   case round =>
    obtain ⟨k, hk, rfl, rfl, hp0, hp1, HA, Bm, hb⟩ := hrel
    have cm := Bm.cell
    by_cases hlt : k < n
    ·obtain ⟨b, off, rfl, hkx, c0, c1⟩ := (hx.next hb).elem2 (fun _ => rfl) hlt
     have hblt := World.block_lt_of_cell? wr _ c0
     have K2 : Below w.heap.size w (wr.alloc (.cells #[.int .i64 x.punches[k].code, .int .i64 x.punches[k].time] 109)) := hb.alloc hb.size _
     have B2 := Bm.alloc (.cells #[.int .i64 x.punches[k].code, .int .i64 x.punches[k].time] 109)
     have HO := okAt_at hkx
     have HPS := Lib.hid (prevT_succ hkx)
     have hbm := Bm.lt
     cases g1 : codeB x.punches[k].code
     ·have HR := Lib.hid (show cardB x = false by rw [HC.out]; exact allTo_false hlt (HO.trans (by simp [punchB, g1])))
      clear HO
      go_wp2_with (first | (go_at_call 77; refine (l1In_any _ _ _ _).mono ?_; rintro e w' ⟨rfl, rfl⟩) | (go_at_call 78; refine (l12Time_any _ _).mono ?_; rintro e w' ⟨rfl, rfl⟩) | (go_at_call 106; refine (l6Code_any _ _).mono ?_; rintro e w' ⟨rfl, rfl⟩))
      go_ret
      exact ⟨ret_bool HR.out.symm, K2⟩
     cases g2 : inB x.punches[k].time 0 36000
     ·have HR := Lib.hid (show cardB x = false by rw [HC.out]; exact allTo_false hlt (HO.trans (by simp [punchB, g2])))
      clear HO
      have e2 : inB x.punches[k].time (prevT x k) 36000 = false := inB_no (fun h => by rw [inB_mk (⟨by omega, h.2⟩ : 0 ≤ x.punches[k].time ∧ x.punches[k].time ≤ 36000)] at g2; cases g2)
      go_wp2_with (first | (go_at_call 77; refine (l1In_any _ _ _ _).mono ?_; rintro e w' ⟨rfl, rfl⟩) | (go_at_call 78; refine (l12Time_any _ _).mono ?_; rintro e w' ⟨rfl, rfl⟩) | (go_at_call 106; refine (l6Code_any _ _).mono ?_; rintro e w' ⟨rfl, rfl⟩))
      go_ret
      exact ⟨ret_bool HR.out.symm, K2⟩
     by_cases g3 : prevT x k ≤ x.punches[k].time
     ·have g2b := inB_true g2
      have e2 : inB x.punches[k].time (prevT x k) 36000 = true := inB_mk ⟨g3, g2b.2⟩
      by_cases g4 : x.punches[k].time ≤ x.finish
      ·have HA2 := Lib.hid (allTo_succ HA.out (HO.trans (by simp [punchB, g1, g2, g3, g4])))
       clear HO
       go_wp2_with (first | (go_at_call 77; refine (l1In_any _ _ _ _).mono ?_; rintro e w' ⟨rfl, rfl⟩) | (go_at_call 78; refine (l12Time_any _ _).mono ?_; rintro e w' ⟨rfl, rfl⟩) | (go_at_call 106; refine (l6Code_any _ _).mono ?_; rintro e w' ⟨rfl, rfl⟩))
       go_roundw
       case rel => exact ⟨k + 1, by omega, by go_num, by rw [HPS.out], by rw [HPS.out]; exact g2b.1, by rw [HPS.out]; exact g2b.2, HA2, B2, K2⟩
       case measure => simp [intOf]; omega
      ·have HR := Lib.hid (show cardB x = false by rw [HC.out]; exact allTo_false hlt (HO.trans (by simp [punchB, g4, HF3.out])))
       clear HO
       go_wp2_with (first | (go_at_call 77; refine (l1In_any _ _ _ _).mono ?_; rintro e w' ⟨rfl, rfl⟩) | (go_at_call 78; refine (l12Time_any _ _).mono ?_; rintro e w' ⟨rfl, rfl⟩) | (go_at_call 106; refine (l6Code_any _ _).mono ?_; rintro e w' ⟨rfl, rfl⟩))
       go_ret
       exact ⟨ret_bool HR.out.symm, K2⟩
     ·have HR := Lib.hid (show cardB x = false by rw [HC.out]; exact allTo_false hlt (HO.trans (by simp [punchB, g3])))
      clear HO
      have e2 : inB x.punches[k].time (prevT x k) 36000 = false := inB_no (fun h => g3 h.1)
      go_wp2_with (first | (go_at_call 77; refine (l1In_any _ _ _ _).mono ?_; rintro e w' ⟨rfl, rfl⟩) | (go_at_call 78; refine (l12Time_any _ _).mono ?_; rintro e w' ⟨rfl, rfl⟩) | (go_at_call 106; refine (l6Code_any _ _).mono ?_; rintro e w' ⟨rfl, rfl⟩))
      go_ret
      exact ⟨ret_bool HR.out.symm, K2⟩
    ·obtain rfl : k = n := by omega
     go_wp2_with fail
     go_ret
     exact ⟨ret_bool (by rw [HC.out, HA.out]), hb⟩
  ·have HF := Lib.hid (show cardB x = false by simp [cardB, headB, h4, hl])
   clear h3
   go_enter Tryz.func80, Tryz.ntmps80
   go_wp2_with (first | (go_at_call 77; refine (l1In_any _ _ _ _).mono ?_; rintro e w' ⟨rfl, rfl⟩) | (go_at_call 78; refine (l12Time_any _ _).mono ?_; rintro e w' ⟨rfl, rfl⟩) | (go_at_call 106; refine (l6Code_any _ _).mono ?_; rintro e w' ⟨rfl, rfl⟩))
   go_ret
   exact ⟨ret_bool HF.out.symm, K0⟩

end Go.Proofs.YtkimlajfhepfgaaGreat

namespace Go.Proofs.YtkimlajfhepfgaaGreat
open Go.RowKit

def isNo (v : Int) (r : DeskRow) : Bool := decide (r.number = v)
def doneB (rows : List DeskRow) (v : Int) : Bool := rows.any (isNo v)
def rowB (known : List Int) (before : List DeskRow) (r : DeskRow) : Bool := hasI known r.number && !doneB before r.number && inB r.missing 0 12 && inB r.time 0 36000
def rowAt (d : DeskV) (j : Nat) : Bool := match d.done[j]? with | some r => rowB d.known (d.done.take j) r | none => true
def topB (d : DeskV) : Bool := codesB d.codes && decide (d.known.length ≤ 8) && risingB 1 9999 d.known && d.queue.all finB && d.trouble.all finB && decide (d.queue.length + d.done.length + d.trouble.length ≤ 10)
def deskB (d : DeskV) : Bool := topB d && allTo d.done.length (rowAt d)
theorem rowAt_at {d : DeskV} {k : Nat} (hk : k < d.done.length) : rowAt d k = rowB d.known (d.done.take k) d.done[k] := by simp [rowAt, List.getElem?_eq_getElem hk]
theorem topB_not {d : DeskV} (h : topB d = false) : deskB d = false := by simp [deskB, h]
theorem SeesFlat.take {α : Type} {enc : α → List Value} {w : World} {lo s n : Nat} {A : Option Addr} {xs : List α} (h : Sees w lo s A n (xs.flatMap enc)) (hs : 0 < s) (henc : ∀ x, (enc x).length = s) (k : Nat) (hk : k ≤ n) : Sees w lo s A k ((xs.take k).flatMap enc) := by
  have hc := h.count hs henc
  refine ⟨by rw [flatMap_len _ (fun x _ => henc x), List.length_take]; congr 1; omega, fun hk0 => ?_⟩
  obtain ⟨b, off, e, h1, h2, h3⟩ := h.at' (by omega)
  refine ⟨b, off, e, h1, h2, fun j u hu => h3 j u ?_⟩
  have hj := (List.getElem?_eq_some_iff.1 hu).1
  conv => lhs; rw [← List.take_append_drop k xs, List.flatMap_append, List.getElem?_append_left hj]
  exact hu
theorem Contains_has (A : Option Addr) (n c : Nat) (xs : List Int) (v : Int) (w : World) (hx : Sees w 0 1 A n (ints xs)) (hn : n ≤ 140737488355328) :
    Calls Tryz.prog 43 #[.slice A n c, .int .i64 v] w fun e w' => e = .returned (.bool (hasI xs v)) ∧ Quiet w w' := Contains_int A n c xs v w hx hn

set_option maxRecDepth 100000 in
theorem IndexFunc_Card (g : Nat) (lb : Array Value) (p : Hd Card → Bool) (A : Option Addr) (n c : Nat) (xs : List (Hd Card)) (w : World) (hx : Sees w 0 4 A n (xs.flatMap cardSh.enc)) (hn : n ≤ 140737488355328) (hp : Answers g lb (fun x : Hd Card => .agg (cardSh.enc x).toArray) p xs w) :
    Calls Tryz.prog 108 #[.slice A n c, .func (.func g) #[] lb] w fun e w' => ∃ r, e = .returned (.int .i64 r) ∧ FirstAt p xs r ∧ Below w.heap.size w w' := by
  have hl := hx.count (enc := cardSh.enc) (by decide) (fun _ => rfl)
  have eg := hp.enters
  go_enter Tryz.func108, Tryz.ntmps108
  go_wp2_with fail
  go_loopw [8] (fun v wr => ∃ k : Nat, k ≤ n ∧ v = .int .i64 k ∧ Hid ((xs.take k).any p = false) ∧ Below w.heap.size w wr) (fun v _ => n - (intOf v).toNat)
  case atStart => exact ⟨0, Nat.zero_le _, rfl, by simp [Hid], Below.refl _ _⟩
  case round =>
    obtain ⟨k, hk, rfl, ht, hb⟩ := hrel
    by_cases hlt : k < n
    · obtain ⟨b, off, rfl, hkx, c0, c1, c2, c3⟩ := Sees.elem4 (enc := cardSh.enc) (hx.next hb) (fun _ => rfl) hlt
      go_wp2_with fail
      refine (hp.at' k hkx _ hb).mono ?_
      cases hpk : p xs[k]
      · rintro e w1 ⟨rfl, b1⟩
        go_wp2_with fail
        go_roundw
        case rel => exact ⟨k + 1, by omega, by go_num, any_take_succ hkx ht.out hpk, bel_then hb b1⟩
        case measure => simp [intOf]; omega
      · rintro e w1 ⟨rfl, b1⟩
        go_wp2_with fail
        go_ret
        exact ⟨_, rfl, .inr ⟨k, rfl, hkx, hpk, ht.out⟩, bel_then hb b1⟩
    · go_wp2_with fail
      go_ret
      have h := ht.out
      rw [List.take_of_length_le (by omega)] at h
      exact ⟨_, rfl, .inl ⟨rfl, h⟩, hb⟩

theorem ContainsFunc_Card (g : Nat) (lb : Array Value) (p : Hd Card → Bool) (A : Option Addr) (n c : Nat) (xs : List (Hd Card)) (w : World) (hx : Sees w 0 4 A n (xs.flatMap cardSh.enc)) (hn : n ≤ 140737488355328) (hp : Answers g lb (fun x : Hd Card => .agg (cardSh.enc x).toArray) p xs w) :
    Calls Tryz.prog 88 #[.slice A n c, .func (.func g) #[] lb] w fun e w' => e = .returned (.bool (xs.any p)) ∧ Below w.heap.size w w' := by
  go_enter Tryz.func88, Tryz.ntmps88
  go_wp2_with fail
  refine (IndexFunc_Card g lb p A n c xs w hx hn hp).mono ?_
  rintro e w1 ⟨r, rfl, hr, b1⟩
  have hany := Lib.hid hr.any
  go_wp2_with fail
  all_goals go_ret
  all_goals exact ⟨ret_bool hany.out, b1⟩


set_option maxRecDepth 100000 in
theorem IndexFunc_DeskRow (g : Nat) (lb : Array Value) (p : DeskRow → Bool) (A : Option Addr) (n c : Nat) (xs : List DeskRow) (w : World) (hx : Sees w 0 3 A n (xs.flatMap DeskRow.enc)) (hn : n ≤ 140737488355328) (hp : Answers g lb (fun x : DeskRow => .agg x.enc.toArray) p xs w) :
    Calls Tryz.prog 109 #[.slice A n c, .func (.func g) #[] lb] w fun e w' => ∃ r, e = .returned (.int .i64 r) ∧ FirstAt p xs r ∧ Below w.heap.size w w' := by
  have hl := hx.count (by decide) (fun _ => rfl)
  have eg := hp.enters
  go_enter Tryz.func109, Tryz.ntmps109
  go_wp2_with fail
  go_loopw [8] (fun v wr => ∃ k : Nat, k ≤ n ∧ v = .int .i64 k ∧ Hid ((xs.take k).any p = false) ∧ Below w.heap.size w wr) (fun v _ => n - (intOf v).toNat)
  case atStart => exact ⟨0, Nat.zero_le _, rfl, by simp [Hid], Below.refl _ _⟩
  case round =>
    obtain ⟨k, hk, rfl, ht, hb⟩ := hrel
    by_cases hlt : k < n
    · obtain ⟨b, off, rfl, hkx, c0, c1, c2⟩ := (hx.next hb).elem3 (fun _ => rfl) hlt
      go_wp2_with fail
      refine (hp.at' k hkx _ hb).mono ?_
      cases hpk : p xs[k]
      · rintro e w1 ⟨rfl, b1⟩
        go_wp2_with fail
        go_roundw
        case rel => exact ⟨k + 1, by omega, by go_num, any_take_succ hkx ht.out hpk, bel_then hb b1⟩
        case measure => simp [intOf]; omega
      · rintro e w1 ⟨rfl, b1⟩
        go_wp2_with fail
        go_ret
        exact ⟨_, rfl, .inr ⟨k, rfl, hkx, hpk, ht.out⟩, bel_then hb b1⟩
    · go_wp2_with fail
      go_ret
      have h := ht.out
      rw [List.take_of_length_le (by omega)] at h
      exact ⟨_, rfl, .inl ⟨rfl, h⟩, hb⟩

theorem ContainsFunc_DeskRow (g : Nat) (lb : Array Value) (p : DeskRow → Bool) (A : Option Addr) (n c : Nat) (xs : List DeskRow) (w : World) (hx : Sees w 0 3 A n (xs.flatMap DeskRow.enc)) (hn : n ≤ 140737488355328) (hp : Answers g lb (fun x : DeskRow => .agg x.enc.toArray) p xs w) :
    Calls Tryz.prog 92 #[.slice A n c, .func (.func g) #[] lb] w fun e w' => e = .returned (.bool (xs.any p)) ∧ Below w.heap.size w w' := by
  go_enter Tryz.func92, Tryz.ntmps92
  go_wp2_with fail
  refine (IndexFunc_DeskRow g lb p A n c xs w hx hn hp).mono ?_
  rintro e w1 ⟨r, rfl, hr, b1⟩
  have hany := Lib.hid hr.any
  go_wp2_with fail
  all_goals go_ret
  all_goals exact ⟨ret_bool hany.out, b1⟩


theorem areFinished1_any (A : Option Addr) (n c : Nat) (x : Card) (w : World) (hx : Sees w 0 2 A n (x.punches.flatMap Punch.enc)) (hn : n ≤ 1048576) :
    Calls Tryz.prog 89 #[.agg #[.int .i64 x.number, .int .i64 x.start, .int .i64 x.finish, .slice A n c]] w fun e w' => e = .returned (.bool (!finB x)) ∧ Below w.heap.size w w' := by
  have K0 : Below w.heap.size w (w.alloc (.cells #[.int .i64 x.number, .int .i64 x.start, .int .i64 x.finish, .slice A n c] 31)) := (Below.refl _ _).alloc (Nat.le_refl _) _
  have B0 : Blk (w.alloc (.cells #[.int .i64 x.number, .int .i64 x.start, .int .i64 x.finish, .slice A n c] 31)) w.heap.size 31 [.int .i64 x.number, .int .i64 x.start, .int .i64 x.finish, .slice A n c] := Blk.at_ rfl
  cases hc : cardB x
  · have HF := Lib.hid (show (!finB x) = true by simp [finB, hc])
    go_enter Tryz.func89, Tryz.ntmps89
    go_wp2_with fail
    refine (IsCard_any A n c 0 x _ (hx.next K0) hn).mono ?_
    rw [hc]
    rintro e w1 ⟨rfl, b1⟩
    have c1 := (B0.next b1).cell
    go_wp2_with fail
    go_ret
    exact ⟨ret_bool HF.out.symm, bel_then K0 b1⟩
  · by_cases hf : x.finish = -1
    · have HF := Lib.hid (show (!finB x) = true by simp [finB, hf])
      have e1 : (x.finish == -1) = true := by simp [hf]
      clear hf
      go_enter Tryz.func89, Tryz.ntmps89
      go_wp2_with fail
      refine (IsCard_any A n c 0 x _ (hx.next K0) hn).mono ?_
      rw [hc]
      rintro e w1 ⟨rfl, b1⟩
      have c1 := (B0.next b1).cell
      go_wp2_with fail
      go_ret
      exact ⟨ret_bool HF.out.symm, bel_then K0 b1⟩
    · have HF := Lib.hid (show (!finB x) = false by simp [finB, hf, hc])
      have e1 : (x.finish == -1) = false := by simp [hf]
      clear hf
      go_enter Tryz.func89, Tryz.ntmps89
      go_wp2_with fail
      refine (IsCard_any A n c 0 x _ (hx.next K0) hn).mono ?_
      rw [hc]
      rintro e w1 ⟨rfl, b1⟩
      have c1 := (B0.next b1).cell
      go_wp2_with fail
      go_ret
      exact ⟨ret_bool HF.out.symm, bel_then K0 b1⟩
theorem areFinished1_answers (rs : List (Hd Card)) (w : World) (hr : ∀ r ∈ rs, Sees w 0 2 r.A r.n (r.x.punches.flatMap Punch.enc) ∧ r.n ≤ 1048576) :
    Answers 89 #[] (fun x : Hd Card => .agg (cardSh.enc x).toArray) (fun r => !finB r.x) rs w :=
  ⟨enters_of Tryz.func89 (by kernel_rfl) rfl, fun i hi W hb => areFinished1_any rs[i].A rs[i].n rs[i].c rs[i].x W ((hr rs[i] (List.getElem_mem hi)).1.next hb) (hr rs[i] (List.getElem_mem hi)).2⟩

theorem areFinished_any (A : Option Addr) (n c : Nat) (xs : List Card) (w : World) (hx : SeesN cardSh w 0 A n xs) (hn : n ≤ 1048576) (hi : ∀ x ∈ xs, x.cnt ≤ 1048576) :
    Calls Tryz.prog 42 #[.slice A n c] w fun e w' => e = .returned (.bool (xs.all finB)) ∧ Below w.heap.size w w' := by
  obtain ⟨rs, hrs, ho, hin⟩ := hx
  have HR := Lib.hid (show (!rs.any fun r => !finB r.x) = xs.all finB by rw [not_any_allC (fun r : Hd Card => finB r.x), ← hrs, List.all_map]; rfl)
  have hq : ∀ r ∈ rs, Sees w 0 2 r.A r.n (r.x.punches.flatMap Punch.enc) ∧ r.n ≤ 1048576 := fun r hr => ⟨hin r hr, by
    have h1 := (hin r hr).count (by decide) (fun _ => rfl)
    have h2 := hi r.x (by rw [← hrs]; exact List.mem_map_of_mem hr)
    unfold Card.cnt at h2
    omega⟩
  have ans := areFinished1_answers rs w hq
  clear hq hin hrs
  go_enter Tryz.func42, Tryz.ntmps42
  go_wp2_with fail
  refine (ContainsFunc_Card 89 #[] _ A n c rs _ ho (by omega) ans).mono ?_
  generalize (rs.any fun r => !finB r.x) = z at *
  rintro e w1 ⟨rfl, b1⟩
  go_wp2_with fail
  go_ret
  exact ⟨ret_bool HR.out, b1⟩

theorem isDone1_any (r : DeskRow) (v : Int) (B : Nat) (w : World) (h1 : w.cell? ⟨B, 0, none⟩ = some (.int .i64 v)) (hB : B < w.heap.size) :
    Calls Tryz.prog 93 #[.agg #[.int .i64 r.number, .int .i64 r.missing, .int .i64 r.time], .pointer (some ⟨B, 0, none⟩)] w fun e w' => e = .returned (.bool (isNo v r)) ∧ Below w.heap.size w w' := by
  have K0 : Below w.heap.size w (w.alloc (.cells #[.int .i64 r.number, .int .i64 r.missing, .int .i64 r.time] 41)) := (Below.refl _ _).alloc (Nat.le_refl _) _
  have HE := Lib.hid (show isNo v r = (r.number == v) by rw [isNo, Bool.eq_iff_iff]; simp)
  go_enter Tryz.func93, Tryz.ntmps93
  go_wp2_with fail
  go_ret
  exact ⟨ret_bool HE.out.symm, K0⟩
theorem isDone1_answers (rows : List DeskRow) (v : Int) (B : Nat) (w : World) (h1 : Blk w B 3 [.int .i64 v]) :
    Answers 93 #[.pointer (some ⟨B, 0, none⟩)] (fun x : DeskRow => .agg x.enc.toArray) (isNo v) rows w :=
  ⟨enters_of Tryz.func93 (by kernel_rfl) rfl, fun i hi W hb => isDone1_any rows[i] v B W ((h1.next hb).cell 0) (h1.next hb).lt⟩

theorem isDone_any (A : Option Addr) (n c : Nat) (rows : List DeskRow) (v : Int) (w : World) (hx : Sees w 0 3 A n (rows.flatMap DeskRow.enc)) (hn : n ≤ 1048576) :
    Calls Tryz.prog 44 #[.slice A n c, .int .i64 v] w fun e w' => e = .returned (.bool (doneB rows v)) ∧ Below w.heap.size w w' := by
  have hmf : ∀ (fn : Fn) (first cap : Array Value) (w : World), (Instr.makeFunc fn first cap).run Tryz.prog w = .ok (.func fn first cap) w := fun _ _ _ _ => rfl
  have K0 : Below w.heap.size w (w.alloc (.cells #[.int .i64 v] 3)) := (Below.refl _ _).alloc (Nat.le_refl _) _
  have B0 : Blk (w.alloc (.cells #[.int .i64 v] 3)) w.heap.size 3 [.int .i64 v] := Blk.at_ rfl
  have ans := isDone1_answers rows v _ _ B0
  have hx' := hx.next K0
  clear B0
  go_enter Tryz.func44, Tryz.ntmps44
  go_wp2_with fail
  refine (ContainsFunc_DeskRow 93 #[.pointer (some ⟨w.heap.size, 0, none⟩)] _ A n c rows _ hx' (by omega) ans).mono ?_
  rintro e w1 ⟨rfl, b1⟩
  go_wp2_with fail
  go_ret
  exact ⟨rfl, bel_then K0 b1⟩

theorem l25Done_any (A : Option Addr) (n c : Nat) (rows : List DeskRow) (v : Int) (w : World) (hx : Sees w 0 3 A n (rows.flatMap DeskRow.enc)) (hn : n ≤ 1048576) :
    Calls Tryz.prog 65 #[.slice A n c, .int .i64 v] w fun e w' => e = .returned (.bool (doneB rows v)) ∧ w = w' := by
  have hl := hx.count (by decide) (fun _ => rfl)
  go_enter Tryz.func65, Tryz.ntmps65
  go_wp2_with fail
  go_loop [5] (fun i => ∃ k : Nat, k ≤ n ∧ i = .int .i64 k ∧ Hid (doneB (rows.take k) v = false)) (fun i => n - (intOf i).toNat)
  case atStart => exact ⟨0, Nat.zero_le _, rfl, Lib.hid rfl⟩
  case round =>
    obtain ⟨k, hk, rfl, HA⟩ := hrel
    by_cases hlt : k < n
    · obtain ⟨b, off, rfl, hkx, c0, c1, c2⟩ := hx.elem3 (fun _ => rfl) hlt
      by_cases hc : rows[k].number = v
      · have HR := Lib.hid (show doneB rows v = true from List.any_eq_true.2 ⟨rows[k], List.getElem_mem hkx, by simp [isNo, hc]⟩)
        have e1 : (rows[k].number == v) = true := by simp [hc]
        clear hc
        go_wp2_with fail
        go_ret
        exact ⟨ret_bool HR.out.symm, rfl⟩
      · have HA2 := Lib.hid (show doneB (rows.take (k + 1)) v = false from any_take_succ hkx HA.out (by simp [isNo, hc]))
        have e1 : (rows[k].number == v) = false := by simp [hc]
        clear hc
        go_wp2_with fail
        go_round
        case rel => exact ⟨k + 1, by omega, by go_num, HA2⟩
        case measure => simp [intOf]; omega
    · have HR := Lib.hid (show doneB rows v = false by
        have h := HA.out
        rwa [List.take_of_length_le (by omega)] at h)
      go_wp2_with fail
      go_ret
      exact ⟨ret_bool HR.out.symm, rfl⟩

set_option maxRecDepth 100000 in
theorem l25Cards_any (A : Option Addr) (n c : Nat) (xs : List Card) (w : World) (hx : SeesN cardSh w 0 A n xs) (hn : n ≤ 1048576) (hi : ∀ x ∈ xs, x.cnt ≤ 1048576) :
    Calls Tryz.prog 79 #[.slice A n c] w fun e w' => e = .returned (.bool (xs.all finB)) ∧ Below w.heap.size w w' := by
  have hl := hx.count
  go_enter Tryz.func79, Tryz.ntmps79
  go_wp2_with fail
  go_loopw [3] (fun i wr => ∃ k : Nat, k ≤ n ∧ i = .int .i64 k ∧ Hid ((xs.take k).all finB = true) ∧ Below w.heap.size w wr) (fun i _ => n - (intOf i).toNat)
  case atStart => exact ⟨0, Nat.zero_le _, rfl, Lib.hid rfl, Below.refl _ _⟩
  case round =>
    obtain ⟨k, hk, rfl, HA, hb⟩ := hrel
    by_cases hlt : k < n
    · obtain ⟨b, off, B0, mc, cc0, rfl, hkx, x0, x1, x2, x3, hxi⟩ := SeesCard.elem (hx.next hb) hlt
      have hmc := hxi.count (by decide) (fun _ => rfl)
      have hmb : mc ≤ 1048576 := by
        have h1 := hi xs[k] (List.getElem_mem hkx)
        unfold Card.cnt at h1
        omega
      have hblt : b < wr.heap.size := World.block_lt_of_cell? wr _ x0
      have HMC := Lib.hid hmc
      clear hmc
      have HNO := Lib.hid (fun h : finB xs[k] = false => show xs.all finB = false by rw [Bool.eq_false_iff]; intro h2; have := List.all_eq_true.1 h2 xs[k] (List.getElem_mem hkx); rw [h] at this; cases this)
      have HYES := Lib.hid (fun h : finB xs[k] = true => show (xs.take (k + 1)).all finB = true by rw [List.take_succ_eq_append_getElem hkx, List.all_append, HA.out]; simp [h])
      go_wp2_with fail
      refine (l12Card_any B0 mc cc0 0 xs[k] _ hxi hmb).mono ?_
      cases g1 : cardB xs[k]
      · rintro e w1 ⟨rfl, b1⟩
        have HR := Lib.hid (HNO.out (by simp [finB, g1]))
        clear HNO HYES
        go_wp2_with fail
        go_ret
        exact ⟨ret_bool HR.out.symm, bel_then hb b1⟩
      · rintro e w1 ⟨rfl, b1⟩
        have y2 := ((bcell b1).1 _ (off + k * 4 + 2) hblt).trans x2
        by_cases hf : xs[k].finish = -1
        · have HR := Lib.hid (HNO.out (by simp [finB, hf]))
          have e1 : (xs[k].finish == -1) = true := by simp [hf]
          clear HNO HYES hf
          go_wp2_with fail
          go_ret
          exact ⟨ret_bool HR.out.symm, bel_then hb b1⟩
        · have HA2 := Lib.hid (HYES.out (by simp [finB, g1, hf]))
          have e1 : (xs[k].finish == -1) = false := by simp [hf]
          clear HNO HYES hf
          go_wp2_with fail
          go_roundw
          case rel => exact ⟨k + 1, by omega, by go_num, HA2, bel_then hb b1⟩
          case measure => simp [intOf]; omega
    · have HR := Lib.hid (show xs.all finB = true by
        have h := HA.out
        rwa [List.take_of_length_le (by omega)] at h)
      go_wp2_with fail
      go_ret
      exact ⟨ret_bool HR.out.symm, hb⟩

end Go.Proofs.YtkimlajfhepfgaaGreat

namespace Go.Proofs.YtkimlajfhepfgaaGreat
open Go.RowKit

theorem own_row {w : World} {base t s n c : Nat} {A : Option Addr} {cs : List Value} (h : w.ownsRow base t s (.slice A n c) n cs) : (A = none ∧ n = 0 ∧ c = 0 ∧ cs = []) ∨ ∃ (g : Nat) (rest : List Value), A = some ⟨g, 0, none⟩ ∧ base ≤ g ∧ Blk w g t (cs ++ rest) ∧ (cs ++ rest).length = c * s ∧ n ≤ c ∧ c ≤ maxLen := by
  rcases own_open h with h1 | ⟨g, cur, h1, h2, h3, h4, h5, h6, h7⟩
  · exact .inl h1
  · refine .inr ⟨g, cur.drop (n * s), h1, h2, ?_, ?_, h5, h6⟩
    · rw [← h7, List.take_append_drop]; exact h3
    · rw [← h7, List.take_append_drop]; exact h4
theorem own_row_mk {w : World} {base t s n c g : Nat} {cs rest : List Value} (hg : base ≤ g) (hB : Blk w g t (cs ++ rest)) (hl : (cs ++ rest).length = c * s) (hn : n ≤ c) (hm : c ≤ maxLen) (hc : cs.length = n * s) : w.ownsRow base t s (.slice (some ⟨g, 0, none⟩) n c) n cs :=
  own_shut hg hB hl hn hm (by rw [← hc, List.take_left'] ; rfl)
set_option maxRecDepth 100000 in
set_option maxHeartbeats 1000000 in
theorem setCells_many (g : Nat) : ∀ (vs : List Value) (i : Nat) (w : World), w.setCells g i vs = setManyW w g i vs
  | [], _, _ => rfl
  | v :: vs, i, w => by
    rw [World.setCells, setManyW, setCells_many g vs (i + 1)]
theorem run_clear {P : Program} (w : World) (t e : TypeId) (z : Value) (s : Nat) (ht : P.underlying t = some (.slice e)) (hv : ∀ w, (zeroValue e).run P w = .ok z w) (hz : z.cells.size = s) (h1 : ∀ v ∈ z.cells, v.oneCell' = true) (b o n c : Nat) (hn : 0 < n) (cs : List Value) (tt : TypeId) (hB : Blk w b tt cs) (hr : o + n * s ≤ cs.length) :
    ∃ zs : List Value, zs.length = n * s ∧ ∀ ty, (Builtin.clear_ #[t] ty #[.slice (some ⟨b, o, none⟩) n c]).run P w = .ok (.tuple #[]) (setManyW w b o zs) := by
  refine ⟨(Builtin.zeroCells z.cells n).toList, by simp [Builtin.zeroCells, hz], fun ty => ?_⟩
  have hlen : (Builtin.zeroCells z.cells n).toList.length = n * s := by simp [Builtin.zeroCells, hz]
  have hst := run_storeCells_cells (P := P) b o (Builtin.zeroCells z.cells n).toList 0 w (fun j hj => by rw [Nat.add_zero, hB.cell, List.getElem?_eq_getElem (by omega)]; rfl) (fun j _ => hB.frozen _) (fun v hv' => by
    simp only [Builtin.zeroCells, Array.toList_map, Array.toList_range, List.mem_map, List.mem_range] at hv'
    obtain ⟨i, hi, rfl⟩ := hv'
    have hp : 0 < z.cells.size := by rcases Nat.eq_zero_or_pos z.cells.size with h | h; · rw [h] at hi; omega
                                     · exact h
    have hm := Nat.mod_lt i hp
    rw [getElem!_pos z.cells _ hm]
    exact h1 _ (Array.getElem_mem hm))
  simp only [Nat.add_zero] at hst
  rw [setCells_many] at hst
  obtain ⟨m, rfl⟩ : ∃ m, n = m + 1 := ⟨n - 1, by omega⟩
  simp [Builtin.clear_, run_underlying ht, hv, hst]
/-- The function value answers p at each element, in every world in which blocks of S alone have changed. -/
structure AnswersO {α : Type} (g : Nat) (lb : Array Value) (enc : α → Value) (p : α → Bool) (xs : List α) (S : Nat → Prop) (w : World) : Prop where
  enters : ∀ args w, (callFunc g args).run Tryz.prog w = .ok (.enter g args) w
  at' : ∀ (x : α), x ∈ xs → ∀ W : World, Only S w W → Calls Tryz.prog g (#[enc x] ++ lb) W fun e W' => e = .returned (.bool (p x)) ∧ Below W.heap.size W W'
theorem AnswersO.plain {α : Type} {g : Nat} {lb : Array Value} {enc : α → Value} {p : α → Bool} {xs : List α} {S : Nat → Prop} {w : World} (h : AnswersO g lb enc p xs S w) : Answers g lb enc p xs w :=
  ⟨h.enters, fun i hi W hb => h.at' xs[i] (List.getElem_mem hi) W (Only.of_below hb)⟩
theorem setMany_before {α : Type} (vs cs : List α) (k : Nat) (h : k + vs.length ≤ cs.length) : (setMany cs k vs).take k = cs.take k := by
  refine List.ext_getElem? fun j => ?_
  rw [List.getElem?_take, List.getElem?_take]
  by_cases hj : j < k
  · rw [if_pos hj, if_pos hj, setMany_get _ _ _ _ h, if_neg (by omega)]
  · rw [if_neg hj, if_neg hj]
theorem row_take {α : Type} {enc : α → List Value} {s : Nat} (henc : ∀ x, (enc x).length = s) (ys : List α) (rest : List Value) (i : Nat) (hi : i ≤ ys.length) : (ys.flatMap enc ++ rest).take (i * s) = (ys.take i).flatMap enc := by
  have e1 : ys.flatMap enc ++ rest = (ys.take i).flatMap enc ++ ((ys.drop i).flatMap enc ++ rest) := by rw [← List.append_assoc, ← List.flatMap_append, List.take_append_drop]
  rw [e1, List.take_left' (by rw [flatMap_len _ (fun x _ => henc x), List.length_take, show min i ys.length = i by omega])]
theorem filter_next {α : Type} {p : α → Bool} {xs : List α} {k : Nat} (hk : k < xs.length) : (xs.take (k + 1)).filter p = if p xs[k] then (xs.take k).filter p ++ [xs[k]] else (xs.take k).filter p := by
  rw [List.take_succ_eq_append_getElem hk, List.filter_append]
  by_cases h : p xs[k] <;> simp [h]
theorem take_set_snoc {α : Type} {ys : List α} {i : Nat} (v : α) (hi : i < ys.length) : (ys.set i v).take (i + 1) = ys.take i ++ [v] := by
  rw [List.take_succ_eq_append_getElem (by simpa using hi), List.take_set_of_le (Nat.le_refl i)]
  simp
def intC (x : Int) : List Value := [.int .i64 x]
theorem flatMap_intC (xs : List Int) : xs.flatMap intC = ints xs := by
  induction xs with
  | nil => rfl
  | cons x l ih => rw [List.flatMap_cons, ih]; rfl
set_option maxRecDepth 100000 in
set_option maxHeartbeats 4000000 in
theorem DeleteFunc_intC (g : Nat) (lb : Array Value) (p : Int → Bool) (base t n c : Nat) (A : Option Addr) (xs : List Int) (w : World) (hO : w.ownsRow base t 1 (.slice A n c) n (xs.flatMap intC)) (hn1 : n ≤ 1000)
    (hp : AnswersO g lb (Value.int .i64) p xs (OwnB A) w) :
    Calls Tryz.prog 57 #[.slice A n c, .func (.func g) #[] lb] w fun e w' => e = .returned (.slice A (xs.filter fun x => !p x).length c) ∧ w'.ownsRow base t 1 (.slice A (xs.filter fun x => !p x).length c) (xs.filter fun x => !p x).length ((xs.filter fun x => !p x).flatMap intC) ∧ Only (OwnB A) w w' := by
  have hlen : xs.length = n := (Sees.of_own hO).count (by decide) (fun _ => rfl)
  have eg := hp.enters
  have HL := Lib.hid hlen
  go_enter Tryz.func57, Tryz.ntmps57
  go_wp2_with fail
  refine (IndexFunc_int g lb p A n c xs w (by rw [← flatMap_intC]; exact (Sees.of_own hO).less (Nat.zero_le _)) (by omega) hp.plain).mono ?_
  rintro e w1 ⟨r, rfl, hr, b1⟩
  have O1 := own_below hO b1
  have h1 := Only.of_below (S := OwnB A) b1
  clear b1 hlen
  rcases hr with ⟨rfl, hno⟩ | ⟨k, rfl, hk, hpk, hbefore⟩
  · have hf : (xs.filter fun x => !p x) = xs := by
      rw [List.filter_eq_self]
      intro x hx
      have := List.any_eq_false.1 hno x hx
      simpa using this
    have HF := Lib.hid hf
    clear hf hno hO
    go_wp2_with fail
    go_ret
    rw [HF.out, HL.out]
    exact ⟨rfl, O1, h1⟩
  · have hkn : k < n := by rw [← HL.out]; exact hk
    have hF0 := Lib.hid (show (xs.take (k + 1)).filter (fun x => !p x) = xs.take k by
      rw [filter_next hk, if_neg (by simp [hpk]), List.filter_eq_self]
      intro x hx
      have := List.any_eq_false.1 hbefore x hx
      simpa using this)
    rcases own_row O1 with ⟨_, h, _⟩ | ⟨blk, rest, rfl, hg, hB, hl, hnc, hm⟩
    · omega
    have hS : ∀ b, b = blk → OwnB (some ⟨blk, 0, none⟩) b := fun b h => by subst h; rfl
    have HLL := Lib.hid hl
    have hk3 : ((k : Int) == -1) = false := beq_eq_false_iff_ne.2 (by omega)
    clear hO O1 hpk hbefore hl
    go_wp2_with fail
    go_loopw [5, 6] (fun iv jv wr => ∃ (i j : Nat) (ys : List Int), iv = .int .i64 (i : Int) ∧ jv = .int .i64 (j : Int) ∧ i < j ∧ j ≤ n ∧ Hid (ys.length = n ∧ ys.take i = (xs.take j).filter (fun x => !p x) ∧ ys.drop j = xs.drop j) ∧ Blk wr blk t (ys.flatMap intC ++ rest) ∧ Only (OwnB (some ⟨blk, 0, none⟩)) w wr) (fun _ jv _ => n - (intOf jv).toNat)
    case atStart => exact ⟨k, k + 1, xs, rfl, by go_num, by omega, by omega, Lib.hid ⟨HL.out, hF0.out.symm, rfl⟩, hB, h1⟩
    case round =>
      obtain ⟨i, j, ys, rfl, rfl, hij, hj, HY, B, o⟩ := hrel
      clear hB h1
      by_cases hlt : j < n
      · have hjx : j < xs.length := by rw [HL.out]; exact hlt
        have HX := Lib.hid (filter_next (p := fun x => !p x) hjx)
        have gx0 : ys[j]? = some xs[j] := by
          have e1 := congrArg (fun l => l[0]?) HY.out.2.2
          simp only [List.getElem?_drop, Nat.add_zero] at e1
          rw [e1, List.getElem?_eq_getElem hjx]
        have HIN := Lib.hid (List.getElem_mem hjx)
        obtain ⟨x, hx⟩ : ∃ x, xs[j] = x := ⟨_, rfl⟩
        rw [hx] at gx0
        have gx := gx0
        clear gx0
        have x0 : wr.cell? ⟨blk, j, none⟩ = some (.int .i64 x) := by have h := row_cell? (enc := intC) (s := 1) (k := j) (fun _ => rfl) B gx 0 _ rfl; rwa [show j * 1 + 0 = j from Nat.mul_one j] at h
        have hblt := B.lt
        clear gx
        have B2 := B
        have o2 := o
        have HXX := Lib.hid hx
        clear B o hx
        go_wp2_with fail
        refine (hp.at' x (by rw [← HXX.out]; exact HIN.out) _ o2).mono ?_
        rintro e w3 ⟨rfl, b3⟩
        have B3 := B2.next b3
        have o3 := o2.then_ b3
        clear B2 o2 b3 x0
        cases hpx : p x
        · have hil : i < ys.length := by rw [HY.out.1]; omega
          have gz := List.getElem?_eq_getElem hil
          obtain ⟨z, hz⟩ : ∃ z, ys[i] = z := ⟨_, rfl⟩
          rw [hz] at gz
          have z0 : w3.cell? ⟨blk, i, none⟩ = some (.int .i64 z) := by have h := row_cell? (enc := intC) (s := 1) (k := i) (fun _ => rfl) B3 gz 0 _ rfl; rwa [show i * 1 + 0 = i from Nat.mul_one i] at h
          have f0 := B3.frozen i
          have HFX := Lib.hid (show (ys.set i x).length = n ∧ (ys.set i x).take (i + 1) = (xs.take (j + 1)).filter (fun x => !p x) ∧ (ys.set i x).drop (j + 1) = xs.drop (j + 1) from ⟨by rw [List.length_set]; exact HY.out.1, by rw [take_set_snoc x hil, HX.out, HXX.out, if_pos (by rw [hpx]; rfl), HY.out.2.1], by
            rw [List.drop_set_of_lt (by omega)]
            have e1 := congrArg (List.drop 1) HY.out.2.2
            simpa [List.drop_drop] using e1⟩)
          have HIL := Lib.hid hil
          have hin : i < n := by omega
          clear gz hz hil hpx
          go_wp2_with fail
          go_roundw
          case rel =>
            have B5 := Blk.many (intC x) B3 (i * 1)
            rw [row_set (enc := intC) (s := 1) (fun _ => rfl) _ _ i x HIL.out, Nat.mul_one] at B5
            exact ⟨i + 1, j + 1, ys.set i x, by go_num, by go_num, by omega, by omega, HFX, B5, Only.many (S := OwnB (some ⟨blk, 0, none⟩)) rfl (intC x) o3 i⟩
          case measure => simp [intOf]; omega
        · have HFX := Lib.hid (show ys.length = n ∧ ys.take i = (xs.take (j + 1)).filter (fun x => !p x) ∧ ys.drop (j + 1) = xs.drop (j + 1) from ⟨HY.out.1, by rw [HX.out, HXX.out, if_neg (by rw [hpx]; simp), HY.out.2.1], by
            have e1 := congrArg (List.drop 1) HY.out.2.2
            simpa [List.drop_drop] using e1⟩)
          clear hpx
          go_wp2_with fail
          go_roundw
          case rel => exact ⟨i, j + 1, ys, rfl, by go_num, by omega, by omega, HFX, B3, o3⟩
          case measure => simp [intOf]; omega
      · have hjn : j = n := by omega
        have hF : (ys.take i) = xs.filter (fun x => !p x) := by rw [HY.out.2.1, List.take_of_length_le (by rw [HL.out]; omega)]
        have hyl := HY.out.1
        have hil : (xs.filter fun x => !p x).length = i := by rw [← hF, List.length_take]; omega
        have hfl := flatMap_len (f := intC) (s := 1) ys (fun _ _ => rfl)
        have hlt2 : i * 1 + (n - i) * 1 ≤ (ys.flatMap intC ++ rest).length := by rw [List.length_append, hfl, hyl]; omega
        obtain ⟨zs, hzs, hcl⟩ := run_clear wr 24 3 _ 1 Tryz.underlying24 Tryz.zeroValue3 rfl (by decide) blk (i * 1) (n - i) (c - i) (by omega) _ t B hlt2
        rw [Nat.mul_one] at hcl
        have HF := Lib.hid hF
        have HIL := Lib.hid hil
        have hl2 := HLL.out
        rw [List.length_append, flatMap_len (f := intC) (s := 1) xs (fun _ _ => rfl), HL.out] at hl2
        have hl3 : (ys.flatMap intC ++ rest).length = c * 1 := by rw [List.length_append, hfl, hyl]; exact hl2
        have HC := Lib.hid (show (setMany (ys.flatMap intC ++ rest) i zs).length = c * 1 ∧ (setMany (ys.flatMap intC ++ rest) i zs).take (i * 1) = (ys.take i).flatMap intC from
          ⟨by rw [setMany_length]; exact hl3, by rw [Nat.mul_one, setMany_before _ _ _ (by rw [hzs]; omega)]; have h := row_take (enc := intC) (s := 1) (fun _ => rfl) ys rest i (by omega); rwa [Nat.mul_one] at h⟩)
        have hic : i ≤ c := by omega
        have hic2 : ¬ c = i := by omega
        have hin : i ≤ n := by omega
        have HM := Lib.hid hm
        clear hzs hfl hl2 hl3 hlt2 hF hyl hil hm hjn
        go_wp2_with fail
        go_ret
        rw [HIL.out, ← HF.out]
        exact ⟨rfl, own_shut hg (Blk.many zs B i) HC.out.1 hic HM.out HC.out.2, Only.many (S := OwnB (some ⟨blk, 0, none⟩)) rfl zs o i⟩

theorem DeleteFunc_int (g : Nat) (lb : Array Value) (p : Int → Bool) (base t n c : Nat) (A : Option Addr) (xs : List Int) (w : World) (hO : w.ownsRow base t 1 (.slice A n c) n (ints xs)) (hn1 : n ≤ 1000)
    (hp : AnswersO g lb (Value.int .i64) p xs (OwnB A) w) :
    Calls Tryz.prog 57 #[.slice A n c, .func (.func g) #[] lb] w fun e w' => e = .returned (.slice A (xs.filter fun x => !p x).length c) ∧ w'.ownsRow base t 1 (.slice A (xs.filter fun x => !p x).length c) (xs.filter fun x => !p x).length (ints (xs.filter fun x => !p x)) ∧ Only (OwnB A) w w' := by
  rw [← flatMap_intC] at hO
  have h := DeleteFunc_intC g lb p base t n c A xs w hO hn1 hp
  rw [flatMap_intC] at h
  exact h

end Go.Proofs.YtkimlajfhepfgaaGreat

namespace Go.Proofs.YtkimlajfhepfgaaGreat
open Go.Shelf
def sh_lays125_ren : Go.Shelf.Ren := ⟨fun | 125 => 102 | 128 => 120 | 129 => 121 | n => n, fun | 46 => 106 | 3 => 3 | 51 => 122 | 53 => 57 | 4 => 4 | 5 => 5 | 9 => 9 | n => n, fun | n => n⟩
theorem sh_lays125 : Go.Proofs.Lays.n125 Tryz.prog sh_lays125_ren := {
  mixed := by kernel_rfl
  f125 := Tryz.func102.trans (congrArg some (by kernel_rfl))
  f128 := Tryz.func120.trans (congrArg some (by kernel_rfl))
  f129 := Tryz.func121.trans (congrArg some (by kernel_rfl))
  t3 := Tryz.underlying3
  a3 := Tryz.isAgg3
  z3 := Tryz.sizeOf3
  v3 := Tryz.zeroValue3
  t4 := Tryz.underlying4
  a4 := Tryz.isAgg4
  z4 := Tryz.sizeOf4
  v4 := Tryz.zeroValue4
  t5 := Tryz.underlying5
  a5 := Tryz.isAgg5
  z5 := Tryz.sizeOf5
  v5 := Tryz.zeroValue5
  t9 := Tryz.underlying9
  a9 := Tryz.isAgg9
  z9 := Tryz.sizeOf9
  v9 := Tryz.zeroValue9
  t46 := Tryz.underlying106
  a46 := Tryz.isAgg106
  z46 := Tryz.sizeOf106
  v46 := Tryz.zeroValue106
  t51 := Tryz.underlying122
  a51 := Tryz.isAgg122
  z51 := Tryz.sizeOf122
  v51 := Tryz.zeroValue122
  t53 := Tryz.underlying57
  a53 := Tryz.isAgg57
  z53 := Tryz.sizeOf57
  v53 := Tryz.zeroValue57 }
theorem sh_bits_Len (x : Int) (w : World) (h0 : 0 ≤ x) (h1 : x ≤ 18446744073709551615) :
    Calls Tryz.prog 102 #[.int .u64 x] w fun e w' => e = .returned (.int .i64 (Lib.bitLen x.toNat)) ∧ w' = w := Any.bits_Len sh_lays125 x w h0 h1
end Go.Proofs.YtkimlajfhepfgaaGreat

namespace Go.Proofs.YtkimlajfhepfgaaGreat
open Go.RowKit

/-- The library's insertion sort at places a to b of a row. -/
def rowIDeskRow (lt : DeskRow → DeskRow → Bool) (xs : List DeskRow) (a i : Nat) : List DeskRow := xs.take a ++ sortR lt ((xs.drop a).take (i - a)) ++ xs.drop i
theorem rowIDeskRow_zero (lt : DeskRow → DeskRow → Bool) (xs : List DeskRow) (a : Nat) : rowIDeskRow lt xs a a = xs := by
  unfold rowIDeskRow
  rw [Nat.sub_self, List.take_zero, sortR_nil, List.append_nil, List.take_append_drop]
theorem rowIDeskRow_one (lt : DeskRow → DeskRow → Bool) (xs : List DeskRow) (a : Nat) : rowIDeskRow lt xs a (a + 1) = xs := by
  unfold rowIDeskRow
  rw [show a + 1 - a = 1 by omega]
  by_cases h : a < xs.length
  · have h1 : xs.drop a = xs[a] :: xs.drop (a + 1) := List.drop_eq_getElem_cons h
    rw [h1, List.take_succ_cons, List.take_zero, sortR_one]
    have h2 := List.take_append_drop a xs
    rw [h1] at h2
    simp
  · rw [List.drop_of_length_le (by omega), List.take_nil, sortR_nil, List.drop_of_length_le (by omega), List.append_nil, List.append_nil, List.take_of_length_le (by omega)]
theorem rowIDeskRow_round (lt : DeskRow → DeskRow → Bool) (xs : List DeskRow) (a i : Nat) (hi : i < xs.length) (ha : a ≤ i) :
    (sortR lt ((xs.drop a).take (i - a))).length = i - a ∧ rowIDeskRow lt xs a i = xs.take a ++ ((sortR lt ((xs.drop a).take (i - a))).take (i - a) ++ xs[i] :: (sortR lt ((xs.drop a).take (i - a))).drop (i - a)) ++ xs.drop (i + 1) ∧ rowIDeskRow lt xs a (i + 1) = xs.take a ++ insR lt (sortR lt ((xs.drop a).take (i - a))) xs[i] ++ xs.drop (i + 1) := by
  have hl : (sortR lt ((xs.drop a).take (i - a))).length = i - a := by rw [sortR_length, List.length_take, List.length_drop]; omega
  refine ⟨hl, ?_, ?_⟩
  · rw [List.take_of_length_le (Nat.le_of_eq hl), List.drop_of_length_le (Nat.le_of_eq hl)]
    have h1 : xs.drop i = xs[i] :: xs.drop (i + 1) := List.drop_eq_getElem_cons hi
    unfold rowIDeskRow
    rw [h1]
    simp only [List.append_assoc, List.cons_append, List.nil_append]
  · unfold rowIDeskRow
    have h2 : i - a < (xs.drop a).length := by rw [List.length_drop]; omega
    rw [show i + 1 - a = (i - a) + 1 by omega, sortR_next lt h2]
    congr 3
    rw [List.getElem_drop]
    congr 1
    omega
theorem rowIDeskRow_mem (lt : DeskRow → DeskRow → Bool) {xs : List DeskRow} {a i : Nat} {x : DeskRow} (h : x ∈ sortR lt ((xs.drop a).take (i - a))) : x ∈ xs := List.mem_of_mem_drop (List.mem_of_mem_take ((sortR_mem lt).1 h))

set_option maxRecDepth 100000 in
set_option maxHeartbeats 8000000 in
theorem insertionSort_DeskRow (g : Nat) (lb : Array Value) (cf : DeskRow → DeskRow → Int) (D : DeskRow → Prop) (blk c n : Nat) (t : TypeId) (xs : List DeskRow) (rest : List Value) (a b : Nat) (w : World) (hB : Blk w blk t (xs.flatMap DeskRow.enc ++ rest)) (hn : xs.length = n) (hn1 : n ≤ 1000) (hab : a ≤ b) (hb : b ≤ n)
    (hc : Compares g lb (fun x : DeskRow => .agg x.enc.toArray) cf D) (hD : ∀ x ∈ xs, D x) :
    Calls Tryz.prog 112 #[.slice (some ⟨blk, 0, none⟩) n c, .int .i64 (a : Int), .int .i64 (b : Int), .func (.func g) #[] lb] w fun e w' => e = .returned (.tuple #[]) ∧ Blk w' blk t ((rowIDeskRow (ltOf' cf) xs a b).flatMap DeskRow.enc ++ rest) ∧ Only (fun z => z = blk) w w' := by
  have eg := hc.enters
  have HN := Lib.hid hn
  have HD := Lib.hid hD
  have hB0 := hB
  clear hn hD hB
  go_enter Tryz.func112, Tryz.ntmps112
  go_wp2_with fail
  go_loopw [8] (fun v wr => ∃ (i : Nat) (ys : List DeskRow), v = .int .i64 (i : Int) ∧ a + 1 ≤ i ∧ i ≤ b + 1 ∧ Hid (a < b → i ≤ b) ∧ Hid (ys = rowIDeskRow (ltOf' cf) xs a i) ∧ Blk wr blk t (ys.flatMap DeskRow.enc ++ rest) ∧ Only (fun z => z = blk) w wr) (fun v _ => b + 1 - (intOf v).toNat)
  case atStart => exact ⟨a + 1, xs, by go_num, Nat.le_refl _, by omega, Lib.hid (fun h => h), Lib.hid (rowIDeskRow_one _ _ _).symm, hB0, Only.refl _ _⟩
  case round =>
    obtain ⟨i, ys, rfl, hai, hib, HIB, HY, B1, o1⟩ := hrel
    clear hB0
    by_cases hlt : i < b
    · have hix : i < xs.length := by rw [HN.out]; omega
      obtain ⟨hP0, hY1, hY2⟩ := rowIDeskRow_round (ltOf' cf) xs a i hix (by omega)
      have HDP := Lib.hid (show (∀ x ∈ sortR (ltOf' cf) ((xs.drop a).take (i - a)), D x) ∧ D xs[i] from ⟨fun x hx => HD.out x (rowIDeskRow_mem _ hx), HD.out _ (List.getElem_mem hix)⟩)
      have hpre : (xs.take a).length = a := by rw [List.length_take, HN.out]; omega
      have hylen : ys.length = n := by rw [HY.out, hY1]; simp only [List.length_append, List.length_take, List.length_cons, List.length_drop, hP0]; have := HN.out; omega
      obtain ⟨P, hP⟩ : ∃ P, sortR (ltOf' cf) ((xs.drop a).take (i - a)) = P := ⟨_, rfl⟩
      obtain ⟨y, hy⟩ : ∃ y, xs[i] = y := ⟨_, rfl⟩
      obtain ⟨pre, hpr⟩ : ∃ pre, xs.take a = pre := ⟨_, rfl⟩
      obtain ⟨R, hR⟩ : ∃ R, xs.drop (i + 1) = R := ⟨_, rfl⟩
      rw [hP] at hP0 hY1 hY2 HDP
      rw [hy] at hY1 hY2 HDP
      rw [hpr] at hpre hY1 hY2
      rw [hR] at hY1 hY2
      have HY1 := Lib.hid (HY.out.trans hY1)
      have HY2 := Lib.hid hY2
      have HPL := Lib.hid hP0
      have HPR := Lib.hid hpre
      have HYL := Lib.hid hylen
      clear hY1 hY2 hP hy hpr hR HY hP0 hpre hylen hix
      have hai' : a ≤ i := by omega
      go_wp2_with fail
      obtain ⟨wo, hwo⟩ : ∃ wo : World, wo = wr := ⟨_, rfl⟩
      subst hwo
      go_loopw [9] (fun v wx => ∃ (m j : Nat) (zs : List DeskRow), v = .int .i64 (m : Int) ∧ m = a + j ∧ j ≤ i - a ∧ Hid (posR (ltOf' cf) P y P.length = posR (ltOf' cf) P y j) ∧ Hid (zs = pre ++ (P.take j ++ y :: P.drop j) ++ R) ∧ Blk wx blk t (zs.flatMap DeskRow.enc ++ rest) ∧ Only (fun z => z = blk) w wx) (fun v _ => (intOf v).toNat)
      case atStart => exact ⟨i, i - a, ys, rfl, by omega, Nat.le_refl _, Lib.hid (by rw [HPL.out]), HY1, B1, o1⟩
      case round =>
        obtain ⟨m, j, zs, rfl, hm, hj, HP, HZ, B1x, o1x⟩ := hrel
        clear B1 o1
        cases j with
        | zero =>
          have HE := Lib.hid (show rowIDeskRow (ltOf' cf) xs a (i + 1) = zs by rw [HY2.out, HZ.out, insR_at _ (show posR (ltOf' cf) P y P.length = 0 from HP.out)])
          have hnot : ¬ a < m := by omega
          clear HP
          go_wp2_with fail
          go_quiet (fail)
          go_wp2_with fail
          go_roundw
          case rel => exact ⟨i + 1, zs, by go_num, by omega, by omega, Lib.hid (fun _ => by omega), Lib.hid HE.out.symm, B1x, o1x.quiet (Quiet.mk _ _)⟩
          case measure => simp [intOf]; omega
        | succ j =>
          obtain ⟨q, rfl⟩ : ∃ q, m = q + 1 := ⟨m - 1, by omega⟩
          have hjP : j < P.length := by rw [HPL.out]; omega
          obtain ⟨L, M, hz1, hz2, hz3⟩ := ins_split (pre := pre) (P := P) (R := R) (row := zs) (e := y) (j := j) (m := q + 1) (by rw [HPR.out]; omega) hjP HZ.out
          have hDy := HDP.out.2
          have hDp := HDP.out.1 P[j] (List.getElem_mem hjP)
          have HT := Lib.hid (fun (h : ltOf' cf y P[j] = true) => HP.out.trans (posR_yes (ltOf' cf) hjP h))
          have HF := Lib.hid (fun (h : ltOf' cf y P[j] = false) => HP.out.trans (posR_no (ltOf' cf) hjP h))
          have hLq : L.length = q := by omega
          subst hz1
          have hlen : (L ++ P[j] :: y :: M).length = n := by
            have h1 := HYL.out
            rw [HY1.out] at h1
            have h2 := congrArg List.length HZ.out
            simp only [List.length_append, List.length_take, List.length_cons, List.length_drop, HPL.out] at h1 h2 ⊢
            omega
          generalize P[j] = p at *
          obtain ⟨gp, gy⟩ := mid_get (L := L) (M := M) (p := p) (e := y)
          rw [hLq] at gp gy
          have hq1 : q + 1 < n := by rw [← hlen]; simp; omega
          have hq0 : q < n := by omega
          have hgt : decide ((a : Int) < (q : Int) + 1) = true := decide_eq_true (by omega)
          have hw1 : IntKind.i64.wrap (q : Int) = (q : Int) := IntWalk.i64_in _ (by omega)
          have hi0 : (0 : Int) ≤ (q : Int) + 1 := by omega
          have hi1 : (q : Int) + 1 < (n : Int) := by omega
          have hi2 : (0 : Int) ≤ (q : Int) := by omega
          have hi3 : (q : Int) < (n : Int) := by omega
          have bq := (Quiet.one wr).below wr.heap.size
          have B2 := B1x.next bq
          have o2 := o1x.quiet (Quiet.one wr)
          have HLEN := Lib.hid hlen
          have e0 : wr.drew.cell? ⟨blk, (q + 1) * 3, none⟩ = some (.int .i64 y.number) := row_cell? (enc := DeskRow.enc) (s := 3) (k := q + 1) (fun _ => rfl) B2 gy 0 _ rfl
          have e1 : wr.drew.cell? ⟨blk, (q + 1) * 3 + 1, none⟩ = some (.int .i64 y.missing) := row_cell? (enc := DeskRow.enc) (s := 3) (k := q + 1) (fun _ => rfl) B2 gy 1 _ rfl
          have e2 : wr.drew.cell? ⟨blk, (q + 1) * 3 + 2, none⟩ = some (.int .i64 y.time) := row_cell? (enc := DeskRow.enc) (s := 3) (k := q + 1) (fun _ => rfl) B2 gy 2 _ rfl
          have p0 : wr.drew.cell? ⟨blk, q * 3, none⟩ = some (.int .i64 p.number) := row_cell? (enc := DeskRow.enc) (s := 3) (k := q) (fun _ => rfl) B2 gp 0 _ rfl
          have p1 : wr.drew.cell? ⟨blk, q * 3 + 1, none⟩ = some (.int .i64 p.missing) := row_cell? (enc := DeskRow.enc) (s := 3) (k := q) (fun _ => rfl) B2 gp 1 _ rfl
          have p2 : wr.drew.cell? ⟨blk, q * 3 + 2, none⟩ = some (.int .i64 p.time) := row_cell? (enc := DeskRow.enc) (s := 3) (k := q) (fun _ => rfl) B2 gp 2 _ rfl
          have HGP := Lib.hid gp
          have HGY := Lib.hid gy
          have HZ3 := Lib.hid hz3
          have HLq := Lib.hid hLq
          have HM := Lib.hid hm
          clear bq hz2 hz3 hlen gp gy hLq hm HP B1x o1x
          go_wp2_with fail
          go_region_held3 (fun w' => w'.cell? ⟨blk, (q + 1) * 3, none⟩ = some (.int .i64 y.number) ∧ w'.cell? ⟨blk, (q + 1) * 3 + 1, none⟩ = some (.int .i64 y.missing) ∧ w'.cell? ⟨blk, (q + 1) * 3 + 2, none⟩ = some (.int .i64 y.time) ∧ w'.cell? ⟨blk, q * 3, none⟩ = some (.int .i64 p.number) ∧ w'.cell? ⟨blk, q * 3 + 1, none⟩ = some (.int .i64 p.missing) ∧ w'.cell? ⟨blk, q * 3 + 2, none⟩ = some (.int .i64 p.time)) (go_keep)
            (first
              | (refine (hc.at' y p hDy hDp _).mono ?_
                 rintro e w3 ⟨rfl, b3⟩
                 have B3 := B2.next b3
                 have o3 := o2.then_ b3
                 have gp := HGP.out
                 have gy := HGY.out
                 have hlen := HLEN.out
                 clear e0 p0 e1 p1 e2 p2
                 have e0 : w3.cell? ⟨blk, (q + 1) * 3, none⟩ = some (.int .i64 y.number) := row_cell? (enc := DeskRow.enc) (s := 3) (k := q + 1) (fun _ => rfl) B3 gy 0 _ rfl
                 have e1 : w3.cell? ⟨blk, (q + 1) * 3 + 1, none⟩ = some (.int .i64 y.missing) := row_cell? (enc := DeskRow.enc) (s := 3) (k := q + 1) (fun _ => rfl) B3 gy 1 _ rfl
                 have e2 : w3.cell? ⟨blk, (q + 1) * 3 + 2, none⟩ = some (.int .i64 y.time) := row_cell? (enc := DeskRow.enc) (s := 3) (k := q + 1) (fun _ => rfl) B3 gy 2 _ rfl
                 have p0 : w3.cell? ⟨blk, q * 3, none⟩ = some (.int .i64 p.number) := row_cell? (enc := DeskRow.enc) (s := 3) (k := q) (fun _ => rfl) B3 gp 0 _ rfl
                 have p1 : w3.cell? ⟨blk, q * 3 + 1, none⟩ = some (.int .i64 p.missing) := row_cell? (enc := DeskRow.enc) (s := 3) (k := q) (fun _ => rfl) B3 gp 1 _ rfl
                 have p2 : w3.cell? ⟨blk, q * 3 + 2, none⟩ = some (.int .i64 p.time) := row_cell? (enc := DeskRow.enc) (s := 3) (k := q) (fun _ => rfl) B3 gp 2 _ rfl
                 clear b3 gp gy hlen))
          clear B2 o2
          cases hlt2 : ltOf' cf y p
          · have hlt3 : ¬ cf y p < 0 := by simpa [ltOf'] using hlt2
            have HE := Lib.hid (show rowIDeskRow (ltOf' cf) xs a (i + 1) = L ++ p :: y :: M by rw [HY2.out, insR_at _ (HF.out hlt2)]; exact HZ.out.symm)
            clear hlt2
            go_wp2_with fail
            go_roundw
            case rel => exact ⟨i + 1, _, by go_num, by omega, by omega, Lib.hid (fun _ => by omega), Lib.hid HE.out.symm, B3, o3⟩
            case measure => simp [intOf]; omega
          · have hlt3 : cf y p < 0 := by simpa [ltOf'] using hlt2
            have HTT := Lib.hid (HT.out hlt2)
            clear hlt2 hw1
            have fe0 := B3.frozen ((q + 1) * 3)
            have fp0 := B3.frozen (q * 3)
            have fe1 := B3.frozen ((q + 1) * 3 + 1)
            have fp1 := B3.frozen (q * 3 + 1)
            have fe2 := B3.frozen ((q + 1) * 3 + 2)
            have fp2 := B3.frozen (q * 3 + 2)
            have hw1 : IntKind.i64.wrap (q : Int) = (q : Int) := IntWalk.i64_in _ (by omega)
            go_wp2_with fail
            go_region
            all_goals
              go_wp2_with fail
              go_roundw
              case rel =>
                have B5 := (Blk.many (DeskRow.enc p) B3 ((q + 1) * 3)).many (DeskRow.enc y) (q * 3)
                rw [row_set (enc := DeskRow.enc) (s := 3) (fun _ => rfl) _ _ (q + 1) p (by rw [HLEN.out]; omega), row_set (enc := DeskRow.enc) (s := 3) (fun _ => rfl) _ _ q y (by rw [List.length_set, HLEN.out]; omega), swap_at HLq.out] at B5
                have O5 := Only.many (S := fun z => z = blk) (g := blk) rfl (DeskRow.enc y) (Only.many (S := fun z => z = blk) (g := blk) rfl (DeskRow.enc p) o3 ((q + 1) * 3)) (q * 3)
                have hm := HM.out
                exact ⟨q, j, _, by go_num, by omega, by omega, HTT, Lib.hid HZ3.out.symm, B5.quiet (Quiet.one _), O5.quiet (Quiet.one _)⟩
              case measure => simp [intOf]
    · have HE := Lib.hid (show ys = rowIDeskRow (ltOf' cf) xs a b by
        rw [HY.out]
        by_cases h : a < b
        · have := HIB.out h
          obtain rfl : i = b := by omega
          rfl
        · obtain rfl : a = b := by omega
          obtain rfl : i = a + 1 := by omega
          rw [rowIDeskRow_one, rowIDeskRow_zero])
      go_wp2_with fail
      go_end0
      exact ⟨rfl, by rw [← HE.out]; exact B1, o1⟩
theorem isNaN_int (a : Int) (w : World) : Calls Tryz.prog 103 #[.int .i64 a] w fun e w' => e = .returned (.bool false) ∧ w = w' := by
  go_enter Tryz.func103, Tryz.ntmps103
  go_wp2
  go_ret
  exact ⟨ret_bool (by simp), rfl⟩
theorem Compare_int (a b : Int) (w : World) : Calls Tryz.prog 64 #[.int .i64 a, .int .i64 b] w fun e w' => e = .returned (.int .i64 (cmpI a b)) ∧ w = w' := by
  by_cases h1 : a < b
  · go_enter Tryz.func64, Tryz.ntmps64
    go_wp2_with (go_at_call 103; refine (isNaN_int _ _).mono ?_; rintro e w' ⟨rfl, rfl⟩)
    go_ret
    exact ⟨ret_int (by unfold cmpI; rw [if_pos h1]), rfl⟩
  · by_cases h2 : b < a
    · go_enter Tryz.func64, Tryz.ntmps64
      go_wp2_with (go_at_call 103; refine (isNaN_int _ _).mono ?_; rintro e w' ⟨rfl, rfl⟩)
      go_ret
      exact ⟨ret_int (by unfold cmpI; rw [if_neg (by omega), if_pos h2]), rfl⟩
    · go_enter Tryz.func64, Tryz.ntmps64
      go_wp2_with (go_at_call 103; refine (isNaN_int _ _).mono ?_; rintro e w' ⟨rfl, rfl⟩)
      go_ret
      exact ⟨ret_int (by unfold cmpI; rw [if_neg (by omega), if_neg (by omega)]), rfl⟩
theorem orI_drop {l : List Int} {k : Nat} (hk : k < l.length) : orI (l.drop k) = if l[k] ≠ 0 then l[k] else orI (l.drop (k + 1)) := by
  have h : l.drop k = l[k] :: l.drop (k + 1) := List.drop_eq_getElem_cons hk
  rw [h]; rfl
theorem Or_int (A : Option Addr) (n c : Nat) (xs : List Int) (w : World) (hx : Sees w 0 1 A n (ints xs)) (hn : n ≤ 1000) :
    Calls Tryz.prog 63 #[.slice A n c] w fun e w' => e = .returned (.int .i64 (orI xs)) ∧ w = w' := by
  have hl := hx.icount
  go_enter Tryz.func63, Tryz.ntmps63
  go_wp2_with fail
  go_loop [8] (fun v => ∃ k : Nat, k ≤ n ∧ v = .int .i64 (k : Int) ∧ Hid (orI xs = orI (xs.drop k))) (fun v => n - (intOf v).toNat)
  case atStart => exact ⟨0, Nat.zero_le _, rfl, Lib.hid rfl⟩
  case round =>
    obtain ⟨k, hk, rfl, HO⟩ := hrel
    by_cases hlt : k < n
    · obtain ⟨b, off, rfl, hkx, hcx⟩ := hx.int hlt
      have ho := HO.out.trans (orI_drop hkx)
      generalize xs[k] = y at *
      by_cases h0 : y = 0
      · subst h0
        have HO2 := Lib.hid (ho.trans (if_neg (by simp)))
        clear ho
        go_wp2_with fail
        go_round
        case rel => exact ⟨k + 1, by omega, by go_num, HO2⟩
        case measure => simp [intOf]; omega
      · have HO2 := Lib.hid (ho.trans (if_pos h0))
        have hb : (y != 0) = true := by simp [h0]
        clear ho
        go_wp2_with fail
        go_ret
        exact ⟨ret_int HO2.out.symm, rfl⟩
    · have HO2 := Lib.hid (show orI xs = 0 by rw [HO.out, List.drop_of_length_le (by omega)]; rfl)
      go_wp2_with fail
      go_ret
      exact ⟨ret_int HO2.out.symm, rfl⟩
theorem insertionSort0_DeskRow (A : Option Addr) (g : Nat) (lb : Array Value) (c : Nat) (w : World) : Calls Tryz.prog 112 #[.slice A 0 c, .int .i64 0, .int .i64 0, .func (.func g) #[] lb] w fun e w' => e = .returned (.tuple #[]) ∧ w = w' := by
  go_enter Tryz.func112, Tryz.ntmps112
  go_wp2
  refine wp_loop_rounds 1 ?_
  rw [rounds_succ]
  go_wp2
  go_end0
  exact ⟨rfl, rfl⟩
theorem pdqsort_DeskRow (g : Nat) (lb : Array Value) (cf : DeskRow → DeskRow → Int) (D : DeskRow → Prop) (base t n c : Nat) (A : Option Addr) (lim : Int) (xs : List DeskRow) (w : World) (hO : w.ownsRow base t 3 (.slice A n c) n (xs.flatMap DeskRow.enc)) (hn1 : n ≤ 12)
    (hc : Compares g lb (fun x : DeskRow => .agg x.enc.toArray) cf D) (hD : ∀ x ∈ xs, D x) :
    Calls Tryz.prog 101 #[.slice A n c, .int .i64 0, .int .i64 (n : Int), .int .i64 lim, .func (.func g) #[] lb] w fun e w' => e = .returned (.tuple #[]) ∧ w'.ownsRow base t 3 (.slice A n c) n ((sortR (ltOf' cf) xs).flatMap DeskRow.enc) ∧ Only (OwnB A) w w' := by
  have hlen : xs.length = n := by
    have h1 := hO.1
    rw [flatMap_len (f := DeskRow.enc) (s := 3) xs (fun _ _ => rfl)] at h1
    exact Nat.eq_of_mul_eq_mul_right (by decide) h1
  have hlen2 : ((sortR (ltOf' cf) xs).flatMap DeskRow.enc).length = n * 3 := by rw [flatMap_len (f := DeskRow.enc) (s := 3) _ (fun _ _ => rfl), sortR_length, hlen]
  rcases own_row hO with ⟨rfl, rfl, rfl, _⟩ | ⟨blk, rest, rfl, hg, hB, hl, hnc, hm⟩
  · have hx : xs = [] := List.eq_nil_of_length_eq_zero hlen
    subst hx
    clear hO hlen hlen2
    go_enter Tryz.func101, Tryz.ntmps101
    go_wp2_with fail
    refine wp_loop_rounds 1 ?_
    rw [rounds_succ]
    go_wp2_with fail
    refine (insertionSort0_DeskRow _ _ _ _ _).mono ?_
    rintro e w' ⟨rfl, rfl⟩
    go_wp2_with fail
    exact bodyPost_ret (v := .tuple #[]) (by simp [results, Tryz.results101, go_sem]) rfl ⟨rfl, World.ownsRow_nil _ _ _ _, Only.refl _ _⟩
  · have HD := Lib.hid hD
    have HL := Lib.hid hlen
    have HL2 := Lib.hid hlen2
    have HLL := Lib.hid hl
    have hl2 := flatMap_len xs (fun (x : DeskRow) _ => show x.enc.length = 3 from rfl)
    have hl3 := flatMap_len (sortR (ltOf' cf) xs) (fun (x : DeskRow) _ => show x.enc.length = 3 from rfl)
    rw [sortR_length] at hl3
    have HL3 := Lib.hid (show ((sortR (ltOf' cf) xs).flatMap DeskRow.enc ++ rest).length = c * 3 by rw [List.length_append, hl3, ← hl2, ← List.length_append]; exact hl)
    clear hO hD hlen hlen2 hl hl2 hl3
    have hn5 : (n : Int) ≤ 12 := by omega
    go_enter Tryz.func101, Tryz.ntmps101
    go_wp2_with fail
    refine wp_loop_rounds 1 ?_
    rw [rounds_succ]
    go_wp2_with fail
    refine (insertionSort_DeskRow g lb cf D blk c n t xs rest 0 n _ hB HL.out (by omega) (Nat.zero_le _) (Nat.le_refl _) hc HD.out).mono ?_
    rintro e w1 ⟨rfl, B1, o1⟩
    go_wp2_with fail
    refine bodyPost_ret (v := .tuple #[]) (by simp [results, Tryz.results101, go_sem]) rfl ⟨rfl, own_row_mk hg (?_ : Blk w1 blk t (_ ++ rest)) HL3.out hnc hm HL2.out, o1.mono fun k hk => by subst hk; rfl⟩
    have h1 : rowIDeskRow (ltOf' cf) xs 0 n = sortR (ltOf' cf) xs := by
      unfold rowIDeskRow
      have h2 := HL.out
      rw [Nat.sub_zero, List.take_zero, List.drop_zero, List.nil_append, List.take_of_length_le (by omega), List.drop_of_length_le (by omega), List.append_nil]
    rw [h1] at B1
    exact B1
set_option maxRecDepth 100000 in
theorem SortFunc_DeskRow (g : Nat) (lb : Array Value) (cf : DeskRow → DeskRow → Int) (D : DeskRow → Prop) (base t n c : Nat) (A : Option Addr) (xs : List DeskRow) (w : World) (hO : w.ownsRow base t 3 (.slice A n c) n (xs.flatMap DeskRow.enc)) (hn1 : n ≤ 12)
    (hc : Compares g lb (fun x : DeskRow => .agg x.enc.toArray) cf D) (hD : ∀ x ∈ xs, D x) :
    Calls Tryz.prog 61 #[.slice A n c, .func (.func g) #[] lb] w fun e w' => e = .returned (.tuple #[]) ∧ w'.ownsRow base t 3 (.slice A n c) n ((sortR (ltOf' cf) xs).flatMap DeskRow.enc) ∧ Only (OwnB A) w w' := by
  have HD := Lib.hid hD
  clear hD
  go_enter Tryz.func61, Tryz.ntmps61
  go_wp2_with fail
  refine (sh_bits_Len _ _ (by omega) (by omega)).mono ?_
  rintro e w' ⟨rfl, rfl⟩
  go_wp2_with fail
  refine (pdqsort_DeskRow g lb cf D base t n c A _ xs _ hO hn1 hc HD.out).mono ?_
  rintro e w1 ⟨rfl, o1, q1⟩
  go_wp2_with fail
  go_end0
  exact ⟨rfl, o1, q1⟩

end Go.Proofs.YtkimlajfhepfgaaGreat

namespace Go.Proofs.YtkimlajfhepfgaaGreat
open Go.RowKit

def cfR (x y : DeskRow) : Int := orI [cmpI x.missing y.missing, cmpI x.time y.time, cmpI x.number y.number]
def lessR (x y : DeskRow) : Bool := if x.missing ≠ y.missing then decide (x.missing < y.missing) else decide (x.time < y.time) || (decide (x.time = y.time) && decide (x.number < y.number))
theorem lessR_eq (x y : DeskRow) : ltOf' cfR x y = lessR x y := by
  unfold ltOf' cfR lessR orI
  by_cases h1 : x.missing = y.missing
  · have e1 : cmpI x.missing y.missing = 0 := (cmpI_zero _ _).2 h1
    rw [if_neg (by simp [e1]), if_neg (by simp [h1])]
    unfold orI
    by_cases h2 : x.time = y.time
    · have e2 : cmpI x.time y.time = 0 := (cmpI_zero _ _).2 h2
      rw [if_neg (by simp [e2])]
      unfold orI
      rw [show decide (x.time < y.time) = false from decide_eq_false (by omega), show decide (x.time = y.time) = true from decide_eq_true h2, Bool.false_or, Bool.true_and]
      split
      · rw [Bool.eq_iff_iff, decide_eq_true_eq, decide_eq_true_eq]
        exact cmpI_neg _ _
      · rename_i h3
        have h4 : cmpI x.number y.number = 0 := by simpa using h3
        have h5 := (cmpI_zero _ _).1 h4
        rw [show orI [] = 0 from rfl, show decide (x.number < y.number) = false from decide_eq_false (by omega)]
        rfl
    · have e2 : cmpI x.time y.time ≠ 0 := fun h => h2 ((cmpI_zero _ _).1 h)
      rw [if_pos e2, show decide (x.time = y.time) = false from decide_eq_false h2, Bool.false_and, Bool.or_false]
      rw [Bool.eq_iff_iff, decide_eq_true_eq, decide_eq_true_eq]
      exact cmpI_neg _ _
  · have e1 : cmpI x.missing y.missing ≠ 0 := fun h => h1 ((cmpI_zero _ _).1 h)
    rw [if_pos e1, if_pos h1]
    rw [Bool.eq_iff_iff, decide_eq_true_eq, decide_eq_true_eq]
    exact cmpI_neg _ _

set_option maxRecDepth 100000 in
set_option maxHeartbeats 2000000 in
theorem DeskRanking1_any (x y : DeskRow) (w : World) : Calls Tryz.prog 62 #[.agg #[.int .i64 x.number, .int .i64 x.missing, .int .i64 x.time], .agg #[.int .i64 y.number, .int .i64 y.missing, .int .i64 y.time]] w fun e w' => e = .returned (.int .i64 (cfR x y)) ∧ Below w.heap.size w w' := by
  obtain ⟨a1, h1⟩ : ∃ a, cmpI x.missing y.missing = a := ⟨_, rfl⟩
  obtain ⟨a2, h2⟩ : ∃ a, cmpI x.time y.time = a := ⟨_, rfl⟩
  obtain ⟨a3, h3⟩ : ∃ a, cmpI x.number y.number = a := ⟨_, rfl⟩
  obtain ⟨a5, h5⟩ : ∃ a, orI [a1, a2, a3] = a := ⟨_, rfl⟩
  have h6 : cfR x y = a5 := by unfold cfR; rw [h1, h2, h3, h5]
  rw [h6]
  have H1 := Lib.hid h1
  have H2 := Lib.hid h2
  have H3 := Lib.hid h3
  have H5 := Lib.hid h5
  clear h1 h2 h3 h5 h6
  have K0 : Below w.heap.size w ((w.alloc (.cells #[.int .i64 x.number, .int .i64 x.missing, .int .i64 x.time] 41)).alloc (.cells #[.int .i64 y.number, .int .i64 y.missing, .int .i64 y.time] 41)) := ((Below.refl _ _).alloc (Nat.le_refl _) _).alloc (by simp) _
  have X0 : Blk ((w.alloc (.cells #[.int .i64 x.number, .int .i64 x.missing, .int .i64 x.time] 41)).alloc (.cells #[.int .i64 y.number, .int .i64 y.missing, .int .i64 y.time] 41)) w.heap.size 41 [.int .i64 x.number, .int .i64 x.missing, .int .i64 x.time] := (Blk.at_ rfl).alloc _
  have Y0 : Blk ((w.alloc (.cells #[.int .i64 x.number, .int .i64 x.missing, .int .i64 x.time] 41)).alloc (.cells #[.int .i64 y.number, .int .i64 y.missing, .int .i64 y.time] 41)) (w.heap.size + 1) 41 [.int .i64 y.number, .int .i64 y.missing, .int .i64 y.time] := Blk.at_ (by simp)
  go_enter Tryz.func62, Tryz.ntmps62
  go_wp2_with fail
  have K3 : Below w.heap.size w (((w.alloc (.cells #[.int .i64 x.number, .int .i64 x.missing, .int .i64 x.time] 41)).alloc (.cells #[.int .i64 y.number, .int .i64 y.missing, .int .i64 y.time] 41)).alloc (.cells #[.int .i64 a1, .int .i64 a2, .int .i64 a3] 3)).drew := bel_quiet (K0.alloc (by simp; omega) _) (Quiet.one _)
  have A1 : Sees (((w.alloc (.cells #[.int .i64 x.number, .int .i64 x.missing, .int .i64 x.time] 41)).alloc (.cells #[.int .i64 y.number, .int .i64 y.missing, .int .i64 y.time] 41)).alloc (.cells #[.int .i64 a1, .int .i64 a2, .int .i64 a3] 3)).drew 0 1 (some ⟨w.heap.size + 1 + 1, 0, none⟩) 3 (ints [a1, a2, a3]) := ((Blk.at_ (cs := [.int .i64 a1, .int .i64 a2, .int .i64 a3]) (by simp)).quiet (Quiet.one _)).sees (Nat.zero_le _) rfl
  have cx := (X0.quiet (Quiet.one _)).cell
  have cy := (Y0.quiet (Quiet.one _)).cell
  clear X0 Y0 K0
  refine wp_region_held_drew (S := fun w' => w'.cell? ⟨w.heap.size, 0, none⟩ = some (.int .i64 x.number) ∧ w'.cell? ⟨w.heap.size, 1, none⟩ = some (.int .i64 x.missing) ∧ w'.cell? ⟨w.heap.size, 2, none⟩ = some (.int .i64 x.time) ∧ w'.cell? ⟨w.heap.size + 1, 0, none⟩ = some (.int .i64 y.number) ∧ w'.cell? ⟨w.heap.size + 1, 1, none⟩ = some (.int .i64 y.missing) ∧ w'.cell? ⟨w.heap.size + 1, 2, none⟩ = some (.int .i64 y.time)) (by kernel_rfl) (by (try dsimp only); go_keep) (fun hH => ?_)
  refine wT (i := 0) (v := ?_) rfl (by kernel_rfl) (by kernel_rfl) (by kernel_rfl) (fun _ _ _ h => h) (Or.inl ⟨by rfl, ?_⟩) (by assumption) ?_
  rotate_left 1
  · (intro w hS; (try dsimp only at hS); go_simp; try with_reducible rfl)
  simp only [Act.put, pX]
  refine wT (i := 1) (v := ?_) rfl (by kernel_rfl) (by kernel_rfl) (by kernel_rfl) (fun _ _ _ h => h) (Or.inl ⟨by rfl, ?_⟩) (by assumption) ?_
  rotate_left 1
  · (intro w hS; (try dsimp only at hS); go_simp; try with_reducible rfl)
  simp only [Act.put, pX]
  refine wT (i := 2) (v := ?_) rfl (by kernel_rfl) (by kernel_rfl) (by kernel_rfl) (fun _ _ _ h => h) (Or.inl ⟨by rfl, ?_⟩) (by assumption) ?_
  rotate_left 1
  · (intro w hS; (try dsimp only at hS); go_simp; try with_reducible rfl)
  simp only [Act.put, pX]
  refine wT (i := 3) (v := ?_) rfl (by kernel_rfl) (by kernel_rfl) (by kernel_rfl) (fun _ _ _ h => h) (Or.inl ⟨by rfl, ?_⟩) (by assumption) ?_
  rotate_left 1
  · (intro w hS; (try dsimp only at hS); go_simp; try with_reducible rfl)
  simp only [Act.put, pX]
  refine wT (i := 5) (v := ?_) rfl (by kernel_rfl) (by kernel_rfl) (by kernel_rfl) (fun _ _ _ h => h) (Or.inl ⟨by rfl, ?_⟩) (by assumption) ?_
  rotate_left 1
  · (intro w hS; (try dsimp only at hS); go_simp; try with_reducible rfl)
  simp only [Act.put, pX]
  refine wT (i := 6) (v := ?_) rfl (by kernel_rfl) (by kernel_rfl) (by kernel_rfl) (fun _ _ _ h => h) (Or.inl ⟨by rfl, ?_⟩) (by assumption) ?_
  rotate_left 1
  · (intro w hS; (try dsimp only at hS); go_simp; try with_reducible rfl)
  simp only [Act.put, pX]
  refine wT (i := 7) (v := ?_) rfl (by kernel_rfl) (by kernel_rfl) (by kernel_rfl) (fun _ _ _ h => h) (Or.inl ⟨by rfl, ?_⟩) (by assumption) ?_
  rotate_left 1
  · (intro w hS; (try dsimp only at hS); go_simp; try with_reducible rfl)
  simp only [Act.put, pX]
  refine wT (i := 8) (v := ?_) rfl (by kernel_rfl) (by kernel_rfl) (by kernel_rfl) (fun _ _ _ h => h) (Or.inl ⟨by rfl, ?_⟩) (by assumption) ?_
  rotate_left 1
  · (intro w hS; (try dsimp only at hS); go_simp; try with_reducible rfl)
  simp only [Act.put, pX]
  refine wT (i := 10) (v := ?_) rfl (by kernel_rfl) (by kernel_rfl) (by kernel_rfl) (fun _ _ _ h => h) (Or.inl ⟨by rfl, ?_⟩) (by assumption) ?_
  rotate_left 1
  · (intro w hS; (try dsimp only at hS); go_simp; try with_reducible rfl)
  simp only [Act.put, pX]
  refine wT (i := 11) (v := ?_) rfl (by kernel_rfl) (by kernel_rfl) (by kernel_rfl) (fun _ _ _ h => h) (Or.inl ⟨by rfl, ?_⟩) (by assumption) ?_
  rotate_left 1
  · (intro w hS; (try dsimp only at hS); go_simp; try with_reducible rfl)
  simp only [Act.put, pX]
  refine wT (i := 12) (v := ?_) rfl (by kernel_rfl) (by kernel_rfl) (by kernel_rfl) (fun _ _ _ h => h) (Or.inl ⟨by rfl, ?_⟩) (by assumption) ?_
  rotate_left 1
  · (intro w hS; (try dsimp only at hS); go_simp; try with_reducible rfl)
  simp only [Act.put, pX]
  refine wT (i := 13) (v := ?_) rfl (by kernel_rfl) (by kernel_rfl) (by kernel_rfl) (fun _ _ _ h => h) (Or.inl ⟨by rfl, ?_⟩) (by assumption) ?_
  rotate_left 1
  · (intro w hS; (try dsimp only at hS); go_simp; try with_reducible rfl)
  simp only [Act.put, pX]
  refine wR (rs := [4]) (by kernel_rfl) (by simp) ?_
  refine aC rfl (fun K hK => ?_) aN
  go_simp
  refine (Compare_int x.missing y.missing _).mono ?_
  rw [H1.out]
  rintro e w' ⟨rfl, rfl⟩
  go_wp2_with fail
  refine hK.out _ _ (by (try dsimp only); go_keep) (fun hH => ?_)
  clear hK K
  refine wR (rs := [9]) (by kernel_rfl) (by simp) ?_
  refine aC rfl (fun K hK => ?_) aN
  go_simp
  refine (Compare_int x.time y.time _).mono ?_
  rw [H2.out]
  rintro e w' ⟨rfl, rfl⟩
  go_wp2_with fail
  refine hK.out _ _ (by (try dsimp only); go_keep) (fun hH => ?_)
  clear hK K
  refine wR (rs := [14]) (by kernel_rfl) (by simp) ?_
  refine aC rfl (fun K hK => ?_) aN
  go_simp
  refine (Compare_int x.number y.number _).mono ?_
  rw [H3.out]
  rintro e w' ⟨rfl, rfl⟩
  go_wp2_with fail
  refine hK.out _ _ (by (try dsimp only); go_keep) (fun hH => ?_)
  clear hK K
  refine wR (rs := [15]) (by kernel_rfl) (by simp) ?_
  refine aC rfl (fun K hK => ?_) aN
  go_simp
  refine hK.out _ _ (by (try dsimp only); go_keep) (fun hH => ?_)
  clear hK K
  try simp only [Act.put, pX]
  refine wR (rs := [16]) (by kernel_rfl) (by simp) ?_
  refine aC rfl (fun K hK => ?_) aN
  go_simp
  refine (Or_int _ 3 3 [a1, a2, a3] _ A1 (by decide)).mono ?_
  rw [H5.out]
  rintro e w' ⟨rfl, rfl⟩
  go_wp2_with fail
  refine hK.out _ _ (by (try dsimp only); go_keep) (fun hH => ?_)
  clear hK K
  refine wT (i := 17) (v := ?_) rfl (by kernel_rfl) (by kernel_rfl) (by kernel_rfl) (fun _ _ _ h => h) (Or.inl ⟨by rfl, ?_⟩) (by assumption) ?_
  rotate_left 1
  · (intro w hS; (try dsimp only at hS); go_simp; try with_reducible rfl)
  simp only [Act.put, pX]
  refine wD (by kernel_rfl) ?_ _
  go_wp2_with fail
  go_ret
  exact ⟨rfl, K3⟩
theorem DeskRanking1_compares : Compares 62 #[] (fun x : DeskRow => .agg x.enc.toArray) cfR (fun _ => True) :=
  ⟨enters_of Tryz.func62 (by kernel_rfl) rfl, fun x y _ _ W => DeskRanking1_any x y W⟩
set_option maxRecDepth 100000 in
set_option maxHeartbeats 2000000 in
theorem l25Before_any (x y : DeskRow) (w : World) : Calls Tryz.prog 66 #[.agg #[.int .i64 x.number, .int .i64 x.missing, .int .i64 x.time], .agg #[.int .i64 y.number, .int .i64 y.missing, .int .i64 y.time]] w fun e w' => e = .returned (.bool (lessR x y)) ∧ Below w.heap.size w w' := by
  have K0 : Below w.heap.size w ((w.alloc (.cells #[.int .i64 x.number, .int .i64 x.missing, .int .i64 x.time] 41)).alloc (.cells #[.int .i64 y.number, .int .i64 y.missing, .int .i64 y.time] 41)) := ((Below.refl _ _).alloc (Nat.le_refl _) _).alloc (by simp) _
  have cx := ((Blk.at_ rfl).alloc _ : Blk ((w.alloc (.cells #[.int .i64 x.number, .int .i64 x.missing, .int .i64 x.time] 41)).alloc (.cells #[.int .i64 y.number, .int .i64 y.missing, .int .i64 y.time] 41)) w.heap.size 41 [.int .i64 x.number, .int .i64 x.missing, .int .i64 x.time]).cell
  have cy := (Blk.at_ (by simp) : Blk ((w.alloc (.cells #[.int .i64 x.number, .int .i64 x.missing, .int .i64 x.time] 41)).alloc (.cells #[.int .i64 y.number, .int .i64 y.missing, .int .i64 y.time] 41)) (w.heap.size + 1) 41 [.int .i64 y.number, .int .i64 y.missing, .int .i64 y.time]).cell
  by_cases h1 : x.missing = y.missing
  · have e1 : (x.missing != y.missing) = false := by simp [h1]
    by_cases h2 : x.time < y.time
    · have HR := Lib.hid (show lessR x y = true by simp [lessR, h1, h2])
      clear h1
      go_enter Tryz.func66, Tryz.ntmps66
      go_wp2_with fail
      go_ret
      exact ⟨ret_bool HR.out.symm, K0⟩
    · by_cases h3 : x.time = y.time
      · have e3 : (x.time == y.time) = true := by simp [h3]
        have HR := Lib.hid (show lessR x y = decide (x.number < y.number) by simp [lessR, h1, h3])
        clear h1 h3
        go_enter Tryz.func66, Tryz.ntmps66
        go_wp2_with fail
        go_ret
        exact ⟨ret_bool HR.out.symm, K0⟩
      · have e3 : (x.time == y.time) = false := by simp [h3]
        have HR := Lib.hid (show lessR x y = false by simp [lessR, h1, h2, h3])
        clear h1 h3
        go_enter Tryz.func66, Tryz.ntmps66
        go_wp2_with fail
        go_ret
        exact ⟨ret_bool HR.out.symm, K0⟩
  · have e1 : (x.missing != y.missing) = true := by simp [h1]
    have HR := Lib.hid (show lessR x y = decide (x.missing < y.missing) by simp [lessR, h1])
    clear h1
    go_enter Tryz.func66, Tryz.ntmps66
    go_wp2_with fail
    go_ret
    exact ⟨ret_bool HR.out.symm, K0⟩

end Go.Proofs.YtkimlajfhepfgaaGreat
