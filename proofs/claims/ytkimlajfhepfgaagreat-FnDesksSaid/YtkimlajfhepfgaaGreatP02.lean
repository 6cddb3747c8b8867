/- Joined texts of this proof: Card, DeskF, DelF, ShelfCS, SortD, RankP, DeskI. -/
import Derived.Shelf.Abstract
import Derived.Shelf.Small.Bits
import Derived.Shelf.Strconv.Itoa0
import Derived.Shelf.Sort.Plain
import Derived.Shelf.Slices.In.SortNone
import Derived.Test.YtkimlajfhepfgaaGreatChecked
import Derived.Test.YtkimlajfhepfgaaGreatP01
namespace Go.Proofs.YtkimlajfhepfgaaGreat
open Go.RowKit

def codeB (x : Int) : Bool := inB x 31 99
def codesB (xs : List Int) : Bool := decide (xs.length ≤ 12) && xs.all codeB
def punchB (x : Card) (p : Punch) (t : Int) : Bool := codeB p.code && inB p.time 0 36000 && decide (t ≤ p.time) && (decide (x.finish = -1) || decide (p.time ≤ x.finish))
def prevT (x : Card) : Nat → Int
  | 0 => x.start
  | k + 1 => match x.punches[k]? with | some p => p.time | none => 0
def okAt (x : Card) (k : Nat) : Bool := match x.punches[k]? with | some p => punchB x p (prevT x k) | none => true
def headB (x : Card) : Bool := inB x.number 1 9999 && inB x.start 0 36000 && (decide (x.finish = -1) || inB x.finish x.start 36000) && decide (x.punches.length ≤ 12)
def cardB (x : Card) : Bool := headB x && allTo x.punches.length (okAt x)
def finB (x : Card) : Bool := cardB x && decide (x.finish ≠ -1)
theorem prevT_succ {x : Card} {k : Nat} (hk : k < x.punches.length) : prevT x (k + 1) = x.punches[k].time := by simp [prevT, List.getElem?_eq_getElem hk]
theorem okAt_at {x : Card} {k : Nat} (hk : k < x.punches.length) : okAt x k = punchB x x.punches[k] (prevT x k) := by simp [okAt, List.getElem?_eq_getElem hk]
theorem headB_true {x : Card} (h : headB x = true) : inB x.number 1 9999 = true ∧ inB x.start 0 36000 = true ∧ (x.finish = -1 ∨ inB x.finish x.start 36000 = true) ∧ x.punches.length ≤ 12 := by
  unfold headB at h
  simp only [Bool.and_eq_true, Bool.or_eq_true, decide_eq_true_eq] at h
  exact ⟨h.1.1.1, h.1.1.2, h.1.2, h.2⟩
theorem inB_mk {n lo hi : Int} (h : lo ≤ n ∧ n ≤ hi) : inB n lo hi = true := by simp [inB, h]
theorem inB_no {n lo hi : Int} (h : ¬ (lo ≤ n ∧ n ≤ hi)) : inB n lo hi = false := by
  cases e : inB n lo hi with
  | false => rfl
  | true => exact absurd (inB_true e) h

theorem isCode_any (n : Int) (w : World) : Calls Tryz.prog 87 #[.int .i64 n] w fun e w' => e = .returned (.bool (codeB n)) ∧ w = w' := by
  go_enter Tryz.func87, Tryz.ntmps87
  go_wp2_with (go_at_call 45; refine (inside_any _ _ _ _).mono ?_; rintro e w' ⟨rfl, rfl⟩)
  go_ret
  exact ⟨rfl, rfl⟩

theorem l6Code_any (n : Int) (w : World) : Calls Tryz.prog 106 #[.int .i64 n] w fun e w' => e = .returned (.bool (codeB n)) ∧ w = w' := by
  go_enter Tryz.func106, Tryz.ntmps106
  go_wp2_with (go_at_call 77; refine (l1In_any _ _ _ _).mono ?_; rintro e w' ⟨rfl, rfl⟩)
  go_ret
  exact ⟨rfl, rfl⟩

theorem areCodes1_any (x : Int) (w : World) : Calls Tryz.prog 86 #[.int .i64 x] w fun e w' => e = .returned (.bool (!codeB x)) ∧ w = w' := by
  go_enter Tryz.func86, Tryz.ntmps86
  go_wp2_with (go_at_call 87; refine (isCode_any _ _).mono ?_; rintro e w' ⟨rfl, rfl⟩)
  go_ret
  exact ⟨rfl, rfl⟩
theorem areCodes1_answers (xs : List Int) (w : World) : Answers 86 #[] (.int .i64) (fun x => !codeB x) xs w :=
  ⟨enters_of Tryz.func86 (by kernel_rfl) rfl, fun i hi W _ => (areCodes1_any xs[i] W).mono fun e W' ⟨he, hw⟩ => ⟨he, hw ▸ Below.refl _ _⟩⟩
theorem not_any_allC {α : Type} (p : α → Bool) (l : List α) : (!l.any fun x => !p x) = l.all p := by
  induction l with
  | nil => rfl
  | cons x l ih => simp only [List.any_cons, List.all_cons, Bool.not_or, Bool.not_not, ih]

theorem areCodes_any (A : Option Addr) (n c : Nat) (xs : List Int) (w : World) (hx : Sees w 0 1 A n (ints xs)) (hn : n ≤ 1048576) :
    Calls Tryz.prog 40 #[.slice A n c] w fun e w' => e = .returned (.bool (codesB xs)) ∧ Below w.heap.size w w' := by
  have hl := hx.icount
  by_cases h : n ≤ 12
  · have HR := Lib.hid (show codesB xs = xs.all codeB by simp [codesB, hl, h])
    have h12 : decide ((n : Int) ≤ 12) = true := decide_eq_true (by omega)
    go_enter Tryz.func40, Tryz.ntmps40
    go_wp2_with fail
    refine (ContainsFunc_int 86 #[] _ A n c xs _ hx (by omega) (areCodes1_answers xs _)).mono ?_
    rintro e w1 ⟨rfl, b1⟩
    go_wp2_with fail
    go_ret
    exact ⟨ret_bool (by rw [HR.out, ← not_any_allC]), b1⟩
  · have HR := Lib.hid (show codesB xs = false by simp [codesB, hl, h])
    go_enter Tryz.func40, Tryz.ntmps40
    go_wp2_with fail
    go_ret
    exact ⟨ret_bool HR.out.symm, Below.refl _ _⟩

theorem l12Codes_any (A : Option Addr) (n c : Nat) (xs : List Int) (w : World) (hx : Sees w 0 1 A n (ints xs)) (hn : n ≤ 1048576) :
    Calls Tryz.prog 75 #[.slice A n c] w fun e w' => e = .returned (.bool (codesB xs)) ∧ w = w' := by
  have hl := hx.icount
  go_enter Tryz.func75, Tryz.ntmps75
  go_wp2_with fail
  go_loop [3] (fun i => ∃ k : Nat, k ≤ n ∧ i = .int .i64 k ∧ Hid ((xs.take k).all codeB = true)) (fun i => n - (intOf i).toNat)
  case atStart => exact ⟨0, Nat.zero_le _, rfl, Lib.hid rfl⟩
  case round =>
    obtain ⟨k, hk, rfl, HA⟩ := hrel
    by_cases hlt : k < n
    · obtain ⟨b, off, rfl, hkx, c0⟩ := hx.int hlt
      cases hc : codeB xs[k]
      · have HR := Lib.hid (show codesB xs = false by
          have : xs.all codeB = false := by rw [Bool.eq_false_iff]; intro h; have := List.all_eq_true.1 h xs[k] (List.getElem_mem hkx); rw [hc] at this; cases this
          simp [codesB, this])
        go_wp2_with (go_at_call 106; refine (l6Code_any _ _).mono ?_; rintro e w' ⟨rfl, rfl⟩)
        go_ret
        exact ⟨ret_bool HR.out.symm, rfl⟩
      · have HA2 := Lib.hid (show (xs.take (k + 1)).all codeB = true by rw [List.take_succ_eq_append_getElem hkx, List.all_append, HA.out]; simp [hc])
        go_wp2_with (go_at_call 106; refine (l6Code_any _ _).mono ?_; rintro e w' ⟨rfl, rfl⟩)
        go_round
        case rel => exact ⟨k + 1, by omega, by go_num, HA2⟩
        case measure => simp [intOf]; omega
    · have HR := Lib.hid (show codesB xs = decide ((n : Int) ≤ 12) by
        have h := HA.out
        rw [List.take_of_length_le (by omega)] at h
        simp only [codesB, h, hl, Bool.and_true, decide_eq_decide]
        omega)
      go_wp2_with fail
      go_ret
      exact ⟨ret_bool (by rw [HR.out]), rfl⟩

set_option maxRecDepth 100000 in
set_option maxHeartbeats 2000000 in
theorem IsCard_any (A : Option Addr) (n c lo : Nat) (x : Card) (w : World) (hx : Sees w lo 2 A n (x.punches.flatMap Punch.enc)) (hn : n ≤ 1048576) :
    Calls Tryz.prog 90 #[.agg #[.int .i64 x.number, .int .i64 x.start, .int .i64 x.finish, .slice A n c]] w fun e w' => e = .returned (.bool (cardB x)) ∧ Below w.heap.size w w' := by
  have hl := hx.count (by decide) (fun _ => rfl)
  have K0 : Below w.heap.size w (w.alloc (.cells #[.int .i64 x.number, .int .i64 x.start, .int .i64 x.finish, .slice A n c] 31)) := (Below.refl _ _).alloc (Nat.le_refl _) _
  have Bm0 : Blk (w.alloc (.cells #[.int .i64 x.number, .int .i64 x.start, .int .i64 x.finish, .slice A n c] 31)) w.heap.size 31 [.int .i64 x.number, .int .i64 x.start, .int .i64 x.finish, .slice A n c] := Blk.at_ rfl
  cases h1 : inB x.number 1 9999
  · have HF := Lib.hid (show cardB x = false by simp [cardB, headB, h1])
    go_enter Tryz.func90, Tryz.ntmps90
    go_wp2_with (first | (go_at_call 45; refine (inside_any _ _ _ _).mono ?_; rintro e w' ⟨rfl, rfl⟩) | (go_at_call 46; refine (isTime_any _ _).mono ?_; rintro e w' ⟨rfl, rfl⟩) | (go_at_call 87; refine (isCode_any _ _).mono ?_; rintro e w' ⟨rfl, rfl⟩))
    go_ret
    exact ⟨ret_bool HF.out.symm, K0⟩
  cases h2 : inB x.start 0 36000
  · have HF := Lib.hid (show cardB x = false by simp [cardB, headB, h2])
    go_enter Tryz.func90, Tryz.ntmps90
    go_wp2_with (first | (go_at_call 45; refine (inside_any _ _ _ _).mono ?_; rintro e w' ⟨rfl, rfl⟩) | (go_at_call 46; refine (isTime_any _ _).mono ?_; rintro e w' ⟨rfl, rfl⟩) | (go_at_call 87; refine (isCode_any _ _).mono ?_; rintro e w' ⟨rfl, rfl⟩))
    go_ret
    exact ⟨ret_bool HF.out.symm, K0⟩
  have h2b := inB_true h2
  by_cases h3 : x.finish = -1
  · have f1 : (x.finish != -1) = false := by simp [h3]
    have f2 : (x.finish == -1) = true := by simp [h3]
    by_cases h4 : n ≤ 12
    · have HC := Lib.hid (show cardB x = allTo n (okAt x) by simp [cardB, headB, h1, h2, h3, h4, hl])
      have HF3 := Lib.hid h3
      clear h3
      go_enter Tryz.func90, Tryz.ntmps90
      go_wp2_with (first | (go_at_call 45; refine (inside_any _ _ _ _).mono ?_; rintro e w' ⟨rfl, rfl⟩) | (go_at_call 46; refine (isTime_any _ _).mono ?_; rintro e w' ⟨rfl, rfl⟩) | (go_at_call 87; refine (isCode_any _ _).mono ?_; rintro e w' ⟨rfl, rfl⟩))
      go_loopw [3, 40] (fun t i wr => ∃ k : Nat, k ≤ n ∧ i = .int .i64 k ∧ t = .int .i64 (prevT x k) ∧ 0 ≤ prevT x k ∧ prevT x k ≤ 36000 ∧ Hid (allTo k (okAt x) = true) ∧ Blk wr w.heap.size 31 [.int .i64 x.number, .int .i64 x.start, .int .i64 x.finish, .slice A n c] ∧ Below w.heap.size w wr) (fun _ i _ => n - (intOf i).toNat)
      case atStart => exact ⟨0, Nat.zero_le _, rfl, rfl, h2b.1, h2b.2, Lib.hid rfl, Bm0, K0⟩
      case round =>
        obtain ⟨k, hk, rfl, rfl, hp0, hp1, HA, Bm, hb⟩ := hrel
        have cm := Bm.cell
        by_cases hlt : k < n
        · obtain ⟨b, off, rfl, hkx, c0, c1⟩ := (hx.next hb).elem2 (fun _ => rfl) hlt
          have hblt := World.block_lt_of_cell? wr _ c0
          have K2 : Below w.heap.size w (wr.alloc (.cells #[.int .i64 x.punches[k].code, .int .i64 x.punches[k].time] 109)) := hb.alloc hb.size _
          have B2 := Bm.alloc (.cells #[.int .i64 x.punches[k].code, .int .i64 x.punches[k].time] 109)
          have HO := okAt_at hkx
          have HPS := Lib.hid (prevT_succ hkx)
          have hbm := Bm.lt
          cases g1 : codeB x.punches[k].code
          · have HR := Lib.hid (show cardB x = false by rw [HC.out]; exact allTo_false hlt (HO.trans (by simp [punchB, g1])))
            clear HO
            go_wp2_with (first | (go_at_call 45; refine (inside_any _ _ _ _).mono ?_; rintro e w' ⟨rfl, rfl⟩) | (go_at_call 46; refine (isTime_any _ _).mono ?_; rintro e w' ⟨rfl, rfl⟩) | (go_at_call 87; refine (isCode_any _ _).mono ?_; rintro e w' ⟨rfl, rfl⟩))
            go_ret
            exact ⟨ret_bool HR.out.symm, K2⟩
          cases g2 : inB x.punches[k].time 0 36000
          · have HR := Lib.hid (show cardB x = false by rw [HC.out]; exact allTo_false hlt (HO.trans (by simp [punchB, g2])))
            clear HO
            go_wp2_with (first | (go_at_call 45; refine (inside_any _ _ _ _).mono ?_; rintro e w' ⟨rfl, rfl⟩) | (go_at_call 46; refine (isTime_any _ _).mono ?_; rintro e w' ⟨rfl, rfl⟩) | (go_at_call 87; refine (isCode_any _ _).mono ?_; rintro e w' ⟨rfl, rfl⟩))
            go_ret
            exact ⟨ret_bool HR.out.symm, K2⟩
          by_cases g3 : prevT x k ≤ x.punches[k].time
          · have g2b := inB_true g2
            have HA2 := Lib.hid (allTo_succ HA.out (HO.trans (by simp [punchB, g1, g2, g3, HF3.out])))
            clear HO
            go_wp2_with (first | (go_at_call 45; refine (inside_any _ _ _ _).mono ?_; rintro e w' ⟨rfl, rfl⟩) | (go_at_call 46; refine (isTime_any _ _).mono ?_; rintro e w' ⟨rfl, rfl⟩) | (go_at_call 87; refine (isCode_any _ _).mono ?_; rintro e w' ⟨rfl, rfl⟩))
            go_roundw
            case rel => exact ⟨k + 1, by omega, by go_num, by rw [HPS.out], by rw [HPS.out]; exact g2b.1, by rw [HPS.out]; exact g2b.2, HA2, B2, K2⟩
            case measure => simp [intOf]; omega
          · have HR := Lib.hid (show cardB x = false by rw [HC.out]; exact allTo_false hlt (HO.trans (by simp [punchB, g3])))
            clear HO
            go_wp2_with (first | (go_at_call 45; refine (inside_any _ _ _ _).mono ?_; rintro e w' ⟨rfl, rfl⟩) | (go_at_call 46; refine (isTime_any _ _).mono ?_; rintro e w' ⟨rfl, rfl⟩) | (go_at_call 87; refine (isCode_any _ _).mono ?_; rintro e w' ⟨rfl, rfl⟩))
            go_ret
            exact ⟨ret_bool HR.out.symm, K2⟩
        · obtain rfl : k = n := by omega
          go_wp2_with fail
          go_ret
          exact ⟨ret_bool (by rw [HC.out, HA.out]), hb⟩
    · have HF := Lib.hid (show cardB x = false by simp [cardB, headB, h4, hl])
      clear h3
      go_enter Tryz.func90, Tryz.ntmps90
      go_wp2_with (first | (go_at_call 45; refine (inside_any _ _ _ _).mono ?_; rintro e w' ⟨rfl, rfl⟩) | (go_at_call 46; refine (isTime_any _ _).mono ?_; rintro e w' ⟨rfl, rfl⟩) | (go_at_call 87; refine (isCode_any _ _).mono ?_; rintro e w' ⟨rfl, rfl⟩))
      go_ret
      exact ⟨ret_bool HF.out.symm, K0⟩
  · have f1 : (x.finish != -1) = true := by simp [h3]
    have f2 : (x.finish == -1) = false := by simp [h3]
    cases h5 : inB x.finish x.start 36000
    · have HF := Lib.hid (show cardB x = false by simp [cardB, headB, h3, h5])
      clear h3
      go_enter Tryz.func90, Tryz.ntmps90
      go_wp2_with (first | (go_at_call 45; refine (inside_any _ _ _ _).mono ?_; rintro e w' ⟨rfl, rfl⟩) | (go_at_call 46; refine (isTime_any _ _).mono ?_; rintro e w' ⟨rfl, rfl⟩) | (go_at_call 87; refine (isCode_any _ _).mono ?_; rintro e w' ⟨rfl, rfl⟩))
      go_ret
      exact ⟨ret_bool HF.out.symm, K0⟩
    by_cases h4 : n ≤ 12
    · have HC := Lib.hid (show cardB x = allTo n (okAt x) by simp [cardB, headB, h1, h2, h5, h4, hl])
      have HF3 := Lib.hid h3
      clear h3
      go_enter Tryz.func90, Tryz.ntmps90
      go_wp2_with (first | (go_at_call 45; refine (inside_any _ _ _ _).mono ?_; rintro e w' ⟨rfl, rfl⟩) | (go_at_call 46; refine (isTime_any _ _).mono ?_; rintro e w' ⟨rfl, rfl⟩) | (go_at_call 87; refine (isCode_any _ _).mono ?_; rintro e w' ⟨rfl, rfl⟩))
      go_loopw [3, 40] (fun t i wr => ∃ k : Nat, k ≤ n ∧ i = .int .i64 k ∧ t = .int .i64 (prevT x k) ∧ 0 ≤ prevT x k ∧ prevT x k ≤ 36000 ∧ Hid (allTo k (okAt x) = true) ∧ Blk wr w.heap.size 31 [.int .i64 x.number, .int .i64 x.start, .int .i64 x.finish, .slice A n c] ∧ Below w.heap.size w wr) (fun _ i _ => n - (intOf i).toNat)
      case atStart => exact ⟨0, Nat.zero_le _, rfl, rfl, h2b.1, h2b.2, Lib.hid rfl, Bm0, K0⟩
      case round =>
        obtain ⟨k, hk, rfl, rfl, hp0, hp1, HA, Bm, hb⟩ := hrel
        have cm := Bm.cell
        by_cases hlt : k < n
        · obtain ⟨b, off, rfl, hkx, c0, c1⟩ := (hx.next hb).elem2 (fun _ => rfl) hlt
          have hblt := World.block_lt_of_cell? wr _ c0
          have K2 : Below w.heap.size w (wr.alloc (.cells #[.int .i64 x.punches[k].code, .int .i64 x.punches[k].time] 109)) := hb.alloc hb.size _
          have B2 := Bm.alloc (.cells #[.int .i64 x.punches[k].code, .int .i64 x.punches[k].time] 109)
          have HO := okAt_at hkx
          have HPS := Lib.hid (prevT_succ hkx)
          have hbm := Bm.lt
          cases g1 : codeB x.punches[k].code
          · have HR := Lib.hid (show cardB x = false by rw [HC.out]; exact allTo_false hlt (HO.trans (by simp [punchB, g1])))
            clear HO
            go_wp2_with (first | (go_at_call 45; refine (inside_any _ _ _ _).mono ?_; rintro e w' ⟨rfl, rfl⟩) | (go_at_call 46; refine (isTime_any _ _).mono ?_; rintro e w' ⟨rfl, rfl⟩) | (go_at_call 87; refine (isCode_any _ _).mono ?_; rintro e w' ⟨rfl, rfl⟩))
            go_ret
            exact ⟨ret_bool HR.out.symm, K2⟩
          cases g2 : inB x.punches[k].time 0 36000
          · have HR := Lib.hid (show cardB x = false by rw [HC.out]; exact allTo_false hlt (HO.trans (by simp [punchB, g2])))
            clear HO
            go_wp2_with (first | (go_at_call 45; refine (inside_any _ _ _ _).mono ?_; rintro e w' ⟨rfl, rfl⟩) | (go_at_call 46; refine (isTime_any _ _).mono ?_; rintro e w' ⟨rfl, rfl⟩) | (go_at_call 87; refine (isCode_any _ _).mono ?_; rintro e w' ⟨rfl, rfl⟩))
            go_ret
            exact ⟨ret_bool HR.out.symm, K2⟩
          by_cases g3 : prevT x k ≤ x.punches[k].time
          · have g2b := inB_true g2
            by_cases g4 : x.punches[k].time ≤ x.finish
            · have HA2 := Lib.hid (allTo_succ HA.out (HO.trans (by simp [punchB, g1, g2, g3, g4])))
              clear HO
              go_wp2_with (first | (go_at_call 45; refine (inside_any _ _ _ _).mono ?_; rintro e w' ⟨rfl, rfl⟩) | (go_at_call 46; refine (isTime_any _ _).mono ?_; rintro e w' ⟨rfl, rfl⟩) | (go_at_call 87; refine (isCode_any _ _).mono ?_; rintro e w' ⟨rfl, rfl⟩))
              go_roundw
              case rel => exact ⟨k + 1, by omega, by go_num, by rw [HPS.out], by rw [HPS.out]; exact g2b.1, by rw [HPS.out]; exact g2b.2, HA2, B2, K2⟩
              case measure => simp [intOf]; omega
            · have HR := Lib.hid (show cardB x = false by rw [HC.out]; exact allTo_false hlt (HO.trans (by simp [punchB, g4, HF3.out])))
              clear HO
              go_wp2_with (first | (go_at_call 45; refine (inside_any _ _ _ _).mono ?_; rintro e w' ⟨rfl, rfl⟩) | (go_at_call 46; refine (isTime_any _ _).mono ?_; rintro e w' ⟨rfl, rfl⟩) | (go_at_call 87; refine (isCode_any _ _).mono ?_; rintro e w' ⟨rfl, rfl⟩))
              go_ret
              exact ⟨ret_bool HR.out.symm, K2⟩
          · have HR := Lib.hid (show cardB x = false by rw [HC.out]; exact allTo_false hlt (HO.trans (by simp [punchB, g3])))
            clear HO
            go_wp2_with (first | (go_at_call 45; refine (inside_any _ _ _ _).mono ?_; rintro e w' ⟨rfl, rfl⟩) | (go_at_call 46; refine (isTime_any _ _).mono ?_; rintro e w' ⟨rfl, rfl⟩) | (go_at_call 87; refine (isCode_any _ _).mono ?_; rintro e w' ⟨rfl, rfl⟩))
            go_ret
            exact ⟨ret_bool HR.out.symm, K2⟩
        · obtain rfl : k = n := by omega
          go_wp2_with fail
          go_ret
          exact ⟨ret_bool (by rw [HC.out, HA.out]), hb⟩
    · have HF := Lib.hid (show cardB x = false by simp [cardB, headB, h4, hl])
      clear h3
      go_enter Tryz.func90, Tryz.ntmps90
      go_wp2_with (first | (go_at_call 45; refine (inside_any _ _ _ _).mono ?_; rintro e w' ⟨rfl, rfl⟩) | (go_at_call 46; refine (isTime_any _ _).mono ?_; rintro e w' ⟨rfl, rfl⟩) | (go_at_call 87; refine (isCode_any _ _).mono ?_; rintro e w' ⟨rfl, rfl⟩))
      go_ret
      exact ⟨ret_bool HF.out.symm, K0⟩

set_option maxRecDepth 100000 in
set_option maxHeartbeats 2000000 in
theorem l12Card_any (A : Option Addr) (n c lo : Nat) (x : Card) (w : World) (hx : Sees w lo 2 A n (x.punches.flatMap Punch.enc)) (hn : n ≤ 1048576) :
    Calls Tryz.prog 80 #[.agg #[.int .i64 x.number, .int .i64 x.start, .int .i64 x.finish, .slice A n c]] w fun e w' => e = .returned (.bool (cardB x)) ∧ Below w.heap.size w w' := by
  have hl := hx.count (by decide) (fun _ => rfl)
  have K0 : Below w.heap.size w (w.alloc (.cells #[.int .i64 x.number, .int .i64 x.start, .int .i64 x.finish, .slice A n c] 31)) := (Below.refl _ _).alloc (Nat.le_refl _) _
  have Bm0 : Blk (w.alloc (.cells #[.int .i64 x.number, .int .i64 x.start, .int .i64 x.finish, .slice A n c] 31)) w.heap.size 31 [.int .i64 x.number, .int .i64 x.start, .int .i64 x.finish, .slice A n c] := Blk.at_ rfl
  cases h1 : inB x.number 1 9999
  · have HF := Lib.hid (show cardB x = false by simp [cardB, headB, h1])
    go_enter Tryz.func80, Tryz.ntmps80
    go_wp2_with (first | (go_at_call 77; refine (l1In_any _ _ _ _).mono ?_; rintro e w' ⟨rfl, rfl⟩) | (go_at_call 78; refine (l12Time_any _ _).mono ?_; rintro e w' ⟨rfl, rfl⟩) | (go_at_call 106; refine (l6Code_any _ _).mono ?_; rintro e w' ⟨rfl, rfl⟩))
    go_ret
    exact ⟨ret_bool HF.out.symm, K0⟩
  cases h2 : inB x.start 0 36000
  · have HF := Lib.hid (show cardB x = false by simp [cardB, headB, h2])
    go_enter Tryz.func80, Tryz.ntmps80
    go_wp2_with (first | (go_at_call 77; refine (l1In_any _ _ _ _).mono ?_; rintro e w' ⟨rfl, rfl⟩) | (go_at_call 78; refine (l12Time_any _ _).mono ?_; rintro e w' ⟨rfl, rfl⟩) | (go_at_call 106; refine (l6Code_any _ _).mono ?_; rintro e w' ⟨rfl, rfl⟩))
    go_ret
    exact ⟨ret_bool HF.out.symm, K0⟩
  have h2b := inB_true h2
  by_cases h3 : x.finish = -1
  · have f1 : (x.finish != -1) = false := by simp [h3]
    have f2 : (x.finish == -1) = true := by simp [h3]
    by_cases h4 : n ≤ 12
    · have HC := Lib.hid (show cardB x = allTo n (okAt x) by simp [cardB, headB, h1, h2, h3, h4, hl])
      have HF3 := Lib.hid h3
      clear h3
      go_enter Tryz.func80, Tryz.ntmps80
      go_wp2_with (first | (go_at_call 77; refine (l1In_any _ _ _ _).mono ?_; rintro e w' ⟨rfl, rfl⟩) | (go_at_call 78; refine (l12Time_any _ _).mono ?_; rintro e w' ⟨rfl, rfl⟩) | (go_at_call 106; refine (l6Code_any _ _).mono ?_; rintro e w' ⟨rfl, rfl⟩))
      go_loopw [3, 4] (fun t i wr => ∃ k : Nat, k ≤ n ∧ i = .int .i64 k ∧ t = .int .i64 (prevT x k) ∧ 0 ≤ prevT x k ∧ prevT x k ≤ 36000 ∧ Hid (allTo k (okAt x) = true) ∧ Blk wr w.heap.size 31 [.int .i64 x.number, .int .i64 x.start, .int .i64 x.finish, .slice A n c] ∧ Below w.heap.size w wr) (fun _ i _ => n - (intOf i).toNat)
      case atStart => exact ⟨0, Nat.zero_le _, rfl, rfl, h2b.1, h2b.2, Lib.hid rfl, Bm0, K0⟩
      case round =>
        obtain ⟨k, hk, rfl, rfl, hp0, hp1, HA, Bm, hb⟩ := hrel
        have cm := Bm.cell
        by_cases hlt : k < n
        · obtain ⟨b, off, rfl, hkx, c0, c1⟩ := (hx.next hb).elem2 (fun _ => rfl) hlt
          have hblt := World.block_lt_of_cell? wr _ c0
          have K2 : Below w.heap.size w (wr.alloc (.cells #[.int .i64 x.punches[k].code, .int .i64 x.punches[k].time] 109)) := hb.alloc hb.size _
          have B2 := Bm.alloc (.cells #[.int .i64 x.punches[k].code, .int .i64 x.punches[k].time] 109)
          have HO := okAt_at hkx
          have HPS := Lib.hid (prevT_succ hkx)
          have hbm := Bm.lt
          cases g1 : codeB x.punches[k].code
          · have HR := Lib.hid (show cardB x = false by rw [HC.out]; exact allTo_false hlt (HO.trans (by simp [punchB, g1])))
            clear HO
            go_wp2_with (first | (go_at_call 77; refine (l1In_any _ _ _ _).mono ?_; rintro e w' ⟨rfl, rfl⟩) | (go_at_call 78; refine (l12Time_any _ _).mono ?_; rintro e w' ⟨rfl, rfl⟩) | (go_at_call 106; refine (l6Code_any _ _).mono ?_; rintro e w' ⟨rfl, rfl⟩))
            go_ret
            exact ⟨ret_bool HR.out.symm, K2⟩
          cases g2 : inB x.punches[k].time 0 36000
          · have HR := Lib.hid (show cardB x = false by rw [HC.out]; exact allTo_false hlt (HO.trans (by simp [punchB, g2])))
            clear HO
            have e2 : inB x.punches[k].time (prevT x k) 36000 = false := inB_no (fun h => by rw [inB_mk (⟨by omega, h.2⟩ : 0 ≤ x.punches[k].time ∧ x.punches[k].time ≤ 36000)] at g2; cases g2)
            go_wp2_with (first | (go_at_call 77; refine (l1In_any _ _ _ _).mono ?_; rintro e w' ⟨rfl, rfl⟩) | (go_at_call 78; refine (l12Time_any _ _).mono ?_; rintro e w' ⟨rfl, rfl⟩) | (go_at_call 106; refine (l6Code_any _ _).mono ?_; rintro e w' ⟨rfl, rfl⟩))
            go_ret
            exact ⟨ret_bool HR.out.symm, K2⟩
          by_cases g3 : prevT x k ≤ x.punches[k].time
          · have g2b := inB_true g2
            have e2 : inB x.punches[k].time (prevT x k) 36000 = true := inB_mk ⟨g3, g2b.2⟩
            have HA2 := Lib.hid (allTo_succ HA.out (HO.trans (by simp [punchB, g1, g2, g3, HF3.out])))
            clear HO
            go_wp2_with (first | (go_at_call 77; refine (l1In_any _ _ _ _).mono ?_; rintro e w' ⟨rfl, rfl⟩) | (go_at_call 78; refine (l12Time_any _ _).mono ?_; rintro e w' ⟨rfl, rfl⟩) | (go_at_call 106; refine (l6Code_any _ _).mono ?_; rintro e w' ⟨rfl, rfl⟩))
            go_roundw
            case rel => exact ⟨k + 1, by omega, by go_num, by rw [HPS.out], by rw [HPS.out]; exact g2b.1, by rw [HPS.out]; exact g2b.2, HA2, B2, K2⟩
            case measure => simp [intOf]; omega
          · have HR := Lib.hid (show cardB x = false by rw [HC.out]; exact allTo_false hlt (HO.trans (by simp [punchB, g3])))
            clear HO
            have e2 : inB x.punches[k].time (prevT x k) 36000 = false := inB_no (fun h => g3 h.1)
            go_wp2_with (first | (go_at_call 77; refine (l1In_any _ _ _ _).mono ?_; rintro e w' ⟨rfl, rfl⟩) | (go_at_call 78; refine (l12Time_any _ _).mono ?_; rintro e w' ⟨rfl, rfl⟩) | (go_at_call 106; refine (l6Code_any _ _).mono ?_; rintro e w' ⟨rfl, rfl⟩))
            go_ret
            exact ⟨ret_bool HR.out.symm, K2⟩
        · obtain rfl : k = n := by omega
          go_wp2_with fail
          go_ret
          exact ⟨ret_bool (by rw [HC.out, HA.out]), hb⟩
    · have HF := Lib.hid (show cardB x = false by simp [cardB, headB, h4, hl])
      clear h3
      go_enter Tryz.func80, Tryz.ntmps80
      go_wp2_with (first | (go_at_call 77; refine (l1In_any _ _ _ _).mono ?_; rintro e w' ⟨rfl, rfl⟩) | (go_at_call 78; refine (l12Time_any _ _).mono ?_; rintro e w' ⟨rfl, rfl⟩) | (go_at_call 106; refine (l6Code_any _ _).mono ?_; rintro e w' ⟨rfl, rfl⟩))
      go_ret
      exact ⟨ret_bool HF.out.symm, K0⟩
  · have f1 : (x.finish != -1) = true := by simp [h3]
    have f2 : (x.finish == -1) = false := by simp [h3]
    cases h5 : inB x.finish x.start 36000
    · have HF := Lib.hid (show cardB x = false by simp [cardB, headB, h3, h5])
      clear h3
      go_enter Tryz.func80, Tryz.ntmps80
      go_wp2_with (first | (go_at_call 77; refine (l1In_any _ _ _ _).mono ?_; rintro e w' ⟨rfl, rfl⟩) | (go_at_call 78; refine (l12Time_any _ _).mono ?_; rintro e w' ⟨rfl, rfl⟩) | (go_at_call 106; refine (l6Code_any _ _).mono ?_; rintro e w' ⟨rfl, rfl⟩))
      go_ret
      exact ⟨ret_bool HF.out.symm, K0⟩
    by_cases h4 : n ≤ 12
    · have HC := Lib.hid (show cardB x = allTo n (okAt x) by simp [cardB, headB, h1, h2, h5, h4, hl])
      have HF3 := Lib.hid h3
      clear h3
      go_enter Tryz.func80, Tryz.ntmps80
      go_wp2_with (first | (go_at_call 77; refine (l1In_any _ _ _ _).mono ?_; rintro e w' ⟨rfl, rfl⟩) | (go_at_call 78; refine (l12Time_any _ _).mono ?_; rintro e w' ⟨rfl, rfl⟩) | (go_at_call 106; refine (l6Code_any _ _).mono ?_; rintro e w' ⟨rfl, rfl⟩))
      go_loopw [3, 4] (fun t i wr => ∃ k : Nat, k ≤ n ∧ i = .int .i64 k ∧ t = .int .i64 (prevT x k) ∧ 0 ≤ prevT x k ∧ prevT x k ≤ 36000 ∧ Hid (allTo k (okAt x) = true) ∧ Blk wr w.heap.size 31 [.int .i64 x.number, .int .i64 x.start, .int .i64 x.finish, .slice A n c] ∧ Below w.heap.size w wr) (fun _ i _ => n - (intOf i).toNat)
      case atStart => exact ⟨0, Nat.zero_le _, rfl, rfl, h2b.1, h2b.2, Lib.hid rfl, Bm0, K0⟩
      case round =>
        obtain ⟨k, hk, rfl, rfl, hp0, hp1, HA, Bm, hb⟩ := hrel
        have cm := Bm.cell
        by_cases hlt : k < n
        · obtain ⟨b, off, rfl, hkx, c0, c1⟩ := (hx.next hb).elem2 (fun _ => rfl) hlt
          have hblt := World.block_lt_of_cell? wr _ c0
          have K2 : Below w.heap.size w (wr.alloc (.cells #[.int .i64 x.punches[k].code, .int .i64 x.punches[k].time] 109)) := hb.alloc hb.size _
          have B2 := Bm.alloc (.cells #[.int .i64 x.punches[k].code, .int .i64 x.punches[k].time] 109)
          have HO := okAt_at hkx
          have HPS := Lib.hid (prevT_succ hkx)
          have hbm := Bm.lt
          cases g1 : codeB x.punches[k].code
          · have HR := Lib.hid (show cardB x = false by rw [HC.out]; exact allTo_false hlt (HO.trans (by simp [punchB, g1])))
            clear HO
            go_wp2_with (first | (go_at_call 77; refine (l1In_any _ _ _ _).mono ?_; rintro e w' ⟨rfl, rfl⟩) | (go_at_call 78; refine (l12Time_any _ _).mono ?_; rintro e w' ⟨rfl, rfl⟩) | (go_at_call 106; refine (l6Code_any _ _).mono ?_; rintro e w' ⟨rfl, rfl⟩))
            go_ret
            exact ⟨ret_bool HR.out.symm, K2⟩
          cases g2 : inB x.punches[k].time 0 36000
          · have HR := Lib.hid (show cardB x = false by rw [HC.out]; exact allTo_false hlt (HO.trans (by simp [punchB, g2])))
            clear HO
            have e2 : inB x.punches[k].time (prevT x k) 36000 = false := inB_no (fun h => by rw [inB_mk (⟨by omega, h.2⟩ : 0 ≤ x.punches[k].time ∧ x.punches[k].time ≤ 36000)] at g2; cases g2)
            go_wp2_with (first | (go_at_call 77; refine (l1In_any _ _ _ _).mono ?_; rintro e w' ⟨rfl, rfl⟩) | (go_at_call 78; refine (l12Time_any _ _).mono ?_; rintro e w' ⟨rfl, rfl⟩) | (go_at_call 106; refine (l6Code_any _ _).mono ?_; rintro e w' ⟨rfl, rfl⟩))
            go_ret
            exact ⟨ret_bool HR.out.symm, K2⟩
          by_cases g3 : prevT x k ≤ x.punches[k].time
          · have g2b := inB_true g2
            have e2 : inB x.punches[k].time (prevT x k) 36000 = true := inB_mk ⟨g3, g2b.2⟩
            by_cases g4 : x.punches[k].time ≤ x.finish
            · have HA2 := Lib.hid (allTo_succ HA.out (HO.trans (by simp [punchB, g1, g2, g3, g4])))
              clear HO
              go_wp2_with (first | (go_at_call 77; refine (l1In_any _ _ _ _).mono ?_; rintro e w' ⟨rfl, rfl⟩) | (go_at_call 78; refine (l12Time_any _ _).mono ?_; rintro e w' ⟨rfl, rfl⟩) | (go_at_call 106; refine (l6Code_any _ _).mono ?_; rintro e w' ⟨rfl, rfl⟩))
              go_roundw
              case rel => exact ⟨k + 1, by omega, by go_num, by rw [HPS.out], by rw [HPS.out]; exact g2b.1, by rw [HPS.out]; exact g2b.2, HA2, B2, K2⟩
              case measure => simp [intOf]; omega
            · have HR := Lib.hid (show cardB x = false by rw [HC.out]; exact allTo_false hlt (HO.trans (by simp [punchB, g4, HF3.out])))
              clear HO
              go_wp2_with (first | (go_at_call 77; refine (l1In_any _ _ _ _).mono ?_; rintro e w' ⟨rfl, rfl⟩) | (go_at_call 78; refine (l12Time_any _ _).mono ?_; rintro e w' ⟨rfl, rfl⟩) | (go_at_call 106; refine (l6Code_any _ _).mono ?_; rintro e w' ⟨rfl, rfl⟩))
              go_ret
              exact ⟨ret_bool HR.out.symm, K2⟩
          · have HR := Lib.hid (show cardB x = false by rw [HC.out]; exact allTo_false hlt (HO.trans (by simp [punchB, g3])))
            clear HO
            have e2 : inB x.punches[k].time (prevT x k) 36000 = false := inB_no (fun h => g3 h.1)
            go_wp2_with (first | (go_at_call 77; refine (l1In_any _ _ _ _).mono ?_; rintro e w' ⟨rfl, rfl⟩) | (go_at_call 78; refine (l12Time_any _ _).mono ?_; rintro e w' ⟨rfl, rfl⟩) | (go_at_call 106; refine (l6Code_any _ _).mono ?_; rintro e w' ⟨rfl, rfl⟩))
            go_ret
            exact ⟨ret_bool HR.out.symm, K2⟩
        · obtain rfl : k = n := by omega
          go_wp2_with fail
          go_ret
          exact ⟨ret_bool (by rw [HC.out, HA.out]), hb⟩
    · have HF := Lib.hid (show cardB x = false by simp [cardB, headB, h4, hl])
      clear h3
      go_enter Tryz.func80, Tryz.ntmps80
      go_wp2_with (first | (go_at_call 77; refine (l1In_any _ _ _ _).mono ?_; rintro e w' ⟨rfl, rfl⟩) | (go_at_call 78; refine (l12Time_any _ _).mono ?_; rintro e w' ⟨rfl, rfl⟩) | (go_at_call 106; refine (l6Code_any _ _).mono ?_; rintro e w' ⟨rfl, rfl⟩))
      go_ret
      exact ⟨ret_bool HF.out.symm, K0⟩

end Go.Proofs.YtkimlajfhepfgaaGreat

namespace Go.Proofs.YtkimlajfhepfgaaGreat
open Go.RowKit

def isNo (v : Int) (r : DeskRow) : Bool := decide (r.number = v)
def doneB (rows : List DeskRow) (v : Int) : Bool := rows.any (isNo v)
def rowB (known : List Int) (before : List DeskRow) (r : DeskRow) : Bool := hasI known r.number && !doneB before r.number && inB r.missing 0 12 && inB r.time 0 36000
def rowAt (d : DeskV) (j : Nat) : Bool := match d.done[j]? with | some r => rowB d.known (d.done.take j) r | none => true
def topB (d : DeskV) : Bool := codesB d.codes && decide (d.known.length ≤ 8) && risingB 1 9999 d.known && d.queue.all finB && d.trouble.all finB && decide (d.queue.length + d.done.length + d.trouble.length ≤ 10)
def deskB (d : DeskV) : Bool := topB d && allTo d.done.length (rowAt d)
theorem rowAt_at {d : DeskV} {k : Nat} (hk : k < d.done.length) : rowAt d k = rowB d.known (d.done.take k) d.done[k] := by simp [rowAt, List.getElem?_eq_getElem hk]
theorem topB_not {d : DeskV} (h : topB d = false) : deskB d = false := by simp [deskB, h]
theorem SeesFlat.take {α : Type} {enc : α → List Value} {w : World} {lo s n : Nat} {A : Option Addr} {xs : List α} (h : Sees w lo s A n (xs.flatMap enc)) (hs : 0 < s) (henc : ∀ x, (enc x).length = s) (k : Nat) (hk : k ≤ n) : Sees w lo s A k ((xs.take k).flatMap enc) := by
  have hc := h.count hs henc
  refine ⟨by rw [flatMap_len _ (fun x _ => henc x), List.length_take]; congr 1; omega, fun hk0 => ?_⟩
  obtain ⟨b, off, e, h1, h2, h3⟩ := h.at' (by omega)
  refine ⟨b, off, e, h1, h2, fun j u hu => h3 j u ?_⟩
  have hj := (List.getElem?_eq_some_iff.1 hu).1
  conv => lhs; rw [← List.take_append_drop k xs, List.flatMap_append, List.getElem?_append_left hj]
  exact hu
theorem Contains_has (A : Option Addr) (n c : Nat) (xs : List Int) (v : Int) (w : World) (hx : Sees w 0 1 A n (ints xs)) (hn : n ≤ 140737488355328) :
    Calls Tryz.prog 43 #[.slice A n c, .int .i64 v] w fun e w' => e = .returned (.bool (hasI xs v)) ∧ Quiet w w' := Contains_int A n c xs v w hx hn

set_option maxRecDepth 100000 in
theorem IndexFunc_Card (g : Nat) (lb : Array Value) (p : Hd Card → Bool) (A : Option Addr) (n c : Nat) (xs : List (Hd Card)) (w : World) (hx : Sees w 0 4 A n (xs.flatMap cardSh.enc)) (hn : n ≤ 140737488355328) (hp : Answers g lb (fun x : Hd Card => .agg (cardSh.enc x).toArray) p xs w) :
    Calls Tryz.prog 108 #[.slice A n c, .func (.func g) #[] lb] w fun e w' => ∃ r, e = .returned (.int .i64 r) ∧ FirstAt p xs r ∧ Below w.heap.size w w' := by
  have hl := hx.count (enc := cardSh.enc) (by decide) (fun _ => rfl)
  have eg := hp.enters
  go_enter Tryz.func108, Tryz.ntmps108
  go_wp2_with fail
  go_loopw [8] (fun v wr => ∃ k : Nat, k ≤ n ∧ v = .int .i64 k ∧ Hid ((xs.take k).any p = false) ∧ Below w.heap.size w wr) (fun v _ => n - (intOf v).toNat)
  case atStart => exact ⟨0, Nat.zero_le _, rfl, by simp [Hid], Below.refl _ _⟩
  case round =>
    obtain ⟨k, hk, rfl, ht, hb⟩ := hrel
    by_cases hlt : k < n
    · obtain ⟨b, off, rfl, hkx, c0, c1, c2, c3⟩ := Sees.elem4 (enc := cardSh.enc) (hx.next hb) (fun _ => rfl) hlt
      go_wp2_with fail
      refine (hp.at' k hkx _ hb).mono ?_
      cases hpk : p xs[k]
      · rintro e w1 ⟨rfl, b1⟩
        go_wp2_with fail
        go_roundw
        case rel => exact ⟨k + 1, by omega, by go_num, any_take_succ hkx ht.out hpk, bel_then hb b1⟩
        case measure => simp [intOf]; omega
      · rintro e w1 ⟨rfl, b1⟩
        go_wp2_with fail
        go_ret
        exact ⟨_, rfl, .inr ⟨k, rfl, hkx, hpk, ht.out⟩, bel_then hb b1⟩
    · go_wp2_with fail
      go_ret
      have h := ht.out
      rw [List.take_of_length_le (by omega)] at h
      exact ⟨_, rfl, .inl ⟨rfl, h⟩, hb⟩

theorem ContainsFunc_Card (g : Nat) (lb : Array Value) (p : Hd Card → Bool) (A : Option Addr) (n c : Nat) (xs : List (Hd Card)) (w : World) (hx : Sees w 0 4 A n (xs.flatMap cardSh.enc)) (hn : n ≤ 140737488355328) (hp : Answers g lb (fun x : Hd Card => .agg (cardSh.enc x).toArray) p xs w) :
    Calls Tryz.prog 88 #[.slice A n c, .func (.func g) #[] lb] w fun e w' => e = .returned (.bool (xs.any p)) ∧ Below w.heap.size w w' := by
  go_enter Tryz.func88, Tryz.ntmps88
  go_wp2_with fail
  refine (IndexFunc_Card g lb p A n c xs w hx hn hp).mono ?_
  rintro e w1 ⟨r, rfl, hr, b1⟩
  have hany := Lib.hid hr.any
  go_wp2_with fail
  all_goals go_ret
  all_goals exact ⟨ret_bool hany.out, b1⟩


set_option maxRecDepth 100000 in
theorem IndexFunc_DeskRow (g : Nat) (lb : Array Value) (p : DeskRow → Bool) (A : Option Addr) (n c : Nat) (xs : List DeskRow) (w : World) (hx : Sees w 0 3 A n (xs.flatMap DeskRow.enc)) (hn : n ≤ 140737488355328) (hp : Answers g lb (fun x : DeskRow => .agg x.enc.toArray) p xs w) :
    Calls Tryz.prog 109 #[.slice A n c, .func (.func g) #[] lb] w fun e w' => ∃ r, e = .returned (.int .i64 r) ∧ FirstAt p xs r ∧ Below w.heap.size w w' := by
  have hl := hx.count (by decide) (fun _ => rfl)
  have eg := hp.enters
  go_enter Tryz.func109, Tryz.ntmps109
  go_wp2_with fail
  go_loopw [8] (fun v wr => ∃ k : Nat, k ≤ n ∧ v = .int .i64 k ∧ Hid ((xs.take k).any p = false) ∧ Below w.heap.size w wr) (fun v _ => n - (intOf v).toNat)
  case atStart => exact ⟨0, Nat.zero_le _, rfl, by simp [Hid], Below.refl _ _⟩
  case round =>
    obtain ⟨k, hk, rfl, ht, hb⟩ := hrel
    by_cases hlt : k < n
    · obtain ⟨b, off, rfl, hkx, c0, c1, c2⟩ := (hx.next hb).elem3 (fun _ => rfl) hlt
      go_wp2_with fail
      refine (hp.at' k hkx _ hb).mono ?_
      cases hpk : p xs[k]
      · rintro e w1 ⟨rfl, b1⟩
        go_wp2_with fail
        go_roundw
        case rel => exact ⟨k + 1, by omega, by go_num, any_take_succ hkx ht.out hpk, bel_then hb b1⟩
        case measure => simp [intOf]; omega
      · rintro e w1 ⟨rfl, b1⟩
        go_wp2_with fail
        go_ret
        exact ⟨_, rfl, .inr ⟨k, rfl, hkx, hpk, ht.out⟩, bel_then hb b1⟩
    · go_wp2_with fail
      go_ret
      have h := ht.out
      rw [List.take_of_length_le (by omega)] at h
      exact ⟨_, rfl, .inl ⟨rfl, h⟩, hb⟩

theorem ContainsFunc_DeskRow (g : Nat) (lb : Array Value) (p : DeskRow → Bool) (A : Option Addr) (n c : Nat) (xs : List DeskRow) (w : World) (hx : Sees w 0 3 A n (xs.flatMap DeskRow.enc)) (hn : n ≤ 140737488355328) (hp : Answers g lb (fun x : DeskRow => .agg x.enc.toArray) p xs w) :
    Calls Tryz.prog 92 #[.slice A n c, .func (.func g) #[] lb] w fun e w' => e = .returned (.bool (xs.any p)) ∧ Below w.heap.size w w' := by
  go_enter Tryz.func92, Tryz.ntmps92
  go_wp2_with fail
  refine (IndexFunc_DeskRow g lb p A n c xs w hx hn hp).mono ?_
  rintro e w1 ⟨r, rfl, hr, b1⟩
  have hany := Lib.hid hr.any
  go_wp2_with fail
  all_goals go_ret
  all_goals exact ⟨ret_bool hany.out, b1⟩


theorem areFinished1_any (A : Option Addr) (n c : Nat) (x : Card) (w : World) (hx : Sees w 0 2 A n (x.punches.flatMap Punch.enc)) (hn : n ≤ 1048576) :
    Calls Tryz.prog 89 #[.agg #[.int .i64 x.number, .int .i64 x.start, .int .i64 x.finish, .slice A n c]] w fun e w' => e = .returned (.bool (!finB x)) ∧ Below w.heap.size w w' := by
  have K0 : Below w.heap.size w (w.alloc (.cells #[.int .i64 x.number, .int .i64 x.start, .int .i64 x.finish, .slice A n c] 31)) := (Below.refl _ _).alloc (Nat.le_refl _) _
  have B0 : Blk (w.alloc (.cells #[.int .i64 x.number, .int .i64 x.start, .int .i64 x.finish, .slice A n c] 31)) w.heap.size 31 [.int .i64 x.number, .int .i64 x.start, .int .i64 x.finish, .slice A n c] := Blk.at_ rfl
  cases hc : cardB x
  · have HF := Lib.hid (show (!finB x) = true by simp [finB, hc])
    go_enter Tryz.func89, Tryz.ntmps89
    go_wp2_with fail
    refine (IsCard_any A n c 0 x _ (hx.next K0) hn).mono ?_
    rw [hc]
    rintro e w1 ⟨rfl, b1⟩
    have c1 := (B0.next b1).cell
    go_wp2_with fail
    go_ret
    exact ⟨ret_bool HF.out.symm, bel_then K0 b1⟩
  · by_cases hf : x.finish = -1
    · have HF := Lib.hid (show (!finB x) = true by simp [finB, hf])
      have e1 : (x.finish == -1) = true := by simp [hf]
      clear hf
      go_enter Tryz.func89, Tryz.ntmps89
      go_wp2_with fail
      refine (IsCard_any A n c 0 x _ (hx.next K0) hn).mono ?_
      rw [hc]
      rintro e w1 ⟨rfl, b1⟩
      have c1 := (B0.next b1).cell
      go_wp2_with fail
      go_ret
      exact ⟨ret_bool HF.out.symm, bel_then K0 b1⟩
    · have HF := Lib.hid (show (!finB x) = false by simp [finB, hf, hc])
      have e1 : (x.finish == -1) = false := by simp [hf]
      clear hf
      go_enter Tryz.func89, Tryz.ntmps89
      go_wp2_with fail
      refine (IsCard_any A n c 0 x _ (hx.next K0) hn).mono ?_
      rw [hc]
      rintro e w1 ⟨rfl, b1⟩
      have c1 := (B0.next b1).cell
      go_wp2_with fail
      go_ret
      exact ⟨ret_bool HF.out.symm, bel_then K0 b1⟩
theorem areFinished1_answers (rs : List (Hd Card)) (w : World) (hr : ∀ r ∈ rs, Sees w 0 2 r.A r.n (r.x.punches.flatMap Punch.enc) ∧ r.n ≤ 1048576) :
    Answers 89 #[] (fun x : Hd Card => .agg (cardSh.enc x).toArray) (fun r => !finB r.x) rs w :=
  ⟨enters_of Tryz.func89 (by kernel_rfl) rfl, fun i hi W hb => areFinished1_any rs[i].A rs[i].n rs[i].c rs[i].x W ((hr rs[i] (List.getElem_mem hi)).1.next hb) (hr rs[i] (List.getElem_mem hi)).2⟩

theorem areFinished_any (A : Option Addr) (n c : Nat) (xs : List Card) (w : World) (hx : SeesN cardSh w 0 A n xs) (hn : n ≤ 1048576) (hi : ∀ x ∈ xs, x.cnt ≤ 1048576) :
    Calls Tryz.prog 42 #[.slice A n c] w fun e w' => e = .returned (.bool (xs.all finB)) ∧ Below w.heap.size w w' := by
  obtain ⟨rs, hrs, ho, hin⟩ := hx
  have HR := Lib.hid (show (!rs.any fun r => !finB r.x) = xs.all finB by rw [not_any_allC (fun r : Hd Card => finB r.x), ← hrs, List.all_map]; rfl)
  have hq : ∀ r ∈ rs, Sees w 0 2 r.A r.n (r.x.punches.flatMap Punch.enc) ∧ r.n ≤ 1048576 := fun r hr => ⟨hin r hr, by
    have h1 := (hin r hr).count (by decide) (fun _ => rfl)
    have h2 := hi r.x (by rw [← hrs]; exact List.mem_map_of_mem hr)
    unfold Card.cnt at h2
    omega⟩
  have ans := areFinished1_answers rs w hq
  clear hq hin hrs
  go_enter Tryz.func42, Tryz.ntmps42
  go_wp2_with fail
  refine (ContainsFunc_Card 89 #[] _ A n c rs _ ho (by omega) ans).mono ?_
  generalize (rs.any fun r => !finB r.x) = z at *
  rintro e w1 ⟨rfl, b1⟩
  go_wp2_with fail
  go_ret
  exact ⟨ret_bool HR.out, b1⟩

theorem isDone1_any (r : DeskRow) (v : Int) (B : Nat) (w : World) (h1 : w.cell? ⟨B, 0, none⟩ = some (.int .i64 v)) (hB : B < w.heap.size) :
    Calls Tryz.prog 93 #[.agg #[.int .i64 r.number, .int .i64 r.missing, .int .i64 r.time], .pointer (some ⟨B, 0, none⟩)] w fun e w' => e = .returned (.bool (isNo v r)) ∧ Below w.heap.size w w' := by
  have K0 : Below w.heap.size w (w.alloc (.cells #[.int .i64 r.number, .int .i64 r.missing, .int .i64 r.time] 41)) := (Below.refl _ _).alloc (Nat.le_refl _) _
  have HE := Lib.hid (show isNo v r = (r.number == v) by rw [isNo, Bool.eq_iff_iff]; simp)
  go_enter Tryz.func93, Tryz.ntmps93
  go_wp2_with fail
  go_ret
  exact ⟨ret_bool HE.out.symm, K0⟩
theorem isDone1_answers (rows : List DeskRow) (v : Int) (B : Nat) (w : World) (h1 : Blk w B 3 [.int .i64 v]) :
    Answers 93 #[.pointer (some ⟨B, 0, none⟩)] (fun x : DeskRow => .agg x.enc.toArray) (isNo v) rows w :=
  ⟨enters_of Tryz.func93 (by kernel_rfl) rfl, fun i hi W hb => isDone1_any rows[i] v B W ((h1.next hb).cell 0) (h1.next hb).lt⟩

theorem isDone_any (A : Option Addr) (n c : Nat) (rows : List DeskRow) (v : Int) (w : World) (hx : Sees w 0 3 A n (rows.flatMap DeskRow.enc)) (hn : n ≤ 1048576) :
    Calls Tryz.prog 44 #[.slice A n c, .int .i64 v] w fun e w' => e = .returned (.bool (doneB rows v)) ∧ Below w.heap.size w w' := by
  have hmf : ∀ (fn : Fn) (first cap : Array Value) (w : World), (Instr.makeFunc fn first cap).run Tryz.prog w = .ok (.func fn first cap) w := fun _ _ _ _ => rfl
  have K0 : Below w.heap.size w (w.alloc (.cells #[.int .i64 v] 3)) := (Below.refl _ _).alloc (Nat.le_refl _) _
  have B0 : Blk (w.alloc (.cells #[.int .i64 v] 3)) w.heap.size 3 [.int .i64 v] := Blk.at_ rfl
  have ans := isDone1_answers rows v _ _ B0
  have hx' := hx.next K0
  clear B0
  go_enter Tryz.func44, Tryz.ntmps44
  go_wp2_with fail
  refine (ContainsFunc_DeskRow 93 #[.pointer (some ⟨w.heap.size, 0, none⟩)] _ A n c rows _ hx' (by omega) ans).mono ?_
  rintro e w1 ⟨rfl, b1⟩
  go_wp2_with fail
  go_ret
  exact ⟨rfl, bel_then K0 b1⟩

theorem l25Done_any (A : Option Addr) (n c : Nat) (rows : List DeskRow) (v : Int) (w : World) (hx : Sees w 0 3 A n (rows.flatMap DeskRow.enc)) (hn : n ≤ 1048576) :
    Calls Tryz.prog 65 #[.slice A n c, .int .i64 v] w fun e w' => e = .returned (.bool (doneB rows v)) ∧ w = w' := by
  have hl := hx.count (by decide) (fun _ => rfl)
  go_enter Tryz.func65, Tryz.ntmps65
  go_wp2_with fail
  go_loop [5] (fun i => ∃ k : Nat, k ≤ n ∧ i = .int .i64 k ∧ Hid (doneB (rows.take k) v = false)) (fun i => n - (intOf i).toNat)
  case atStart => exact ⟨0, Nat.zero_le _, rfl, Lib.hid rfl⟩
  case round =>
    obtain ⟨k, hk, rfl, HA⟩ := hrel
    by_cases hlt : k < n
    · obtain ⟨b, off, rfl, hkx, c0, c1, c2⟩ := hx.elem3 (fun _ => rfl) hlt
      by_cases hc : rows[k].number = v
      · have HR := Lib.hid (show doneB rows v = true from List.any_eq_true.2 ⟨rows[k], List.getElem_mem hkx, by simp [isNo, hc]⟩)
        have e1 : (rows[k].number == v) = true := by simp [hc]
        clear hc
        go_wp2_with fail
        go_ret
        exact ⟨ret_bool HR.out.symm, rfl⟩
      · have HA2 := Lib.hid (show doneB (rows.take (k + 1)) v = false from any_take_succ hkx HA.out (by simp [isNo, hc]))
        have e1 : (rows[k].number == v) = false := by simp [hc]
        clear hc
        go_wp2_with fail
        go_round
        case rel => exact ⟨k + 1, by omega, by go_num, HA2⟩
        case measure => simp [intOf]; omega
    · have HR := Lib.hid (show doneB rows v = false by
        have h := HA.out
        rwa [List.take_of_length_le (by omega)] at h)
      go_wp2_with fail
      go_ret
      exact ⟨ret_bool HR.out.symm, rfl⟩

set_option maxRecDepth 100000 in
theorem l25Cards_any (A : Option Addr) (n c : Nat) (xs : List Card) (w : World) (hx : SeesN cardSh w 0 A n xs) (hn : n ≤ 1048576) (hi : ∀ x ∈ xs, x.cnt ≤ 1048576) :
    Calls Tryz.prog 79 #[.slice A n c] w fun e w' => e = .returned (.bool (xs.all finB)) ∧ Below w.heap.size w w' := by
  have hl := hx.count
  go_enter Tryz.func79, Tryz.ntmps79
  go_wp2_with fail
  go_loopw [3] (fun i wr => ∃ k : Nat, k ≤ n ∧ i = .int .i64 k ∧ Hid ((xs.take k).all finB = true) ∧ Below w.heap.size w wr) (fun i _ => n - (intOf i).toNat)
  case atStart => exact ⟨0, Nat.zero_le _, rfl, Lib.hid rfl, Below.refl _ _⟩
  case round =>
    obtain ⟨k, hk, rfl, HA, hb⟩ := hrel
    by_cases hlt : k < n
    · obtain ⟨b, off, B0, mc, cc0, rfl, hkx, x0, x1, x2, x3, hxi⟩ := SeesCard.elem (hx.next hb) hlt
      have hmc := hxi.count (by decide) (fun _ => rfl)
      have hmb : mc ≤ 1048576 := by
        have h1 := hi xs[k] (List.getElem_mem hkx)
        unfold Card.cnt at h1
        omega
      have hblt : b < wr.heap.size := World.block_lt_of_cell? wr _ x0
      have HMC := Lib.hid hmc
      clear hmc
      have HNO := Lib.hid (fun h : finB xs[k] = false => show xs.all finB = false by rw [Bool.eq_false_iff]; intro h2; have := List.all_eq_true.1 h2 xs[k] (List.getElem_mem hkx); rw [h] at this; cases this)
      have HYES := Lib.hid (fun h : finB xs[k] = true => show (xs.take (k + 1)).all finB = true by rw [List.take_succ_eq_append_getElem hkx, List.all_append, HA.out]; simp [h])
      go_wp2_with fail
      refine (l12Card_any B0 mc cc0 0 xs[k] _ hxi hmb).mono ?_
      cases g1 : cardB xs[k]
      · rintro e w1 ⟨rfl, b1⟩
        have HR := Lib.hid (HNO.out (by simp [finB, g1]))
        clear HNO HYES
        go_wp2_with fail
        go_ret
        exact ⟨ret_bool HR.out.symm, bel_then hb b1⟩
      · rintro e w1 ⟨rfl, b1⟩
        have y2 := ((bcell b1).1 _ (off + k * 4 + 2) hblt).trans x2
        by_cases hf : xs[k].finish = -1
        · have HR := Lib.hid (HNO.out (by simp [finB, hf]))
          have e1 : (xs[k].finish == -1) = true := by simp [hf]
          clear HNO HYES hf
          go_wp2_with fail
          go_ret
          exact ⟨ret_bool HR.out.symm, bel_then hb b1⟩
        · have HA2 := Lib.hid (HYES.out (by simp [finB, g1, hf]))
          have e1 : (xs[k].finish == -1) = false := by simp [hf]
          clear HNO HYES hf
          go_wp2_with fail
          go_roundw
          case rel => exact ⟨k + 1, by omega, by go_num, HA2, bel_then hb b1⟩
          case measure => simp [intOf]; omega
    · have HR := Lib.hid (show xs.all finB = true by
        have h := HA.out
        rwa [List.take_of_length_le (by omega)] at h)
      go_wp2_with fail
      go_ret
      exact ⟨ret_bool HR.out.symm, hb⟩

end Go.Proofs.YtkimlajfhepfgaaGreat

namespace Go.Proofs.YtkimlajfhepfgaaGreat
open Go.RowKit

/-- The function value answers p at each element, in every world in which blocks of S alone have changed. -/
structure AnswersO {α : Type} (g : Nat) (lb : Array Value) (enc : α → Value) (p : α → Bool) (xs : List α) (S : Nat → Prop) (w : World) : Prop where
  enters : ∀ args w, (callFunc g args).run Tryz.prog w = .ok (.enter g args) w
  at' : ∀ (x : α), x ∈ xs → ∀ W : World, Only S w W → Calls Tryz.prog g (#[enc x] ++ lb) W fun e W' => e = .returned (.bool (p x)) ∧ Below W.heap.size W W'
theorem AnswersO.plain {α : Type} {g : Nat} {lb : Array Value} {enc : α → Value} {p : α → Bool} {xs : List α} {S : Nat → Prop} {w : World} (h : AnswersO g lb enc p xs S w) : Answers g lb enc p xs w :=
  ⟨h.enters, fun i hi W hb => h.at' xs[i] (List.getElem_mem hi) W (Only.of_below hb)⟩
end Go.Proofs.YtkimlajfhepfgaaGreat

namespace Go.Proofs.YtkimlajfhepfgaaGreat
open Go.Shelf
end Go.Proofs.YtkimlajfhepfgaaGreat

namespace Go.Proofs.YtkimlajfhepfgaaGreat
open Go.RowKit

/-- The library's insertion sort at places a to b of a row. -/
def rowIDeskRow (lt : DeskRow → DeskRow → Bool) (xs : List DeskRow) (a i : Nat) : List DeskRow := xs.take a ++ sortR lt ((xs.drop a).take (i - a)) ++ xs.drop i
end Go.Proofs.YtkimlajfhepfgaaGreat

namespace Go.Proofs.YtkimlajfhepfgaaGreat
open Go.RowKit

end Go.Proofs.YtkimlajfhepfgaaGreat

namespace Go.Proofs.YtkimlajfhepfgaaGreat
open Go.RowKit

set_option maxRecDepth 100000 in
set_option maxHeartbeats 4000000 in
theorem IsDesk_any (h : DeskH) (d : DeskV) (w : World) (hs : SeesDesk w 0 h d) (hn : DeskFit 1048576 h d) (hcap : h.n3 ≤ h.c3) :
    Calls Tryz.prog 10 #[.agg #[.slice h.A0 h.n0 h.c0, .slice h.A1 h.n1 h.c1, .slice h.A2 h.n2 h.c2, .slice h.A3 h.n3 h.c3, .slice h.A4 h.n4 h.c4]] w fun e w' => e = .returned (.bool (deskB d)) ∧ Below w.heap.size w w' := by
  obtain ⟨A0, n0, c0, A1, n1, c1, A2, n2, c2, A3, n3, c3, A4, n4, c4⟩ := h
  obtain ⟨s0, s1, s2, s3, s4⟩ := hs
  obtain ⟨ft0, ft1, ft2, fx2, ft3, ft4, fx4⟩ := hn
  dsimp only at *
  have l1 := s1.icount
  have l2 := s2.count
  have l3 := s3.count (by decide) (fun _ => rfl)
  have l4 := s4.count
  have KB : Below w.heap.size w (w.alloc (.cells #[.slice A0 n0 c0, .slice A1 n1 c1, .slice A2 n2 c2, .slice A3 n3 c3, .slice A4 n4 c4] 28)) := (Below.refl _ _).alloc (Nat.le_refl _) _
  have PB : Blk (w.alloc (.cells #[.slice A0 n0 c0, .slice A1 n1 c1, .slice A2 n2 c2, .slice A3 n3 c3, .slice A4 n4 c4] 28)) w.heap.size 28 [.slice A0 n0 c0, .slice A1 n1 c1, .slice A2 n2 c2, .slice A3 n3 c3, .slice A4 n4 c4] := Blk.at_ rfl
  go_enter Tryz.func10, Tryz.ntmps10
  go_wp2_with fail
  generalize (w.alloc (.cells #[.slice A0 n0 c0, .slice A1 n1 c1, .slice A2 n2 c2, .slice A3 n3 c3, .slice A4 n4 c4] 28)) = w0 at *
  have pc := PB.cell
  refine (areCodes_any _ _ _ d.codes _ (s0.next KB) ft0).mono ?_
  cases gcodes : codesB d.codes
  · have HF := Lib.hid (show deskB d = false from topB_not (by simp [topB, gcodes]))
    rintro e wn ⟨rfl, bn⟩
    replace KB := bel_then KB bn
    replace PB := PB.next bn
    clear pc bn
    have pc := PB.cell
    go_wp2_with fail
    go_ret
    exact ⟨ret_bool HF.out.symm, KB⟩
  · rintro e wn ⟨rfl, bn⟩
    replace KB := bel_then KB bn
    replace PB := PB.next bn
    clear pc bn
    have pc := PB.cell
    by_cases glen : n1 ≤ 8
    · go_wp2_with fail
      refine (ascending_any _ _ _ d.known 1 9999 _ (s1.next KB) ft1).mono ?_
      cases gris : risingB 1 9999 d.known
      · have HF := Lib.hid (show deskB d = false from topB_not (by simp [topB, gris]))
        rintro e wn ⟨rfl, qn⟩
        replace KB := bel_quiet KB qn
        replace PB := PB.quiet qn
        clear pc qn
        have pc := PB.cell
        go_wp2_with fail
        go_ret
        exact ⟨ret_bool HF.out.symm, KB⟩
      · rintro e wn ⟨rfl, qn⟩
        replace KB := bel_quiet KB qn
        replace PB := PB.quiet qn
        clear pc qn
        have pc := PB.cell
        go_wp2_with fail
        refine (areFinished_any _ _ _ d.queue _ (s2.next KB) ft2 fx2).mono ?_
        cases gq : d.queue.all finB
        · have HF := Lib.hid (show deskB d = false from topB_not (by simp [topB, gq]))
          rintro e wn ⟨rfl, bn⟩
          replace KB := bel_then KB bn
          replace PB := PB.next bn
          clear pc bn
          have pc := PB.cell
          go_wp2_with fail
          go_ret
          exact ⟨ret_bool HF.out.symm, KB⟩
        · rintro e wn ⟨rfl, bn⟩
          replace KB := bel_then KB bn
          replace PB := PB.next bn
          clear pc bn
          have pc := PB.cell
          go_wp2_with fail
          refine (areFinished_any _ _ _ d.trouble _ (s4.next KB) ft4 fx4).mono ?_
          cases gt : d.trouble.all finB
          · have HF := Lib.hid (show deskB d = false from topB_not (by simp [topB, gt]))
            rintro e wn ⟨rfl, bn⟩
            replace KB := bel_then KB bn
            replace PB := PB.next bn
            clear pc bn
            have pc := PB.cell
            go_wp2_with fail
            go_ret
            exact ⟨ret_bool HF.out.symm, KB⟩
          · rintro e wn ⟨rfl, bn⟩
            replace KB := bel_then KB bn
            replace PB := PB.next bn
            clear pc bn
            have pc := PB.cell
            have HC := Lib.hid (show deskB d = (decide (n2 + n3 + n4 ≤ 10) && allTo n3 (rowAt d)) by simp [deskB, topB, l1, l2, l3, l4, gcodes, glen, gris, gq, gt])
            clear gcodes gris gq gt pc
            have pc := PB.cell
            go_wp2_with fail
            clear pc glen
            go_loopw [36] (fun i wr => ∃ k : Nat, k ≤ n3 ∧ i = .int .i64 k ∧ Hid (allTo k (rowAt d) = true) ∧ Blk wr w.heap.size 28 [.slice A0 n0 c0, .slice A1 n1 c1, .slice A2 n2 c2, .slice A3 n3 c3, .slice A4 n4 c4] ∧ Below w.heap.size w wr) (fun i _ => n3 - (intOf i).toNat)
            case atStart => exact ⟨0, Nat.zero_le _, rfl, Lib.hid rfl, PB, KB⟩
            case round =>
              obtain ⟨k, hk, rfl, HA, PB, hb⟩ := hrel
              have pc := PB.cell
              by_cases hlt : k < n3
              · have s3' := SeesFlat.take s3 (by decide) (fun _ => rfl) k (by omega)
                obtain ⟨b, off, rfl, hkx, x0, x1, x2⟩ := (s3.next hb).elem3 (fun _ => rfl) hlt
                replace s3 := s3'
                clear s3'
                have hkc : k ≤ c3 := by omega
                have HO := Lib.hid (rowAt_at hkx)
                obtain ⟨r, hr⟩ : ∃ r, d.done[k] = r := ⟨_, rfl⟩
                rw [hr] at HO x0 x1 x2
                clear hr
                have hblt : b < wr.heap.size := World.block_lt_of_cell? wr _ x0
                have hbm := PB.lt
                go_wp2_with fail
                have RB0 : Blk (wr.alloc (.cells #[.int .i64 r.number, .int .i64 r.missing, .int .i64 r.time] 41)) wr.heap.size 41 [.int .i64 r.number, .int .i64 r.missing, .int .i64 r.time] := Blk.at_ rfl
                have PB0 := PB.alloc (.cells #[.int .i64 r.number, .int .i64 r.missing, .int .i64 r.time] 41)
                have K2 : Below w.heap.size w (wr.alloc (.cells #[.int .i64 r.number, .int .i64 r.missing, .int .i64 r.time] 41)) := hb.alloc hb.size _
                generalize wr.heap.size = ga at *
                generalize wr.alloc (.cells #[.int .i64 r.number, .int .i64 r.missing, .int .i64 r.time] 41) = w2 at *
                clear x0 x1 x2 pc PB
                have q3 := Quiet.one w2
                have K3 := bel_quiet K2 q3
                have PB3 := PB0.quiet q3
                have RB3 := RB0.quiet q3
                have pc3 := PB3.cell
                have rc3 := RB3.cell
                clear K2 PB0 RB0 q3 hb hblt hbm
                obtain ⟨w3, hw3⟩ : ∃ w3, w2.drew = w3 := ⟨_, rfl⟩
                rw [hw3] at K3 PB3 RB3 pc3 rc3
                subst hw3
                cases g1 : hasI d.known r.number
                · have HR := Lib.hid (show deskB d = false by rw [HC.out, Bool.and_eq_false_iff]; right; exact allTo_false hlt (HO.out.trans (by simp [rowB, g1])))
                  refine wp_region_held_drew (S := fun w' => w'.cell? ⟨w.heap.size, 1, none⟩ = some (.slice A1 n1 c1) ∧ w'.cell? ⟨w.heap.size, 3, none⟩ = some (.slice (some ⟨b, off, none⟩) n3 c3) ∧ w'.cell? ⟨ga, 0, none⟩ = some (.int .i64 r.number) ∧ w'.cell? ⟨ga, 1, none⟩ = some (.int .i64 r.missing) ∧ w'.cell? ⟨ga, 2, none⟩ = some (.int .i64 r.time)) (by kernel_rfl) (by (try dsimp only); go_keep) (fun hHeld => ?_)
                  refine wpAnyH_take (i := 0) (v := ?_) rfl (by kernel_rfl) (by kernel_rfl) (by kernel_rfl) (fun _ _ _ h => h) (Or.inl ⟨by rfl, ?_⟩) (by assumption) ?_
                  rotate_left 1
                  · (intro w hSw; (try dsimp only at hSw); go_simp; try with_reducible rfl)
                  simp only [Act.put, pA, pB, pC, pD, pE]
                  refine wpAnyH_take (i := 1) (v := ?_) rfl (by kernel_rfl) (by kernel_rfl) (by kernel_rfl) (fun _ _ _ h => h) (Or.inl ⟨by rfl, ?_⟩) (by assumption) ?_
                  rotate_left 1
                  · (intro w hSw; (try dsimp only at hSw); go_simp; try with_reducible rfl)
                  simp only [Act.put, pA, pB, pC, pD, pE, pF]
                  refine wpAnyH_take (i := 2) (v := ?_) rfl (by kernel_rfl) (by kernel_rfl) (by kernel_rfl) (fun _ _ _ h => h) (Or.inl ⟨by rfl, ?_⟩) (by assumption) ?_
                  rotate_left 1
                  · (intro w hSw; (try dsimp only at hSw); go_simp; try with_reducible rfl)
                  simp only [Act.put, pA, pB, pC, pD, pE, pF]
                  refine wpAnyH_take (i := 3) (v := ?_) rfl (by kernel_rfl) (by kernel_rfl) (by kernel_rfl) (fun _ _ _ h => h) (Or.inl ⟨by rfl, ?_⟩) (by assumption) ?_
                  rotate_left 1
                  · (intro w hSw; (try dsimp only at hSw); go_simp; try with_reducible rfl)
                  simp only [Act.put, pA, pB, pC, pD, pE, pF]
                  refine wpAnyH_ready (rs := [4]) (by kernel_rfl) (by simp) ?_
                  refine AllReadyH.cons rfl (fun K hK => ?_) AllReadyH.nil
                  go_simp
                  refine (Contains_has _ _ _ d.known r.number _ (s1.next K3) (by omega)).mono ?_
                  rw [g1]
                  rintro e w4 ⟨rfl, q4⟩
                  have b4 := q4.below w2.drew.heap.size
                  have K4 := bel_then K3 b4
                  have PB4 := PB3.next b4
                  have RB4 := RB3.next b4
                  have pc4 := PB4.cell
                  have rc4 := RB4.cell
                  clear pc3 rc3

                  go_wp2_with fail
                  refine hK.out _ _ (by (try dsimp only); go_keep) (fun hHeld => ?_)
                  clear hK K
                  refine wpAnyH_take (i := 5) (v := ?_) rfl (by kernel_rfl) (by kernel_rfl) (by kernel_rfl) (fun _ _ _ h => h) (Or.inl ⟨by rfl, ?_⟩) (by assumption) ?_
                  rotate_left 1
                  · (intro w hSw; (try dsimp only at hSw); go_simp; try with_reducible rfl)
                  simp only [Act.put, pA, pB, pC, pD, pE, pF]
                  refine wpAnyH_take (i := 6) (v := ?_) rfl (by kernel_rfl) (by kernel_rfl) (by kernel_rfl) (fun _ _ _ h => h) (Or.inl ⟨by rfl, ?_⟩) (by assumption) ?_
                  rotate_left 1
                  · (intro w hSw; (try dsimp only at hSw); go_simp; try with_reducible rfl)
                  simp only [Act.put, pA, pB, pC, pD, pE, pF]
                  refine wpAnyH_take (i := 7) (v := undef) rfl (by kernel_rfl) (by kernel_rfl) (by kernel_rfl) (fun _ _ _ h => h) (Or.inr ⟨by rfl, rfl⟩) (by assumption) ?_
                  simp only [Act.put, pA, pB, pC, pD, pE, pF]
                  refine wpAnyH_take (i := 8) (v := undef) rfl (by kernel_rfl) (by kernel_rfl) (by kernel_rfl) (fun _ _ _ h => h) (Or.inr ⟨by rfl, rfl⟩) (by assumption) ?_
                  simp only [Act.put, pA, pB, pC, pD, pE, pF]
                  refine wpAnyH_take (i := 9) (v := undef) rfl (by kernel_rfl) (by kernel_rfl) (by kernel_rfl) (fun _ _ _ h => h) (Or.inr ⟨by rfl, rfl⟩) (by assumption) ?_
                  simp only [Act.put, pA, pB, pC, pD, pE, pF]
                  refine wpAnyH_take (i := 10) (v := undef) rfl (by kernel_rfl) (by kernel_rfl) (by kernel_rfl) (fun _ _ _ h => h) (Or.inr ⟨by rfl, rfl⟩) (by assumption) ?_
                  simp only [Act.put, pA, pB, pC, pD, pE, pF]
                  refine wpAnyH_take (i := 11) (v := undef) rfl (by kernel_rfl) (by kernel_rfl) (by kernel_rfl) (fun _ _ _ h => h) (Or.inr ⟨by rfl, rfl⟩) (by assumption) ?_
                  simp only [Act.put, pA, pB, pC, pD, pE, pF]
                  refine wpAnyH_take (i := 12) (v := undef) rfl (by kernel_rfl) (by kernel_rfl) (by kernel_rfl) (fun _ _ _ h => h) (Or.inr ⟨by rfl, rfl⟩) (by assumption) ?_
                  simp only [Act.put, pA, pB, pC, pD, pE, pF]
                  refine wpAnyH_take (i := 13) (v := undef) rfl (by kernel_rfl) (by kernel_rfl) (by kernel_rfl) (fun _ _ _ h => h) (Or.inr ⟨by rfl, rfl⟩) (by assumption) ?_
                  simp only [Act.put, pA, pB, pC, pD, pE, pF]
                  refine wpAnyH_take (i := 14) (v := ?_) rfl (by kernel_rfl) (by kernel_rfl) (by kernel_rfl) (fun _ _ _ h => h) (Or.inl ⟨by rfl, ?_⟩) (by assumption) ?_
                  rotate_left 1
                  · (intro w hSw; (try dsimp only at hSw); go_simp; try with_reducible rfl)
                  simp only [Act.put, pA, pB, pC, pD, pE, pF]
                  refine wpAnyH_take (i := 15) (v := ?_) rfl (by kernel_rfl) (by kernel_rfl) (by kernel_rfl) (fun _ _ _ h => h) (Or.inl ⟨by rfl, ?_⟩) (by assumption) ?_
                  rotate_left 1
                  · (intro w hSw; (try dsimp only at hSw); go_simp; try with_reducible rfl)
                  simp only [Act.put, pA, pB, pC, pD, pE, pF]
                  refine wpAnyH_take (i := 16) (v := undef) rfl (by kernel_rfl) (by kernel_rfl) (by kernel_rfl) (fun _ _ _ h => h) (Or.inr ⟨by rfl, rfl⟩) (by assumption) ?_
                  simp only [Act.put, pA, pB, pC, pD, pE, pF]
                  refine wpAnyH_take (i := 17) (v := undef) rfl (by kernel_rfl) (by kernel_rfl) (by kernel_rfl) (fun _ _ _ h => h) (Or.inr ⟨by rfl, rfl⟩) (by assumption) ?_
                  simp only [Act.put, pA, pB, pC, pD, pE, pF]
                  refine wpAnyH_take (i := 18) (v := undef) rfl (by kernel_rfl) (by kernel_rfl) (by kernel_rfl) (fun _ _ _ h => h) (Or.inr ⟨by rfl, rfl⟩) (by assumption) ?_
                  simp only [Act.put, pA, pB, pC, pD, pE, pF]
                  refine wpAnyH_take (i := 19) (v := undef) rfl (by kernel_rfl) (by kernel_rfl) (by kernel_rfl) (fun _ _ _ h => h) (Or.inr ⟨by rfl, rfl⟩) (by assumption) ?_
                  simp only [Act.put, pA, pB, pC, pD, pE, pF]
                  refine wpAnyH_take (i := 20) (v := ?_) rfl (by kernel_rfl) (by kernel_rfl) (by kernel_rfl) (fun _ _ _ h => h) (Or.inl ⟨by rfl, ?_⟩) (by assumption) ?_
                  rotate_left 1
                  · (intro w hSw; (try dsimp only at hSw); go_simp; try with_reducible rfl)
                  simp only [Act.put, pA, pB, pC, pD, pE, pF]
                  refine wpAnyH_take (i := 21) (v := ?_) rfl (by kernel_rfl) (by kernel_rfl) (by kernel_rfl) (fun _ _ _ h => h) (Or.inl ⟨by rfl, ?_⟩) (by assumption) ?_
                  rotate_left 1
                  · (intro w hSw; (try dsimp only at hSw); go_simp; try with_reducible rfl)
                  simp only [Act.put, pA, pB, pC, pD, pE, pF]
                  refine wpAnyH_take (i := 22) (v := undef) rfl (by kernel_rfl) (by kernel_rfl) (by kernel_rfl) (fun _ _ _ h => h) (Or.inr ⟨by rfl, rfl⟩) (by assumption) ?_
                  simp only [Act.put, pA, pB, pC, pD, pE, pF]
                  refine wpAnyH_take (i := 23) (v := undef) rfl (by kernel_rfl) (by kernel_rfl) (by kernel_rfl) (fun _ _ _ h => h) (Or.inr ⟨by rfl, rfl⟩) (by assumption) ?_
                  simp only [Act.put, pA, pB, pC, pD, pE, pF]
                  refine wpAnyH_take (i := 24) (v := undef) rfl (by kernel_rfl) (by kernel_rfl) (by kernel_rfl) (fun _ _ _ h => h) (Or.inr ⟨by rfl, rfl⟩) (by assumption) ?_
                  simp only [Act.put, pA, pB, pC, pD, pE, pF]
                  refine wpAnyH_take (i := 25) (v := undef) rfl (by kernel_rfl) (by kernel_rfl) (by kernel_rfl) (fun _ _ _ h => h) (Or.inr ⟨by rfl, rfl⟩) (by assumption) ?_
                  simp only [Act.put, pA, pB, pC, pD, pE, pF]
                  refine wpAnyH_take (i := 26) (v := ?_) rfl (by kernel_rfl) (by kernel_rfl) (by kernel_rfl) (fun _ _ _ h => h) (Or.inl ⟨by rfl, ?_⟩) (by assumption) ?_
                  rotate_left 1
                  · (intro w hSw; (try dsimp only at hSw); go_simp; try with_reducible rfl)
                  simp only [Act.put, pA, pB, pC, pD, pE, pF]
                  refine wpAnyH_done (by kernel_rfl) ?_ _
                  go_wp2_with fail
                  go_ret
                  exact ⟨ret_bool HR.out.symm, K4⟩
                · cases g2 : doneB (d.done.take k) r.number
                  · cases g3 : inB r.missing 0 12
                    · have HR := Lib.hid (show deskB d = false by rw [HC.out, Bool.and_eq_false_iff]; right; exact allTo_false hlt (HO.out.trans (by simp [rowB, g1, g2, g3])))
                      refine wp_region_held_drew (S := fun w' => w'.cell? ⟨w.heap.size, 1, none⟩ = some (.slice A1 n1 c1) ∧ w'.cell? ⟨w.heap.size, 3, none⟩ = some (.slice (some ⟨b, off, none⟩) n3 c3) ∧ w'.cell? ⟨ga, 0, none⟩ = some (.int .i64 r.number) ∧ w'.cell? ⟨ga, 1, none⟩ = some (.int .i64 r.missing) ∧ w'.cell? ⟨ga, 2, none⟩ = some (.int .i64 r.time)) (by kernel_rfl) (by (try dsimp only); go_keep) (fun hHeld => ?_)
                      refine wpAnyH_take (i := 0) (v := ?_) rfl (by kernel_rfl) (by kernel_rfl) (by kernel_rfl) (fun _ _ _ h => h) (Or.inl ⟨by rfl, ?_⟩) (by assumption) ?_
                      rotate_left 1
                      · (intro w hSw; (try dsimp only at hSw); go_simp; try with_reducible rfl)
                      simp only [Act.put, pA, pB, pC, pD, pE]
                      refine wpAnyH_take (i := 1) (v := ?_) rfl (by kernel_rfl) (by kernel_rfl) (by kernel_rfl) (fun _ _ _ h => h) (Or.inl ⟨by rfl, ?_⟩) (by assumption) ?_
                      rotate_left 1
                      · (intro w hSw; (try dsimp only at hSw); go_simp; try with_reducible rfl)
                      simp only [Act.put, pA, pB, pC, pD, pE, pF]
                      refine wpAnyH_take (i := 2) (v := ?_) rfl (by kernel_rfl) (by kernel_rfl) (by kernel_rfl) (fun _ _ _ h => h) (Or.inl ⟨by rfl, ?_⟩) (by assumption) ?_
                      rotate_left 1
                      · (intro w hSw; (try dsimp only at hSw); go_simp; try with_reducible rfl)
                      simp only [Act.put, pA, pB, pC, pD, pE, pF]
                      refine wpAnyH_take (i := 3) (v := ?_) rfl (by kernel_rfl) (by kernel_rfl) (by kernel_rfl) (fun _ _ _ h => h) (Or.inl ⟨by rfl, ?_⟩) (by assumption) ?_
                      rotate_left 1
                      · (intro w hSw; (try dsimp only at hSw); go_simp; try with_reducible rfl)
                      simp only [Act.put, pA, pB, pC, pD, pE, pF]
                      refine wpAnyH_ready (rs := [4]) (by kernel_rfl) (by simp) ?_
                      refine AllReadyH.cons rfl (fun K hK => ?_) AllReadyH.nil
                      go_simp
                      refine (Contains_has _ _ _ d.known r.number _ (s1.next K3) (by omega)).mono ?_
                      rw [g1]
                      rintro e w4 ⟨rfl, q4⟩
                      have b4 := q4.below w2.drew.heap.size
                      have K4 := bel_then K3 b4
                      have PB4 := PB3.next b4
                      have RB4 := RB3.next b4
                      have pc4 := PB4.cell
                      have rc4 := RB4.cell
                      clear pc3 rc3

                      go_wp2_with fail
                      refine hK.out _ _ (by (try dsimp only); go_keep) (fun hHeld => ?_)
                      clear hK K
                      refine wpAnyH_take (i := 5) (v := ?_) rfl (by kernel_rfl) (by kernel_rfl) (by kernel_rfl) (fun _ _ _ h => h) (Or.inl ⟨by rfl, ?_⟩) (by assumption) ?_
                      rotate_left 1
                      · (intro w hSw; (try dsimp only at hSw); go_simp; try with_reducible rfl)
                      simp only [Act.put, pA, pB, pC, pD, pE, pF]
                      refine wpAnyH_take (i := 6) (v := ?_) rfl (by kernel_rfl) (by kernel_rfl) (by kernel_rfl) (fun _ _ _ h => h) (Or.inl ⟨by rfl, ?_⟩) (by assumption) ?_
                      rotate_left 1
                      · (intro w hSw; (try dsimp only at hSw); go_simp; try with_reducible rfl)
                      simp only [Act.put, pA, pB, pC, pD, pE, pF]
                      refine wpAnyH_take (i := 7) (v := ?_) rfl (by kernel_rfl) (by kernel_rfl) (by kernel_rfl) (fun _ _ _ h => h) (Or.inl ⟨by rfl, ?_⟩) (by assumption) ?_
                      rotate_left 1
                      · (intro w hSw; (try dsimp only at hSw); go_simp; try with_reducible rfl)
                      simp only [Act.put, pA, pB, pC, pD, pE, pF]
                      refine wpAnyH_take (i := 8) (v := ?_) rfl (by kernel_rfl) (by kernel_rfl) (by kernel_rfl) (fun _ _ _ h => h) (Or.inl ⟨by rfl, ?_⟩) (by assumption) ?_
                      rotate_left 1
                      · (intro w hSw; (try dsimp only at hSw); go_simp; try with_reducible rfl)
                      simp only [Act.put, pA, pB, pC, pD, pE, pF]
                      refine wpAnyH_take (i := 9) (v := ?_) rfl (by kernel_rfl) (by kernel_rfl) (by kernel_rfl) (fun _ _ _ h => h) (Or.inl ⟨by rfl, ?_⟩) (by assumption) ?_
                      rotate_left 1
                      · (intro w hSw; (try dsimp only at hSw); go_simp; try with_reducible rfl)
                      simp only [Act.put, pA, pB, pC, pD, pE, pF]
                      refine wpAnyH_take (i := 10) (v := ?_) rfl (by kernel_rfl) (by kernel_rfl) (by kernel_rfl) (fun _ _ _ h => h) (Or.inl ⟨by rfl, ?_⟩) (by assumption) ?_
                      rotate_left 1
                      · (intro w hSw; (try dsimp only at hSw); go_simp; try with_reducible rfl)
                      simp only [Act.put, pA, pB, pC, pD, pE, pF]
                      refine wpAnyH_take (i := 11) (v := ?_) rfl (by kernel_rfl) (by kernel_rfl) (by kernel_rfl) (fun _ _ _ h => h) (Or.inl ⟨by rfl, ?_⟩) (by assumption) ?_
                      rotate_left 1
                      · (intro w hSw; (try dsimp only at hSw); go_simp; try with_reducible rfl)
                      simp only [Act.put, pA, pB, pC, pD, pE, pF]
                      refine wpAnyH_take (i := 12) (v := ?_) rfl (by kernel_rfl) (by kernel_rfl) (by kernel_rfl) (fun _ _ _ h => h) (Or.inl ⟨by rfl, ?_⟩) (by assumption) ?_
                      rotate_left 1
                      · (intro w hSw; (try dsimp only at hSw); go_simp; try with_reducible rfl)
                      simp only [Act.put, pA, pB, pC, pD, pE, pF]
                      refine wpAnyH_ready (rs := [13]) (by kernel_rfl) (by simp) ?_
                      refine AllReadyH.cons rfl (fun K hK => ?_) AllReadyH.nil
                      go_simp
                      refine (isDone_any _ _ c3 (d.done.take k) r.number _ (s3.next K4) (by omega)).mono ?_
                      rw [g2]
                      rintro e w5 ⟨rfl, b5⟩
                      have K5 := bel_then K4 b5
                      have PB5 := PB4.next b5
                      have RB5 := RB4.next b5
                      have pc5 := PB5.cell
                      have rc5 := RB5.cell
                      clear pc4 rc4

                      go_wp2_with fail
                      refine hK.out _ _ (by (try dsimp only); go_keep) (fun hHeld => ?_)
                      clear hK K
                      refine wpAnyH_take (i := 14) (v := ?_) rfl (by kernel_rfl) (by kernel_rfl) (by kernel_rfl) (fun _ _ _ h => h) (Or.inl ⟨by rfl, ?_⟩) (by assumption) ?_
                      rotate_left 1
                      · (intro w hSw; (try dsimp only at hSw); go_simp; try with_reducible rfl)
                      simp only [Act.put, pA, pB, pC, pD, pE, pF]
                      refine wpAnyH_take (i := 15) (v := ?_) rfl (by kernel_rfl) (by kernel_rfl) (by kernel_rfl) (fun _ _ _ h => h) (Or.inl ⟨by rfl, ?_⟩) (by assumption) ?_
                      rotate_left 1
                      · (intro w hSw; (try dsimp only at hSw); go_simp; try with_reducible rfl)
                      simp only [Act.put, pA, pB, pC, pD, pE, pF]
                      refine wpAnyH_take (i := 16) (v := ?_) rfl (by kernel_rfl) (by kernel_rfl) (by kernel_rfl) (fun _ _ _ h => h) (Or.inl ⟨by rfl, ?_⟩) (by assumption) ?_
                      rotate_left 1
                      · (intro w hSw; (try dsimp only at hSw); go_simp; try with_reducible rfl)
                      simp only [Act.put, pA, pB, pC, pD, pE, pF]
                      refine wpAnyH_take (i := 17) (v := ?_) rfl (by kernel_rfl) (by kernel_rfl) (by kernel_rfl) (fun _ _ _ h => h) (Or.inl ⟨by rfl, ?_⟩) (by assumption) ?_
                      rotate_left 1
                      · (intro w hSw; (try dsimp only at hSw); go_simp; try with_reducible rfl)
                      simp only [Act.put, pA, pB, pC, pD, pE, pF]
                      refine wpAnyH_ready (rs := [18]) (by kernel_rfl) (by simp) ?_
                      refine AllReadyH.cons rfl (fun K hK => ?_) AllReadyH.nil
                      go_simp
                      refine (inside_any _ _ _ _).mono ?_
                      rw [g3]
                      rintro e w' ⟨rfl, rfl⟩

                      go_wp2_with fail
                      refine hK.out _ _ (by (try dsimp only); go_keep) (fun hHeld => ?_)
                      clear hK K
                      refine wpAnyH_take (i := 19) (v := ?_) rfl (by kernel_rfl) (by kernel_rfl) (by kernel_rfl) (fun _ _ _ h => h) (Or.inl ⟨by rfl, ?_⟩) (by assumption) ?_
                      rotate_left 1
                      · (intro w hSw; (try dsimp only at hSw); go_simp; try with_reducible rfl)
                      simp only [Act.put, pA, pB, pC, pD, pE, pF]
                      refine wpAnyH_take (i := 20) (v := ?_) rfl (by kernel_rfl) (by kernel_rfl) (by kernel_rfl) (fun _ _ _ h => h) (Or.inl ⟨by rfl, ?_⟩) (by assumption) ?_
                      rotate_left 1
                      · (intro w hSw; (try dsimp only at hSw); go_simp; try with_reducible rfl)
                      simp only [Act.put, pA, pB, pC, pD, pE, pF]
                      refine wpAnyH_take (i := 21) (v := ?_) rfl (by kernel_rfl) (by kernel_rfl) (by kernel_rfl) (fun _ _ _ h => h) (Or.inl ⟨by rfl, ?_⟩) (by assumption) ?_
                      rotate_left 1
                      · (intro w hSw; (try dsimp only at hSw); go_simp; try with_reducible rfl)
                      simp only [Act.put, pA, pB, pC, pD, pE, pF]
                      refine wpAnyH_take (i := 22) (v := undef) rfl (by kernel_rfl) (by kernel_rfl) (by kernel_rfl) (fun _ _ _ h => h) (Or.inr ⟨by rfl, rfl⟩) (by assumption) ?_
                      simp only [Act.put, pA, pB, pC, pD, pE, pF]
                      refine wpAnyH_take (i := 23) (v := undef) rfl (by kernel_rfl) (by kernel_rfl) (by kernel_rfl) (fun _ _ _ h => h) (Or.inr ⟨by rfl, rfl⟩) (by assumption) ?_
                      simp only [Act.put, pA, pB, pC, pD, pE, pF]
                      refine wpAnyH_take (i := 24) (v := undef) rfl (by kernel_rfl) (by kernel_rfl) (by kernel_rfl) (fun _ _ _ h => h) (Or.inr ⟨by rfl, rfl⟩) (by assumption) ?_
                      simp only [Act.put, pA, pB, pC, pD, pE, pF]
                      refine wpAnyH_take (i := 25) (v := undef) rfl (by kernel_rfl) (by kernel_rfl) (by kernel_rfl) (fun _ _ _ h => h) (Or.inr ⟨by rfl, rfl⟩) (by assumption) ?_
                      simp only [Act.put, pA, pB, pC, pD, pE, pF]
                      refine wpAnyH_take (i := 26) (v := ?_) rfl (by kernel_rfl) (by kernel_rfl) (by kernel_rfl) (fun _ _ _ h => h) (Or.inl ⟨by rfl, ?_⟩) (by assumption) ?_
                      rotate_left 1
                      · (intro w hSw; (try dsimp only at hSw); go_simp; try with_reducible rfl)
                      simp only [Act.put, pA, pB, pC, pD, pE, pF]
                      refine wpAnyH_done (by kernel_rfl) ?_ _
                      go_wp2_with fail
                      go_ret
                      exact ⟨ret_bool HR.out.symm, K5⟩
                    · cases g4 : inB r.time 0 36000
                      · have HR := Lib.hid (show deskB d = false by rw [HC.out, Bool.and_eq_false_iff]; right; exact allTo_false hlt (HO.out.trans (by simp [rowB, g1, g2, g3, g4])))
                        refine wp_region_held_drew (S := fun w' => w'.cell? ⟨w.heap.size, 1, none⟩ = some (.slice A1 n1 c1) ∧ w'.cell? ⟨w.heap.size, 3, none⟩ = some (.slice (some ⟨b, off, none⟩) n3 c3) ∧ w'.cell? ⟨ga, 0, none⟩ = some (.int .i64 r.number) ∧ w'.cell? ⟨ga, 1, none⟩ = some (.int .i64 r.missing) ∧ w'.cell? ⟨ga, 2, none⟩ = some (.int .i64 r.time)) (by kernel_rfl) (by (try dsimp only); go_keep) (fun hHeld => ?_)
                        refine wpAnyH_take (i := 0) (v := ?_) rfl (by kernel_rfl) (by kernel_rfl) (by kernel_rfl) (fun _ _ _ h => h) (Or.inl ⟨by rfl, ?_⟩) (by assumption) ?_
                        rotate_left 1
                        · (intro w hSw; (try dsimp only at hSw); go_simp; try with_reducible rfl)
                        simp only [Act.put, pA, pB, pC, pD, pE]
                        refine wpAnyH_take (i := 1) (v := ?_) rfl (by kernel_rfl) (by kernel_rfl) (by kernel_rfl) (fun _ _ _ h => h) (Or.inl ⟨by rfl, ?_⟩) (by assumption) ?_
                        rotate_left 1
                        · (intro w hSw; (try dsimp only at hSw); go_simp; try with_reducible rfl)
                        simp only [Act.put, pA, pB, pC, pD, pE, pF]
                        refine wpAnyH_take (i := 2) (v := ?_) rfl (by kernel_rfl) (by kernel_rfl) (by kernel_rfl) (fun _ _ _ h => h) (Or.inl ⟨by rfl, ?_⟩) (by assumption) ?_
                        rotate_left 1
                        · (intro w hSw; (try dsimp only at hSw); go_simp; try with_reducible rfl)
                        simp only [Act.put, pA, pB, pC, pD, pE, pF]
                        refine wpAnyH_take (i := 3) (v := ?_) rfl (by kernel_rfl) (by kernel_rfl) (by kernel_rfl) (fun _ _ _ h => h) (Or.inl ⟨by rfl, ?_⟩) (by assumption) ?_
                        rotate_left 1
                        · (intro w hSw; (try dsimp only at hSw); go_simp; try with_reducible rfl)
                        simp only [Act.put, pA, pB, pC, pD, pE, pF]
                        refine wpAnyH_ready (rs := [4]) (by kernel_rfl) (by simp) ?_
                        refine AllReadyH.cons rfl (fun K hK => ?_) AllReadyH.nil
                        go_simp
                        refine (Contains_has _ _ _ d.known r.number _ (s1.next K3) (by omega)).mono ?_
                        rw [g1]
                        rintro e w4 ⟨rfl, q4⟩
                        have b4 := q4.below w2.drew.heap.size
                        have K4 := bel_then K3 b4
                        have PB4 := PB3.next b4
                        have RB4 := RB3.next b4
                        have pc4 := PB4.cell
                        have rc4 := RB4.cell
                        clear pc3 rc3

                        go_wp2_with fail
                        refine hK.out _ _ (by (try dsimp only); go_keep) (fun hHeld => ?_)
                        clear hK K
                        refine wpAnyH_take (i := 5) (v := ?_) rfl (by kernel_rfl) (by kernel_rfl) (by kernel_rfl) (fun _ _ _ h => h) (Or.inl ⟨by rfl, ?_⟩) (by assumption) ?_
                        rotate_left 1
                        · (intro w hSw; (try dsimp only at hSw); go_simp; try with_reducible rfl)
                        simp only [Act.put, pA, pB, pC, pD, pE, pF]
                        refine wpAnyH_take (i := 6) (v := ?_) rfl (by kernel_rfl) (by kernel_rfl) (by kernel_rfl) (fun _ _ _ h => h) (Or.inl ⟨by rfl, ?_⟩) (by assumption) ?_
                        rotate_left 1
                        · (intro w hSw; (try dsimp only at hSw); go_simp; try with_reducible rfl)
                        simp only [Act.put, pA, pB, pC, pD, pE, pF]
                        refine wpAnyH_take (i := 7) (v := ?_) rfl (by kernel_rfl) (by kernel_rfl) (by kernel_rfl) (fun _ _ _ h => h) (Or.inl ⟨by rfl, ?_⟩) (by assumption) ?_
                        rotate_left 1
                        · (intro w hSw; (try dsimp only at hSw); go_simp; try with_reducible rfl)
                        simp only [Act.put, pA, pB, pC, pD, pE, pF]
                        refine wpAnyH_take (i := 8) (v := ?_) rfl (by kernel_rfl) (by kernel_rfl) (by kernel_rfl) (fun _ _ _ h => h) (Or.inl ⟨by rfl, ?_⟩) (by assumption) ?_
                        rotate_left 1
                        · (intro w hSw; (try dsimp only at hSw); go_simp; try with_reducible rfl)
                        simp only [Act.put, pA, pB, pC, pD, pE, pF]
                        refine wpAnyH_take (i := 9) (v := ?_) rfl (by kernel_rfl) (by kernel_rfl) (by kernel_rfl) (fun _ _ _ h => h) (Or.inl ⟨by rfl, ?_⟩) (by assumption) ?_
                        rotate_left 1
                        · (intro w hSw; (try dsimp only at hSw); go_simp; try with_reducible rfl)
                        simp only [Act.put, pA, pB, pC, pD, pE, pF]
                        refine wpAnyH_take (i := 10) (v := ?_) rfl (by kernel_rfl) (by kernel_rfl) (by kernel_rfl) (fun _ _ _ h => h) (Or.inl ⟨by rfl, ?_⟩) (by assumption) ?_
                        rotate_left 1
                        · (intro w hSw; (try dsimp only at hSw); go_simp; try with_reducible rfl)
                        simp only [Act.put, pA, pB, pC, pD, pE, pF]
                        refine wpAnyH_take (i := 11) (v := ?_) rfl (by kernel_rfl) (by kernel_rfl) (by kernel_rfl) (fun _ _ _ h => h) (Or.inl ⟨by rfl, ?_⟩) (by assumption) ?_
                        rotate_left 1
                        · (intro w hSw; (try dsimp only at hSw); go_simp; try with_reducible rfl)
                        simp only [Act.put, pA, pB, pC, pD, pE, pF]
                        refine wpAnyH_take (i := 12) (v := ?_) rfl (by kernel_rfl) (by kernel_rfl) (by kernel_rfl) (fun _ _ _ h => h) (Or.inl ⟨by rfl, ?_⟩) (by assumption) ?_
                        rotate_left 1
                        · (intro w hSw; (try dsimp only at hSw); go_simp; try with_reducible rfl)
                        simp only [Act.put, pA, pB, pC, pD, pE, pF]
                        refine wpAnyH_ready (rs := [13]) (by kernel_rfl) (by simp) ?_
                        refine AllReadyH.cons rfl (fun K hK => ?_) AllReadyH.nil
                        go_simp
                        refine (isDone_any _ _ c3 (d.done.take k) r.number _ (s3.next K4) (by omega)).mono ?_
                        rw [g2]
                        rintro e w5 ⟨rfl, b5⟩
                        have K5 := bel_then K4 b5
                        have PB5 := PB4.next b5
                        have RB5 := RB4.next b5
                        have pc5 := PB5.cell
                        have rc5 := RB5.cell
                        clear pc4 rc4

                        go_wp2_with fail
                        refine hK.out _ _ (by (try dsimp only); go_keep) (fun hHeld => ?_)
                        clear hK K
                        refine wpAnyH_take (i := 14) (v := ?_) rfl (by kernel_rfl) (by kernel_rfl) (by kernel_rfl) (fun _ _ _ h => h) (Or.inl ⟨by rfl, ?_⟩) (by assumption) ?_
                        rotate_left 1
                        · (intro w hSw; (try dsimp only at hSw); go_simp; try with_reducible rfl)
                        simp only [Act.put, pA, pB, pC, pD, pE, pF]
                        refine wpAnyH_take (i := 15) (v := ?_) rfl (by kernel_rfl) (by kernel_rfl) (by kernel_rfl) (fun _ _ _ h => h) (Or.inl ⟨by rfl, ?_⟩) (by assumption) ?_
                        rotate_left 1
                        · (intro w hSw; (try dsimp only at hSw); go_simp; try with_reducible rfl)
                        simp only [Act.put, pA, pB, pC, pD, pE, pF]
                        refine wpAnyH_take (i := 16) (v := ?_) rfl (by kernel_rfl) (by kernel_rfl) (by kernel_rfl) (fun _ _ _ h => h) (Or.inl ⟨by rfl, ?_⟩) (by assumption) ?_
                        rotate_left 1
                        · (intro w hSw; (try dsimp only at hSw); go_simp; try with_reducible rfl)
                        simp only [Act.put, pA, pB, pC, pD, pE, pF]
                        refine wpAnyH_take (i := 17) (v := ?_) rfl (by kernel_rfl) (by kernel_rfl) (by kernel_rfl) (fun _ _ _ h => h) (Or.inl ⟨by rfl, ?_⟩) (by assumption) ?_
                        rotate_left 1
                        · (intro w hSw; (try dsimp only at hSw); go_simp; try with_reducible rfl)
                        simp only [Act.put, pA, pB, pC, pD, pE, pF]
                        refine wpAnyH_ready (rs := [18]) (by kernel_rfl) (by simp) ?_
                        refine AllReadyH.cons rfl (fun K hK => ?_) AllReadyH.nil
                        go_simp
                        refine (inside_any _ _ _ _).mono ?_
                        rw [g3]
                        rintro e w' ⟨rfl, rfl⟩

                        go_wp2_with fail
                        refine hK.out _ _ (by (try dsimp only); go_keep) (fun hHeld => ?_)
                        clear hK K
                        refine wpAnyH_take (i := 19) (v := ?_) rfl (by kernel_rfl) (by kernel_rfl) (by kernel_rfl) (fun _ _ _ h => h) (Or.inl ⟨by rfl, ?_⟩) (by assumption) ?_
                        rotate_left 1
                        · (intro w hSw; (try dsimp only at hSw); go_simp; try with_reducible rfl)
                        simp only [Act.put, pA, pB, pC, pD, pE, pF]
                        refine wpAnyH_take (i := 20) (v := ?_) rfl (by kernel_rfl) (by kernel_rfl) (by kernel_rfl) (fun _ _ _ h => h) (Or.inl ⟨by rfl, ?_⟩) (by assumption) ?_
                        rotate_left 1
                        · (intro w hSw; (try dsimp only at hSw); go_simp; try with_reducible rfl)
                        simp only [Act.put, pA, pB, pC, pD, pE, pF]
                        refine wpAnyH_take (i := 21) (v := ?_) rfl (by kernel_rfl) (by kernel_rfl) (by kernel_rfl) (fun _ _ _ h => h) (Or.inl ⟨by rfl, ?_⟩) (by assumption) ?_
                        rotate_left 1
                        · (intro w hSw; (try dsimp only at hSw); go_simp; try with_reducible rfl)
                        simp only [Act.put, pA, pB, pC, pD, pE, pF]
                        refine wpAnyH_take (i := 22) (v := ?_) rfl (by kernel_rfl) (by kernel_rfl) (by kernel_rfl) (fun _ _ _ h => h) (Or.inl ⟨by rfl, ?_⟩) (by assumption) ?_
                        rotate_left 1
                        · (intro w hSw; (try dsimp only at hSw); go_simp; try with_reducible rfl)
                        simp only [Act.put, pA, pB, pC, pD, pE, pF]
                        refine wpAnyH_take (i := 23) (v := ?_) rfl (by kernel_rfl) (by kernel_rfl) (by kernel_rfl) (fun _ _ _ h => h) (Or.inl ⟨by rfl, ?_⟩) (by assumption) ?_
                        rotate_left 1
                        · (intro w hSw; (try dsimp only at hSw); go_simp; try with_reducible rfl)
                        simp only [Act.put, pA, pB, pC, pD, pE, pF]
                        refine wpAnyH_ready (rs := [24]) (by kernel_rfl) (by simp) ?_
                        refine AllReadyH.cons rfl (fun K hK => ?_) AllReadyH.nil
                        go_simp
                        refine (isTime_any _ _).mono ?_
                        rw [g4]
                        rintro e w' ⟨rfl, rfl⟩

                        go_wp2_with fail
                        refine hK.out _ _ (by (try dsimp only); go_keep) (fun hHeld => ?_)
                        clear hK K
                        refine wpAnyH_take (i := 25) (v := ?_) rfl (by kernel_rfl) (by kernel_rfl) (by kernel_rfl) (fun _ _ _ h => h) (Or.inl ⟨by rfl, ?_⟩) (by assumption) ?_
                        rotate_left 1
                        · (intro w hSw; (try dsimp only at hSw); go_simp; try with_reducible rfl)
                        simp only [Act.put, pA, pB, pC, pD, pE, pF]
                        refine wpAnyH_take (i := 26) (v := ?_) rfl (by kernel_rfl) (by kernel_rfl) (by kernel_rfl) (fun _ _ _ h => h) (Or.inl ⟨by rfl, ?_⟩) (by assumption) ?_
                        rotate_left 1
                        · (intro w hSw; (try dsimp only at hSw); go_simp; try with_reducible rfl)
                        simp only [Act.put, pA, pB, pC, pD, pE, pF]
                        refine wpAnyH_done (by kernel_rfl) ?_ _
                        go_wp2_with fail
                        go_ret
                        exact ⟨ret_bool HR.out.symm, K5⟩
                      · have HA2 := Lib.hid (allTo_succ HA.out (HO.out.trans (by simp [rowB, g1, g2, g3, g4])))
                        refine wp_region_held_drew (S := fun w' => w'.cell? ⟨w.heap.size, 1, none⟩ = some (.slice A1 n1 c1) ∧ w'.cell? ⟨w.heap.size, 3, none⟩ = some (.slice (some ⟨b, off, none⟩) n3 c3) ∧ w'.cell? ⟨ga, 0, none⟩ = some (.int .i64 r.number) ∧ w'.cell? ⟨ga, 1, none⟩ = some (.int .i64 r.missing) ∧ w'.cell? ⟨ga, 2, none⟩ = some (.int .i64 r.time)) (by kernel_rfl) (by (try dsimp only); go_keep) (fun hHeld => ?_)
                        refine wpAnyH_take (i := 0) (v := ?_) rfl (by kernel_rfl) (by kernel_rfl) (by kernel_rfl) (fun _ _ _ h => h) (Or.inl ⟨by rfl, ?_⟩) (by assumption) ?_
                        rotate_left 1
                        · (intro w hSw; (try dsimp only at hSw); go_simp; try with_reducible rfl)
                        simp only [Act.put, pA, pB, pC, pD, pE]
                        refine wpAnyH_take (i := 1) (v := ?_) rfl (by kernel_rfl) (by kernel_rfl) (by kernel_rfl) (fun _ _ _ h => h) (Or.inl ⟨by rfl, ?_⟩) (by assumption) ?_
                        rotate_left 1
                        · (intro w hSw; (try dsimp only at hSw); go_simp; try with_reducible rfl)
                        simp only [Act.put, pA, pB, pC, pD, pE, pF]
                        refine wpAnyH_take (i := 2) (v := ?_) rfl (by kernel_rfl) (by kernel_rfl) (by kernel_rfl) (fun _ _ _ h => h) (Or.inl ⟨by rfl, ?_⟩) (by assumption) ?_
                        rotate_left 1
                        · (intro w hSw; (try dsimp only at hSw); go_simp; try with_reducible rfl)
                        simp only [Act.put, pA, pB, pC, pD, pE, pF]
                        refine wpAnyH_take (i := 3) (v := ?_) rfl (by kernel_rfl) (by kernel_rfl) (by kernel_rfl) (fun _ _ _ h => h) (Or.inl ⟨by rfl, ?_⟩) (by assumption) ?_
                        rotate_left 1
                        · (intro w hSw; (try dsimp only at hSw); go_simp; try with_reducible rfl)
                        simp only [Act.put, pA, pB, pC, pD, pE, pF]
                        refine wpAnyH_ready (rs := [4]) (by kernel_rfl) (by simp) ?_
                        refine AllReadyH.cons rfl (fun K hK => ?_) AllReadyH.nil
                        go_simp
                        refine (Contains_has _ _ _ d.known r.number _ (s1.next K3) (by omega)).mono ?_
                        rw [g1]
                        rintro e w4 ⟨rfl, q4⟩
                        have b4 := q4.below w2.drew.heap.size
                        have K4 := bel_then K3 b4
                        have PB4 := PB3.next b4
                        have RB4 := RB3.next b4
                        have pc4 := PB4.cell
                        have rc4 := RB4.cell
                        clear pc3 rc3

                        go_wp2_with fail
                        refine hK.out _ _ (by (try dsimp only); go_keep) (fun hHeld => ?_)
                        clear hK K
                        refine wpAnyH_take (i := 5) (v := ?_) rfl (by kernel_rfl) (by kernel_rfl) (by kernel_rfl) (fun _ _ _ h => h) (Or.inl ⟨by rfl, ?_⟩) (by assumption) ?_
                        rotate_left 1
                        · (intro w hSw; (try dsimp only at hSw); go_simp; try with_reducible rfl)
                        simp only [Act.put, pA, pB, pC, pD, pE, pF]
                        refine wpAnyH_take (i := 6) (v := ?_) rfl (by kernel_rfl) (by kernel_rfl) (by kernel_rfl) (fun _ _ _ h => h) (Or.inl ⟨by rfl, ?_⟩) (by assumption) ?_
                        rotate_left 1
                        · (intro w hSw; (try dsimp only at hSw); go_simp; try with_reducible rfl)
                        simp only [Act.put, pA, pB, pC, pD, pE, pF]
                        refine wpAnyH_take (i := 7) (v := ?_) rfl (by kernel_rfl) (by kernel_rfl) (by kernel_rfl) (fun _ _ _ h => h) (Or.inl ⟨by rfl, ?_⟩) (by assumption) ?_
                        rotate_left 1
                        · (intro w hSw; (try dsimp only at hSw); go_simp; try with_reducible rfl)
                        simp only [Act.put, pA, pB, pC, pD, pE, pF]
                        refine wpAnyH_take (i := 8) (v := ?_) rfl (by kernel_rfl) (by kernel_rfl) (by kernel_rfl) (fun _ _ _ h => h) (Or.inl ⟨by rfl, ?_⟩) (by assumption) ?_
                        rotate_left 1
                        · (intro w hSw; (try dsimp only at hSw); go_simp; try with_reducible rfl)
                        simp only [Act.put, pA, pB, pC, pD, pE, pF]
                        refine wpAnyH_take (i := 9) (v := ?_) rfl (by kernel_rfl) (by kernel_rfl) (by kernel_rfl) (fun _ _ _ h => h) (Or.inl ⟨by rfl, ?_⟩) (by assumption) ?_
                        rotate_left 1
                        · (intro w hSw; (try dsimp only at hSw); go_simp; try with_reducible rfl)
                        simp only [Act.put, pA, pB, pC, pD, pE, pF]
                        refine wpAnyH_take (i := 10) (v := ?_) rfl (by kernel_rfl) (by kernel_rfl) (by kernel_rfl) (fun _ _ _ h => h) (Or.inl ⟨by rfl, ?_⟩) (by assumption) ?_
                        rotate_left 1
                        · (intro w hSw; (try dsimp only at hSw); go_simp; try with_reducible rfl)
                        simp only [Act.put, pA, pB, pC, pD, pE, pF]
                        refine wpAnyH_take (i := 11) (v := ?_) rfl (by kernel_rfl) (by kernel_rfl) (by kernel_rfl) (fun _ _ _ h => h) (Or.inl ⟨by rfl, ?_⟩) (by assumption) ?_
                        rotate_left 1
                        · (intro w hSw; (try dsimp only at hSw); go_simp; try with_reducible rfl)
                        simp only [Act.put, pA, pB, pC, pD, pE, pF]
                        refine wpAnyH_take (i := 12) (v := ?_) rfl (by kernel_rfl) (by kernel_rfl) (by kernel_rfl) (fun _ _ _ h => h) (Or.inl ⟨by rfl, ?_⟩) (by assumption) ?_
                        rotate_left 1
                        · (intro w hSw; (try dsimp only at hSw); go_simp; try with_reducible rfl)
                        simp only [Act.put, pA, pB, pC, pD, pE, pF]
                        refine wpAnyH_ready (rs := [13]) (by kernel_rfl) (by simp) ?_
                        refine AllReadyH.cons rfl (fun K hK => ?_) AllReadyH.nil
                        go_simp
                        refine (isDone_any _ _ c3 (d.done.take k) r.number _ (s3.next K4) (by omega)).mono ?_
                        rw [g2]
                        rintro e w5 ⟨rfl, b5⟩
                        have K5 := bel_then K4 b5
                        have PB5 := PB4.next b5
                        have RB5 := RB4.next b5
                        have pc5 := PB5.cell
                        have rc5 := RB5.cell
                        clear pc4 rc4

                        go_wp2_with fail
                        refine hK.out _ _ (by (try dsimp only); go_keep) (fun hHeld => ?_)
                        clear hK K
                        refine wpAnyH_take (i := 14) (v := ?_) rfl (by kernel_rfl) (by kernel_rfl) (by kernel_rfl) (fun _ _ _ h => h) (Or.inl ⟨by rfl, ?_⟩) (by assumption) ?_
                        rotate_left 1
                        · (intro w hSw; (try dsimp only at hSw); go_simp; try with_reducible rfl)
                        simp only [Act.put, pA, pB, pC, pD, pE, pF]
                        refine wpAnyH_take (i := 15) (v := ?_) rfl (by kernel_rfl) (by kernel_rfl) (by kernel_rfl) (fun _ _ _ h => h) (Or.inl ⟨by rfl, ?_⟩) (by assumption) ?_
                        rotate_left 1
                        · (intro w hSw; (try dsimp only at hSw); go_simp; try with_reducible rfl)
                        simp only [Act.put, pA, pB, pC, pD, pE, pF]
                        refine wpAnyH_take (i := 16) (v := ?_) rfl (by kernel_rfl) (by kernel_rfl) (by kernel_rfl) (fun _ _ _ h => h) (Or.inl ⟨by rfl, ?_⟩) (by assumption) ?_
                        rotate_left 1
                        · (intro w hSw; (try dsimp only at hSw); go_simp; try with_reducible rfl)
                        simp only [Act.put, pA, pB, pC, pD, pE, pF]
                        refine wpAnyH_take (i := 17) (v := ?_) rfl (by kernel_rfl) (by kernel_rfl) (by kernel_rfl) (fun _ _ _ h => h) (Or.inl ⟨by rfl, ?_⟩) (by assumption) ?_
                        rotate_left 1
                        · (intro w hSw; (try dsimp only at hSw); go_simp; try with_reducible rfl)
                        simp only [Act.put, pA, pB, pC, pD, pE, pF]
                        refine wpAnyH_ready (rs := [18]) (by kernel_rfl) (by simp) ?_
                        refine AllReadyH.cons rfl (fun K hK => ?_) AllReadyH.nil
                        go_simp
                        refine (inside_any _ _ _ _).mono ?_
                        rw [g3]
                        rintro e w' ⟨rfl, rfl⟩

                        go_wp2_with fail
                        refine hK.out _ _ (by (try dsimp only); go_keep) (fun hHeld => ?_)
                        clear hK K
                        refine wpAnyH_take (i := 19) (v := ?_) rfl (by kernel_rfl) (by kernel_rfl) (by kernel_rfl) (fun _ _ _ h => h) (Or.inl ⟨by rfl, ?_⟩) (by assumption) ?_
                        rotate_left 1
                        · (intro w hSw; (try dsimp only at hSw); go_simp; try with_reducible rfl)
                        simp only [Act.put, pA, pB, pC, pD, pE, pF]
                        refine wpAnyH_take (i := 20) (v := ?_) rfl (by kernel_rfl) (by kernel_rfl) (by kernel_rfl) (fun _ _ _ h => h) (Or.inl ⟨by rfl, ?_⟩) (by assumption) ?_
                        rotate_left 1
                        · (intro w hSw; (try dsimp only at hSw); go_simp; try with_reducible rfl)
                        simp only [Act.put, pA, pB, pC, pD, pE, pF]
                        refine wpAnyH_take (i := 21) (v := ?_) rfl (by kernel_rfl) (by kernel_rfl) (by kernel_rfl) (fun _ _ _ h => h) (Or.inl ⟨by rfl, ?_⟩) (by assumption) ?_
                        rotate_left 1
                        · (intro w hSw; (try dsimp only at hSw); go_simp; try with_reducible rfl)
                        simp only [Act.put, pA, pB, pC, pD, pE, pF]
                        refine wpAnyH_take (i := 22) (v := ?_) rfl (by kernel_rfl) (by kernel_rfl) (by kernel_rfl) (fun _ _ _ h => h) (Or.inl ⟨by rfl, ?_⟩) (by assumption) ?_
                        rotate_left 1
                        · (intro w hSw; (try dsimp only at hSw); go_simp; try with_reducible rfl)
                        simp only [Act.put, pA, pB, pC, pD, pE, pF]
                        refine wpAnyH_take (i := 23) (v := ?_) rfl (by kernel_rfl) (by kernel_rfl) (by kernel_rfl) (fun _ _ _ h => h) (Or.inl ⟨by rfl, ?_⟩) (by assumption) ?_
                        rotate_left 1
                        · (intro w hSw; (try dsimp only at hSw); go_simp; try with_reducible rfl)
                        simp only [Act.put, pA, pB, pC, pD, pE, pF]
                        refine wpAnyH_ready (rs := [24]) (by kernel_rfl) (by simp) ?_
                        refine AllReadyH.cons rfl (fun K hK => ?_) AllReadyH.nil
                        go_simp
                        refine (isTime_any _ _).mono ?_
                        rw [g4]
                        rintro e w' ⟨rfl, rfl⟩

                        go_wp2_with fail
                        refine hK.out _ _ (by (try dsimp only); go_keep) (fun hHeld => ?_)
                        clear hK K
                        refine wpAnyH_take (i := 25) (v := ?_) rfl (by kernel_rfl) (by kernel_rfl) (by kernel_rfl) (fun _ _ _ h => h) (Or.inl ⟨by rfl, ?_⟩) (by assumption) ?_
                        rotate_left 1
                        · (intro w hSw; (try dsimp only at hSw); go_simp; try with_reducible rfl)
                        simp only [Act.put, pA, pB, pC, pD, pE, pF]
                        refine wpAnyH_take (i := 26) (v := ?_) rfl (by kernel_rfl) (by kernel_rfl) (by kernel_rfl) (fun _ _ _ h => h) (Or.inl ⟨by rfl, ?_⟩) (by assumption) ?_
                        rotate_left 1
                        · (intro w hSw; (try dsimp only at hSw); go_simp; try with_reducible rfl)
                        simp only [Act.put, pA, pB, pC, pD, pE, pF]
                        refine wpAnyH_done (by kernel_rfl) ?_ _
                        go_wp2_with fail
                        go_roundw
                        case rel => exact ⟨k + 1, by omega, by go_num, HA2, PB5, K5⟩
                        case measure => simp [intOf]; omega
                  · have HR := Lib.hid (show deskB d = false by rw [HC.out, Bool.and_eq_false_iff]; right; exact allTo_false hlt (HO.out.trans (by simp [rowB, g1, g2])))
                    refine wp_region_held_drew (S := fun w' => w'.cell? ⟨w.heap.size, 1, none⟩ = some (.slice A1 n1 c1) ∧ w'.cell? ⟨w.heap.size, 3, none⟩ = some (.slice (some ⟨b, off, none⟩) n3 c3) ∧ w'.cell? ⟨ga, 0, none⟩ = some (.int .i64 r.number) ∧ w'.cell? ⟨ga, 1, none⟩ = some (.int .i64 r.missing) ∧ w'.cell? ⟨ga, 2, none⟩ = some (.int .i64 r.time)) (by kernel_rfl) (by (try dsimp only); go_keep) (fun hHeld => ?_)
                    refine wpAnyH_take (i := 0) (v := ?_) rfl (by kernel_rfl) (by kernel_rfl) (by kernel_rfl) (fun _ _ _ h => h) (Or.inl ⟨by rfl, ?_⟩) (by assumption) ?_
                    rotate_left 1
                    · (intro w hSw; (try dsimp only at hSw); go_simp; try with_reducible rfl)
                    simp only [Act.put, pA, pB, pC, pD, pE]
                    refine wpAnyH_take (i := 1) (v := ?_) rfl (by kernel_rfl) (by kernel_rfl) (by kernel_rfl) (fun _ _ _ h => h) (Or.inl ⟨by rfl, ?_⟩) (by assumption) ?_
                    rotate_left 1
                    · (intro w hSw; (try dsimp only at hSw); go_simp; try with_reducible rfl)
                    simp only [Act.put, pA, pB, pC, pD, pE, pF]
                    refine wpAnyH_take (i := 2) (v := ?_) rfl (by kernel_rfl) (by kernel_rfl) (by kernel_rfl) (fun _ _ _ h => h) (Or.inl ⟨by rfl, ?_⟩) (by assumption) ?_
                    rotate_left 1
                    · (intro w hSw; (try dsimp only at hSw); go_simp; try with_reducible rfl)
                    simp only [Act.put, pA, pB, pC, pD, pE, pF]
                    refine wpAnyH_take (i := 3) (v := ?_) rfl (by kernel_rfl) (by kernel_rfl) (by kernel_rfl) (fun _ _ _ h => h) (Or.inl ⟨by rfl, ?_⟩) (by assumption) ?_
                    rotate_left 1
                    · (intro w hSw; (try dsimp only at hSw); go_simp; try with_reducible rfl)
                    simp only [Act.put, pA, pB, pC, pD, pE, pF]
                    refine wpAnyH_ready (rs := [4]) (by kernel_rfl) (by simp) ?_
                    refine AllReadyH.cons rfl (fun K hK => ?_) AllReadyH.nil
                    go_simp
                    refine (Contains_has _ _ _ d.known r.number _ (s1.next K3) (by omega)).mono ?_
                    rw [g1]
                    rintro e w4 ⟨rfl, q4⟩
                    have b4 := q4.below w2.drew.heap.size
                    have K4 := bel_then K3 b4
                    have PB4 := PB3.next b4
                    have RB4 := RB3.next b4
                    have pc4 := PB4.cell
                    have rc4 := RB4.cell
                    clear pc3 rc3

                    go_wp2_with fail
                    refine hK.out _ _ (by (try dsimp only); go_keep) (fun hHeld => ?_)
                    clear hK K
                    refine wpAnyH_take (i := 5) (v := ?_) rfl (by kernel_rfl) (by kernel_rfl) (by kernel_rfl) (fun _ _ _ h => h) (Or.inl ⟨by rfl, ?_⟩) (by assumption) ?_
                    rotate_left 1
                    · (intro w hSw; (try dsimp only at hSw); go_simp; try with_reducible rfl)
                    simp only [Act.put, pA, pB, pC, pD, pE, pF]
                    refine wpAnyH_take (i := 6) (v := ?_) rfl (by kernel_rfl) (by kernel_rfl) (by kernel_rfl) (fun _ _ _ h => h) (Or.inl ⟨by rfl, ?_⟩) (by assumption) ?_
                    rotate_left 1
                    · (intro w hSw; (try dsimp only at hSw); go_simp; try with_reducible rfl)
                    simp only [Act.put, pA, pB, pC, pD, pE, pF]
                    refine wpAnyH_take (i := 7) (v := ?_) rfl (by kernel_rfl) (by kernel_rfl) (by kernel_rfl) (fun _ _ _ h => h) (Or.inl ⟨by rfl, ?_⟩) (by assumption) ?_
                    rotate_left 1
                    · (intro w hSw; (try dsimp only at hSw); go_simp; try with_reducible rfl)
                    simp only [Act.put, pA, pB, pC, pD, pE, pF]
                    refine wpAnyH_take (i := 8) (v := ?_) rfl (by kernel_rfl) (by kernel_rfl) (by kernel_rfl) (fun _ _ _ h => h) (Or.inl ⟨by rfl, ?_⟩) (by assumption) ?_
                    rotate_left 1
                    · (intro w hSw; (try dsimp only at hSw); go_simp; try with_reducible rfl)
                    simp only [Act.put, pA, pB, pC, pD, pE, pF]
                    refine wpAnyH_take (i := 9) (v := ?_) rfl (by kernel_rfl) (by kernel_rfl) (by kernel_rfl) (fun _ _ _ h => h) (Or.inl ⟨by rfl, ?_⟩) (by assumption) ?_
                    rotate_left 1
                    · (intro w hSw; (try dsimp only at hSw); go_simp; try with_reducible rfl)
                    simp only [Act.put, pA, pB, pC, pD, pE, pF]
                    refine wpAnyH_take (i := 10) (v := ?_) rfl (by kernel_rfl) (by kernel_rfl) (by kernel_rfl) (fun _ _ _ h => h) (Or.inl ⟨by rfl, ?_⟩) (by assumption) ?_
                    rotate_left 1
                    · (intro w hSw; (try dsimp only at hSw); go_simp; try with_reducible rfl)
                    simp only [Act.put, pA, pB, pC, pD, pE, pF]
                    refine wpAnyH_take (i := 11) (v := ?_) rfl (by kernel_rfl) (by kernel_rfl) (by kernel_rfl) (fun _ _ _ h => h) (Or.inl ⟨by rfl, ?_⟩) (by assumption) ?_
                    rotate_left 1
                    · (intro w hSw; (try dsimp only at hSw); go_simp; try with_reducible rfl)
                    simp only [Act.put, pA, pB, pC, pD, pE, pF]
                    refine wpAnyH_take (i := 12) (v := ?_) rfl (by kernel_rfl) (by kernel_rfl) (by kernel_rfl) (fun _ _ _ h => h) (Or.inl ⟨by rfl, ?_⟩) (by assumption) ?_
                    rotate_left 1
                    · (intro w hSw; (try dsimp only at hSw); go_simp; try with_reducible rfl)
                    simp only [Act.put, pA, pB, pC, pD, pE, pF]
                    refine wpAnyH_ready (rs := [13]) (by kernel_rfl) (by simp) ?_
                    refine AllReadyH.cons rfl (fun K hK => ?_) AllReadyH.nil
                    go_simp
                    refine (isDone_any _ _ c3 (d.done.take k) r.number _ (s3.next K4) (by omega)).mono ?_
                    rw [g2]
                    rintro e w5 ⟨rfl, b5⟩
                    have K5 := bel_then K4 b5
                    have PB5 := PB4.next b5
                    have RB5 := RB4.next b5
                    have pc5 := PB5.cell
                    have rc5 := RB5.cell
                    clear pc4 rc4

                    go_wp2_with fail
                    refine hK.out _ _ (by (try dsimp only); go_keep) (fun hHeld => ?_)
                    clear hK K
                    refine wpAnyH_take (i := 14) (v := ?_) rfl (by kernel_rfl) (by kernel_rfl) (by kernel_rfl) (fun _ _ _ h => h) (Or.inl ⟨by rfl, ?_⟩) (by assumption) ?_
                    rotate_left 1
                    · (intro w hSw; (try dsimp only at hSw); go_simp; try with_reducible rfl)
                    simp only [Act.put, pA, pB, pC, pD, pE, pF]
                    refine wpAnyH_take (i := 15) (v := ?_) rfl (by kernel_rfl) (by kernel_rfl) (by kernel_rfl) (fun _ _ _ h => h) (Or.inl ⟨by rfl, ?_⟩) (by assumption) ?_
                    rotate_left 1
                    · (intro w hSw; (try dsimp only at hSw); go_simp; try with_reducible rfl)
                    simp only [Act.put, pA, pB, pC, pD, pE, pF]
                    refine wpAnyH_take (i := 16) (v := undef) rfl (by kernel_rfl) (by kernel_rfl) (by kernel_rfl) (fun _ _ _ h => h) (Or.inr ⟨by rfl, rfl⟩) (by assumption) ?_
                    simp only [Act.put, pA, pB, pC, pD, pE, pF]
                    refine wpAnyH_take (i := 17) (v := undef) rfl (by kernel_rfl) (by kernel_rfl) (by kernel_rfl) (fun _ _ _ h => h) (Or.inr ⟨by rfl, rfl⟩) (by assumption) ?_
                    simp only [Act.put, pA, pB, pC, pD, pE, pF]
                    refine wpAnyH_take (i := 18) (v := undef) rfl (by kernel_rfl) (by kernel_rfl) (by kernel_rfl) (fun _ _ _ h => h) (Or.inr ⟨by rfl, rfl⟩) (by assumption) ?_
                    simp only [Act.put, pA, pB, pC, pD, pE, pF]
                    refine wpAnyH_take (i := 19) (v := undef) rfl (by kernel_rfl) (by kernel_rfl) (by kernel_rfl) (fun _ _ _ h => h) (Or.inr ⟨by rfl, rfl⟩) (by assumption) ?_
                    simp only [Act.put, pA, pB, pC, pD, pE, pF]
                    refine wpAnyH_take (i := 20) (v := ?_) rfl (by kernel_rfl) (by kernel_rfl) (by kernel_rfl) (fun _ _ _ h => h) (Or.inl ⟨by rfl, ?_⟩) (by assumption) ?_
                    rotate_left 1
                    · (intro w hSw; (try dsimp only at hSw); go_simp; try with_reducible rfl)
                    simp only [Act.put, pA, pB, pC, pD, pE, pF]
                    refine wpAnyH_take (i := 21) (v := ?_) rfl (by kernel_rfl) (by kernel_rfl) (by kernel_rfl) (fun _ _ _ h => h) (Or.inl ⟨by rfl, ?_⟩) (by assumption) ?_
                    rotate_left 1
                    · (intro w hSw; (try dsimp only at hSw); go_simp; try with_reducible rfl)
                    simp only [Act.put, pA, pB, pC, pD, pE, pF]
                    refine wpAnyH_take (i := 22) (v := undef) rfl (by kernel_rfl) (by kernel_rfl) (by kernel_rfl) (fun _ _ _ h => h) (Or.inr ⟨by rfl, rfl⟩) (by assumption) ?_
                    simp only [Act.put, pA, pB, pC, pD, pE, pF]
                    refine wpAnyH_take (i := 23) (v := undef) rfl (by kernel_rfl) (by kernel_rfl) (by kernel_rfl) (fun _ _ _ h => h) (Or.inr ⟨by rfl, rfl⟩) (by assumption) ?_
                    simp only [Act.put, pA, pB, pC, pD, pE, pF]
                    refine wpAnyH_take (i := 24) (v := undef) rfl (by kernel_rfl) (by kernel_rfl) (by kernel_rfl) (fun _ _ _ h => h) (Or.inr ⟨by rfl, rfl⟩) (by assumption) ?_
                    simp only [Act.put, pA, pB, pC, pD, pE, pF]
                    refine wpAnyH_take (i := 25) (v := undef) rfl (by kernel_rfl) (by kernel_rfl) (by kernel_rfl) (fun _ _ _ h => h) (Or.inr ⟨by rfl, rfl⟩) (by assumption) ?_
                    simp only [Act.put, pA, pB, pC, pD, pE, pF]
                    refine wpAnyH_take (i := 26) (v := ?_) rfl (by kernel_rfl) (by kernel_rfl) (by kernel_rfl) (fun _ _ _ h => h) (Or.inl ⟨by rfl, ?_⟩) (by assumption) ?_
                    rotate_left 1
                    · (intro w hSw; (try dsimp only at hSw); go_simp; try with_reducible rfl)
                    simp only [Act.put, pA, pB, pC, pD, pE, pF]
                    refine wpAnyH_done (by kernel_rfl) ?_ _
                    go_wp2_with fail
                    go_ret
                    exact ⟨ret_bool HR.out.symm, K5⟩
              · obtain rfl : k = n3 := by omega
                have HD := Lib.hid (show deskB d = decide (((n2 : Int) + (k : Int) + (n4 : Int)) ≤ 10) by rw [HC.out, HA.out, Bool.and_true, decide_eq_decide]; omega)
                clear HA
                go_wp2_with fail
                go_ret
                exact ⟨ret_bool HD.out.symm, hb⟩
    · have HF := Lib.hid (show deskB d = false from topB_not (by simp [topB, l1, l2, l3, l4, glen]))
      go_wp2_with fail
      go_ret
      exact ⟨ret_bool HF.out.symm, KB⟩

end Go.Proofs.YtkimlajfhepfgaaGreat
