/- Joined: SortInt, ZeroC, StepT, StepP, StepW, StepTk, StepS. -/
import Derived.Lib.OwnBridge
import Derived.Sort.Grow
import Derived.Test.YtkchdhmnomelkaaGreatInts
import Derived.Test.YtkchdhmnomelkaaGreatShelfIZ
import Derived.Test.YtkchdhmnomelkaaGreatCard
import Derived.Test.YtkchdhmnomelkaaGreatCardT
import Derived.Test.YtkchdhmnomelkaaGreatCheckS
import Derived.Test.YtkchdhmnomelkaaGreatBfs
import Derived.Test.YtkchdhmnomelkaaGreatDeskW
import Derived.Test.YtkchdhmnomelkaaGreatNest2
import Derived.Test.YtkchdhmnomelkaaGreatDeskF
import Derived.Test.YtkchdhmnomelkaaGreatOwn
import Derived.Test.YtkchdhmnomelkaaGreatCheckF
/- Numbers sorted: slices.Sort at a row of the call's own. -/
namespace Go.Proofs.YtkchdhmnomelkaaGreat
open Go.RowKit Go.Lib Go.Sort

def sortI (zs : List Int) : List Int := zs.mergeSort fun x y => decide (x ≤ y)
theorem sortI_len (zs : List Int) : (sortI zs).length = zs.length := List.length_mergeSort _
theorem sortI_mem {zs : List Int} {x : Int} : x ∈ sortI zs ↔ x ∈ zs := (List.mergeSort_perm zs _).mem_iff
theorem sortI_up (zs : List Int) : (sortI zs).Pairwise (· ≤ ·) := by
  have h := List.pairwise_mergeSort (le := fun x y : Int => decide (x ≤ y)) (fun a b c h1 h2 => by simp only [decide_eq_true_eq] at *; omega) (fun a b => by simp only [Bool.or_eq_true, decide_eq_true_eq]; omega) zs
  exact h.imp fun h => by simpa using h
theorem sortI_rising {zs : List Int} (h : zs.Nodup) : (sortI zs).Pairwise (· < ·) := by
  have h1 : (sortI zs).Nodup := (List.mergeSort_perm zs _).symm.nodup h
  exact (List.pairwise_and_iff.2 ⟨sortI_up zs, h1⟩).imp fun h => by omega
theorem bel_grow (x : World) (os : Array Obj) : Below x.heap.size x (grow x os) := ⟨rfl, rfl, rfl, by simp, fun k hk => heap_grow_old x os hk⟩
theorem only_putRow (w : World) (q g : Nat) (d : Array Int) : Only (OwnB (some ⟨g, 0, none⟩)) w (putRow (Value.int .i64) (Sort.ahead w q) g 0 d) :=
  ⟨rfl, rfl, rfl, by simp [putRow, mapBlock, Sort.ahead], fun k hk hS => by
    have hne : g ≠ k := fun e => hS (by subst e; rfl)
    simp [putRow, mapBlock, Sort.ahead, Array.getElem?_modify, hne]⟩
theorem Sort_own (base t n c : Nat) (A : Option Addr) (zs : List Int) (w : World) (h : w.ownsRow base t 1 (.slice A n c) n (ints zs)) (hn : n ≤ 1000000) :
    Calls Tryz.prog 75 #[.slice A n c] w fun e w' => e = .returned (.tuple #[]) ∧ w'.ownsRow base t 1 (.slice A n c) n (ints (sortI zs)) ∧ Only (OwnB A) w w' := by
  have hl := own_len h
  rcases own_open h with ⟨rfl, rfl, rfl, hxs⟩ | ⟨g, cur, rfl, hg, hB, hcl, hnc, hcm, htk⟩
  · have hz : zs = [] := List.eq_nil_of_length_eq_zero hl
    subst hz
    exact (sh_slices_Sort_int_none none 0 w).mono fun e w' ⟨he, hw⟩ => ⟨he, by rw [hw, show sortI [] = [] by simp [sortI]]; exact h, by rw [hw]; exact Only.refl _ _⟩
  · obtain ⟨g', cap, hv, _, hlt, _, _, _, hH⟩ := holds_of_ownsRow (zs := zs) (enc := Value.int .i64) h (by simp)
    simp only [Value.slice.injEq, Option.some.injEq, Addr.mk.injEq, and_true, true_and] at hv
    obtain ⟨rfl, rfl⟩ := hv
    subst hl
    refine (sh_slices_Sort_int g 0 c zs w hH hlt (by omega)).mono fun e w' ⟨he, q, os, hw⟩ => ⟨he, ?_, ?_⟩
    · rw [hw]
      have h2 := ownsRow_putRow (ys := sortI zs) (q := q) h (sortI_len zs) (Nat.le_refl _)
      rw [List.take_of_length_le (by rw [sortI_len]; exact Nat.le_refl _)] at h2
      exact own_below h2 (bel_grow _ os)
    · rw [hw]
      exact (only_putRow w q g _).then_ (bel_grow _ os)
end Go.Proofs.YtkchdhmnomelkaaGreat

/- Is a card empty? As the program and as the reference have it. -/
namespace Go.Proofs.YtkchdhmnomelkaaGreat
open Go.RowKit

def zeroB (x : Card) : Bool := decide (x.number = 0) && (decide (x.start = 0) && (decide (x.finish = 0) && decide (x.punches.length = 0)))
theorem isZeroCard_any (A : Option Addr) (n c lo : Nat) (x : Card) (w : World) (hx : Sees w lo 2 A n (x.punches.flatMap Punch.enc)) :
    Calls Tryz.prog 73 #[.agg #[.int .i64 x.number, .int .i64 x.start, .int .i64 x.finish, .slice A n c]] w fun e w' => e = .returned (.bool (zeroB x)) ∧ Below w.heap.size w w' := by
  have hl := hx.count (by decide) (fun _ => rfl)
  have K0 : Below w.heap.size w (w.alloc (.cells #[.int .i64 x.number, .int .i64 x.start, .int .i64 x.finish, .slice A n c] 43)) := (Below.refl _ _).alloc (Nat.le_refl _) _
  by_cases h0 : x.number = 0
  rotate_left 1
  · have f0 : (x.number == 0) = false := beq_eq_false_iff_ne.2 h0
    have HZ := Lib.hid (show zeroB x = false by unfold zeroB; simp [h0])
    clear h0
    go_enter Tryz.func73, Tryz.ntmps73
    go_wp2_with fail
    go_ret
    exact ⟨ret_bool HZ.out.symm, K0⟩
  have f0 : (x.number == 0) = true := beq_iff_eq.2 h0
  by_cases h1 : x.start = 0
  rotate_left 1
  · have f1 : (x.start == 0) = false := beq_eq_false_iff_ne.2 h1
    have HZ := Lib.hid (show zeroB x = false by unfold zeroB; simp [h0, h1])
    clear h0 h1
    go_enter Tryz.func73, Tryz.ntmps73
    go_wp2_with fail
    go_ret
    exact ⟨ret_bool HZ.out.symm, K0⟩
  have f1 : (x.start == 0) = true := beq_iff_eq.2 h1
  by_cases h2 : x.finish = 0
  rotate_left 1
  · have f2 : (x.finish == 0) = false := beq_eq_false_iff_ne.2 h2
    have HZ := Lib.hid (show zeroB x = false by unfold zeroB; simp [h0, h1, h2])
    clear h0 h1 h2
    go_enter Tryz.func73, Tryz.ntmps73
    go_wp2_with fail
    go_ret
    exact ⟨ret_bool HZ.out.symm, K0⟩
  have f2 : (x.finish == 0) = true := beq_iff_eq.2 h2
  by_cases h3 : (n : Int) = 0
  rotate_left 1
  · have f3 : ((n : Int) == 0) = false := beq_eq_false_iff_ne.2 h3
    have HZ := Lib.hid (show zeroB x = false by unfold zeroB; simp [h0, h1, h2, show ¬ x.punches.length = 0 by omega])
    clear h0 h1 h2 h3
    go_enter Tryz.func73, Tryz.ntmps73
    go_wp2_with fail
    go_ret
    exact ⟨ret_bool HZ.out.symm, K0⟩
  have f3 : ((n : Int) == 0) = true := beq_iff_eq.2 h3
  have HZ := Lib.hid (show zeroB x = true by unfold zeroB; simp [h0, h1, h2, show x.punches.length = 0 by omega])
  clear h0 h1 h2 h3
  go_enter Tryz.func73, Tryz.ntmps73
  go_wp2_with fail
  go_ret
  exact ⟨ret_bool HZ.out.symm, K0⟩

theorem l21None_any (A : Option Addr) (n c lo : Nat) (x : Card) (w : World) (hx : Sees w lo 2 A n (x.punches.flatMap Punch.enc)) :
    Calls Tryz.prog 58 #[.agg #[.int .i64 x.number, .int .i64 x.start, .int .i64 x.finish, .slice A n c]] w fun e w' => e = .returned (.bool (zeroB x)) ∧ Below w.heap.size w w' := by
  have hl := hx.count (by decide) (fun _ => rfl)
  have K0 : Below w.heap.size w (w.alloc (.cells #[.int .i64 x.number, .int .i64 x.start, .int .i64 x.finish, .slice A n c] 43)) := (Below.refl _ _).alloc (Nat.le_refl _) _
  by_cases h0 : x.number = 0
  rotate_left 1
  · have f0 : (x.number == 0) = false := beq_eq_false_iff_ne.2 h0
    have HZ := Lib.hid (show zeroB x = false by unfold zeroB; simp [h0])
    clear h0
    go_enter Tryz.func58, Tryz.ntmps58
    go_wp2_with fail
    go_ret
    exact ⟨ret_bool HZ.out.symm, K0⟩
  have f0 : (x.number == 0) = true := beq_iff_eq.2 h0
  by_cases h1 : x.start = 0
  rotate_left 1
  · have f1 : (x.start == 0) = false := beq_eq_false_iff_ne.2 h1
    have HZ := Lib.hid (show zeroB x = false by unfold zeroB; simp [h0, h1])
    clear h0 h1
    go_enter Tryz.func58, Tryz.ntmps58
    go_wp2_with fail
    go_ret
    exact ⟨ret_bool HZ.out.symm, K0⟩
  have f1 : (x.start == 0) = true := beq_iff_eq.2 h1
  by_cases h2 : x.finish = 0
  rotate_left 1
  · have f2 : (x.finish == 0) = false := beq_eq_false_iff_ne.2 h2
    have HZ := Lib.hid (show zeroB x = false by unfold zeroB; simp [h0, h1, h2])
    clear h0 h1 h2
    go_enter Tryz.func58, Tryz.ntmps58
    go_wp2_with fail
    go_ret
    exact ⟨ret_bool HZ.out.symm, K0⟩
  have f2 : (x.finish == 0) = true := beq_iff_eq.2 h2
  by_cases h3 : (n : Int) = 0
  rotate_left 1
  · have f3 : ((n : Int) == 0) = false := beq_eq_false_iff_ne.2 h3
    have HZ := Lib.hid (show zeroB x = false by unfold zeroB; simp [h0, h1, h2, show ¬ x.punches.length = 0 by omega])
    clear h0 h1 h2 h3
    go_enter Tryz.func58, Tryz.ntmps58
    go_wp2_with fail
    go_ret
    exact ⟨ret_bool HZ.out.symm, K0⟩
  have f3 : ((n : Int) == 0) = true := beq_iff_eq.2 h3
  have HZ := Lib.hid (show zeroB x = true by unfold zeroB; simp [h0, h1, h2, show x.punches.length = 0 by omega])
  clear h0 h1 h2 h3
  go_enter Tryz.func58, Tryz.ntmps58
  go_wp2_with fail
  go_ret
  exact ⟨ret_bool HZ.out.symm, K0⟩

end Go.Proofs.YtkchdhmnomelkaaGreat

/- The law's own helpers over steps: printed by nest.py and g_ent.py. -/
namespace Go.Proofs.YtkchdhmnomelkaaGreat
open Go.RowKit

theorem Sees.elem6 {α : Type} {w : World} {lo n k : Nat} {A : Option Addr} {ds : List α} {enc : α → List Value} {f0 f1 f2 f3 f4 f5 : α → Value} (h : Sees w lo 6 A n (ds.flatMap enc)) (he : ∀ x, enc x = [f0 x, f1 x, f2 x, f3 x, f4 x, f5 x]) (hk : k < n) :
    ∃ b off, A = some ⟨b, off, none⟩ ∧ ∃ hx : k < ds.length, w.cell? ⟨b, off + k * 6, none⟩ = some (f0 ds[k]) ∧ w.cell? ⟨b, off + k * 6 + 1, none⟩ = some (f1 ds[k]) ∧ w.cell? ⟨b, off + k * 6 + 2, none⟩ = some (f2 ds[k]) ∧ w.cell? ⟨b, off + k * 6 + 3, none⟩ = some (f3 ds[k]) ∧ w.cell? ⟨b, off + k * 6 + 4, none⟩ = some (f4 ds[k]) ∧ w.cell? ⟨b, off + k * 6 + 5, none⟩ = some (f5 ds[k]) := by
  obtain ⟨b, off, e, hx, hc⟩ := h.elem (by decide) (fun x => by rw [he]; rfl) hk
  exact ⟨b, off, e, hx, hc 0 _ (by rw [he]; rfl), hc 1 _ (by rw [he]; rfl), hc 2 _ (by rw [he]; rfl), hc 3 _ (by rw [he]; rfl), hc 4 _ (by rw [he]; rfl), hc 5 _ (by rw [he]; rfl)⟩
structure DeskStep where
  kind : Int
  number : Int
  cnumber : Int
  cstart : Int
  cfinish : Int
  punches : List Punch
deriving DecidableEq
def deskStepSh : Sh DeskStep := ⟨fun r => [(.int .i64 r.x.kind), (.int .i64 r.x.number), (.int .i64 r.x.cnumber), (.int .i64 r.x.cstart), (.int .i64 r.x.cfinish), (.slice r.A r.n r.c)], 6, 2, fun x => (x.punches.flatMap Punch.enc), by decide, fun _ => rfl⟩
def DeskStep.cnt (x : DeskStep) : Nat := x.punches.length
/-- how many marks it takes -/
def DeskStep.wt (x : DeskStep) : Nat := x.punches.length * 2 + 5
def DeskStep.mark (k : Int) (x : DeskStep) : DeskStep := ⟨k, k + 1, k + 1 + 1, k + 1 + 1 + 1, k + 1 + 1 + 1 + 1, (marksOf Punch.mark 2 (k + 1 + 1 + 1 + 1 + 1) x.punches.length)⟩
theorem info_impl_DeskStep : (Tryz.prog.info? 45).map (fun i => (i.zero, i.size, i.bytes)) = some (some (.agg #[.int .i64 0, .int .i64 0, .int .i64 0, .int .i64 0, .int .i64 0, .slice none 0 0]), 6, 64) := by kernel_rfl
theorem SeesDeskStep.elem {w : World} {lo n k : Nat} {A : Option Addr} {xs : List DeskStep} (h : SeesN deskStepSh w lo A n xs) (hk : k < n) :
    ∃ (b off : Nat) (B : Option Addr) (m d : Nat), A = some ⟨b, off, none⟩ ∧ ∃ hkx : k < xs.length, w.cell? ⟨b, off + k * 6, none⟩ = some (.int .i64 xs[k].kind) ∧ w.cell? ⟨b, off + k * 6 + 1, none⟩ = some (.int .i64 xs[k].number) ∧ w.cell? ⟨b, off + k * 6 + 2, none⟩ = some (.int .i64 xs[k].cnumber) ∧ w.cell? ⟨b, off + k * 6 + 3, none⟩ = some (.int .i64 xs[k].cstart) ∧ w.cell? ⟨b, off + k * 6 + 4, none⟩ = some (.int .i64 xs[k].cfinish) ∧ w.cell? ⟨b, off + k * 6 + 5, none⟩ = some (.slice B m d) ∧ Sees w lo 2 B m (xs[k].punches.flatMap Punch.enc) := by
  obtain ⟨rs, rfl, h2, h3⟩ := h
  obtain ⟨b, off, rfl, hkx, c0, c1, c2, c3, c4, c5⟩ := Sees.elem6 (enc := deskStepSh.enc) h2 (fun _ => rfl) hk
  have hx : (rs.map Hd.x)[k]'(by simpa using hkx) = rs[k].x := by simp
  refine ⟨b, off, rs[k].A, rs[k].n, rs[k].c, rfl, by simpa using hkx, ?_, ?_, ?_, ?_, ?_, ?_, ?_⟩
  · rw [c0, hx]
  · rw [c1, hx]
  · rw [c2, hx]
  · rw [c3, hx]
  · rw [c4, hx]
  · rw [c5]
  · rw [hx]; exact h3 rs[k] (List.getElem_mem hkx)

theorem DeskStep.wt_total (xs : List DeskStep) : wtN DeskStep.wt xs = wtN DeskStep.cnt xs * 2 + xs.length * 5 := by
  induction xs with
  | nil => rfl
  | cons x l ih => simp only [wtN, ih, List.length_cons, DeskStep.wt, DeskStep.cnt]; omega

/-- the card of a step -/
def DeskStep.card (x : DeskStep) : Card := ⟨x.cnumber, x.cstart, x.cfinish, x.punches⟩
theorem eqDeskStep_any (A B : Option Addr) (n n' c c' lo lo' : Nat) (x y : DeskStep) (w : World) (hx : Sees w lo 2 A n (x.punches.flatMap Punch.enc)) (hy : Sees w lo' 2 B n' (y.punches.flatMap Punch.enc)) (he : x = y) (hn : n ≤ 1048576) :
    Calls Tryz.prog 12 #[.agg #[.int .i64 x.kind, .int .i64 x.number, .int .i64 x.cnumber, .int .i64 x.cstart, .int .i64 x.cfinish, .slice A n c], .agg #[.int .i64 y.kind, .int .i64 y.number, .int .i64 y.cnumber, .int .i64 y.cstart, .int .i64 y.cfinish, .slice B n' c']] w fun e w' => e = .returned (.bool true) ∧ Below w.heap.size w w' := by
  subst he
  go_enter Tryz.func12, Tryz.ntmps12
  go_wp2_with fail
  have K0 : Below w.heap.size w _ := ((Below.refl w.heap.size w).alloc (Nat.le_refl _) (.cells #[.int .i64 x.kind, .int .i64 x.number, .int .i64 x.cnumber, .int .i64 x.cstart, .int .i64 x.cfinish, .slice A n c] 45)).alloc (by simp) (.cells #[.int .i64 x.kind, .int .i64 x.number, .int .i64 x.cnumber, .int .i64 x.cstart, .int .i64 x.cfinish, .slice B n' c'] 45)
  refine (eqCard_any _ _ _ _ c c' _ _ x.card x.card _ (hx.next K0) (hy.next K0) rfl hn).mono ?_
  rintro e w1 ⟨rfl, b1⟩
  have K1 := bel_then K0 b1
  go_wp2_with fail
  go_ret
  exact ⟨rfl, K1⟩
set_option maxRecDepth 100000 in
theorem eqDeskStepS_any (A A' : Option Addr) (n n' c c' lo lo' : Nat) (xs ys : List DeskStep) (w : World) (hx : SeesN deskStepSh w lo A n xs) (hy : SeesN deskStepSh w lo' A' n' ys) (he : xs = ys) (hn : n ≤ 140737488355328) (hi : ∀ x ∈ xs, x.cnt ≤ 1048576) :
    Calls Tryz.prog 20 #[.slice A n c, .slice A' n' c'] w fun e w' => e = .returned (.bool true) ∧ Below w.heap.size w w' := by
  subst he
  have hl := hx.count
  have hl' := hy.count
  obtain rfl : n = n' := by omega
  go_enter Tryz.func20, Tryz.ntmps20
  go_wp2_with fail
  go_loopw [5] (fun v wr => ∃ k : Nat, k ≤ n ∧ v = .int .i64 k ∧ Below w.heap.size w wr) (fun v _ => n - (intOf v).toNat)
  case atStart => exact ⟨0, Nat.zero_le _, rfl, Below.refl _ _⟩
  case round =>
    obtain ⟨k, hk, rfl, hb⟩ := hrel
    by_cases hlt : k < n
    · obtain ⟨b, off, B0, m, cc0, rfl, hkx, c0, c1, c2, c3, c4, c5, hxi⟩ := SeesDeskStep.elem (hx.next hb) hlt
      obtain ⟨b', off', B0', m', cc1, rfl, hky, d0, d1, d2, d3, d4, d5, hyi⟩ := SeesDeskStep.elem (hy.next hb) hlt
      have hm : m ≤ 1048576 := by
        have h1 := hi xs[k] (List.getElem_mem hkx)
        have h2 := hxi.count (by decide) (fun _ => rfl)
        unfold DeskStep.cnt at h1
        omega
      have hb' := bel_quiet hb (Quiet.one wr)
      replace hxi := hxi.quiet (Quiet.one wr)
      replace hyi := hyi.quiet (Quiet.one wr)
      go_wp2_with fail
      refine wp_region_still_tail 8 (by kernel_rfl) (by kernel_rfl) ?_
      simp only [List.take_succ_cons, List.take_zero, List.drop_succ_cons, List.drop_zero]
      change wpStill _ _ wr.drew _ _ _
      repeat still_step
      refine wpStill_nil ?_
      change wpList _ _ _ _ _ wr.drew
      generalize wr.drew = w2 at *
      go_wp2_with fail
      refine (eqDeskStep_any _ _ _ _ cc0 cc1 _ _ xs[k] xs[k] _ hxi hyi rfl hm).mono ?_
      rintro e w1 ⟨rfl, hb1⟩
      go_wp2_with fail
      go_roundw
      case rel => exact ⟨k + 1, by omega, by go_num, bel_then hb' hb1⟩
      case measure => simp [intOf]; omega
    · go_wp2_with fail
      go_ret
      exact ⟨rfl, hb⟩

end Go.Proofs.YtkchdhmnomelkaaGreat

/- A step of a desk: the plain law. -/
namespace Go.Proofs.YtkchdhmnomelkaaGreat
open Go.RowKit

theorem zeroB_zero {c : Card} (h : zeroB c = true) : c.number = 0 ∧ c.punches = [] := by
  unfold zeroB at h
  simp only [Bool.and_eq_true, decide_eq_true_eq] at h
  exact ⟨h.1, List.eq_nil_of_length_eq_zero h.2.2.2⟩
def isNum (n : Int) (c : Card) : Bool := c.number == n
def withL (l : List Card) (n : Int) : List Card := l.filter (isNum n)
def restL (l : List Card) (n : Int) : List Card := l.filter fun c => !isNum n c
theorem withL_next {l : List Card} {k : Nat} (n : Int) (hk : k < l.length) : withL (l.take (k + 1)) n = if isNum n l[k] then withL (l.take k) n ++ [l[k]] else withL (l.take k) n := by
  unfold withL
  rw [List.take_add_one, List.getElem?_eq_getElem hk, List.filter_append]
  cases h : isNum n l[k] <;> simp [h]
theorem restL_next {l : List Card} {k : Nat} (n : Int) (hk : k < l.length) : restL (l.take (k + 1)) n = if isNum n l[k] then restL (l.take k) n else restL (l.take k) n ++ [l[k]] := by
  unfold restL
  rw [List.take_add_one, List.getElem?_eq_getElem hk, List.filter_append]
  cases h : isNum n l[k] <;> simp [h]
theorem parts_len (l : List Card) (n : Int) : (withL l n).length + (restL l n).length = l.length := by
  unfold withL restL
  induction l with
  | nil => rfl
  | cons x l ih => cases h : isNum n x <;> simp [h] <;> omega

/-- The program's step: the desk, and whether it may stand. -/
def stepOut (d : DeskV) (s : DeskStep) : DeskV :=
  if s.kind = 1 then { d with queue := d.queue ++ [s.card] }
  else if s.kind = 2 then (if (decide (s.number = 0) && zeroB s.card) && decide (0 < d.queue.length) then checkD d else d)
  else if s.kind = 3 then { d with known := sortI (d.known ++ [s.number]), queue := d.queue ++ withL d.trouble s.number, trouble := restL d.trouble s.number }
  else if s.kind = 4 then (if zeroB s.card then { d with trouble := restL d.trouble s.number } else d)
  else d
def stepOk (d : DeskV) (s : DeskStep) : Bool :=
  if s.kind = 1 then decide (s.number = 0) && finB s.card
  else if s.kind = 2 then (decide (s.number = 0) && zeroB s.card) && decide (0 < d.queue.length)
  else if s.kind = 3 then zeroB s.card && !hasI d.known s.number
  else if s.kind = 4 then zeroB s.card && decide (0 < (withL d.trouble s.number).length)
  else false
def stepB (d : DeskV) (s : DeskStep) : Bool := stepOk d s && deskB (stepOut d s)
/-- The reference's step. -/
def validS (s : DeskStep) : Bool :=
  if s.kind = 1 then decide (s.number = 0) && finB s.card
  else if s.kind = 2 then decide (s.number = 0) && zeroB s.card
  else inB s.kind 3 4 && (inB s.number 1 9999 && zeroB s.card)
def makeOut (d : DeskV) (s : DeskStep) : DeskV :=
  if s.kind = 1 then { d with queue := d.queue ++ [s.card] }
  else if s.kind = 2 then (if d.queue.length = 0 then d else checkD d)
  else if s.kind = 3 then { d with known := if hasI d.known s.number then d.known else putI d.known s.number, queue := d.queue ++ withL d.trouble s.number, trouble := restL d.trouble s.number }
  else { d with trouble := restL d.trouble s.number }
def makeOk (d : DeskV) (s : DeskStep) : Bool :=
  if s.kind = 1 then true
  else if s.kind = 2 then decide (0 < d.queue.length)
  else if s.kind = 3 then !hasI d.known s.number
  else decide (0 < (withL d.trouble s.number).length)
def makeB (d : DeskV) (s : DeskStep) : Bool := makeOk d s && deskB (makeOut d s)

theorem risingB_all {lo hi : Int} {xs : List Int} (h : risingB lo hi xs = true) : xs.Pairwise (· < ·) ∧ ∀ x ∈ xs, lo ≤ x ∧ x ≤ hi := by
  have hat : ∀ k (hk : k < xs.length), risingAt lo hi xs k = true := fun k hk => allTo_at h hk
  have hin : ∀ k (hk : k < xs.length), lo ≤ xs[k] ∧ xs[k] ≤ hi := fun k hk => by
    cases e : inB xs[k] lo hi
    · have h1 := hat k hk
      rw [risingAt_in hk e] at h1
      cases h1
    · exact inB_true e
  refine ⟨?_, fun x hx => ?_⟩
  · have hstep : ∀ k (hk : k + 1 < xs.length), xs[k] < xs[k + 1] := fun k hk => by
      have h1 := hat (k + 1) hk
      rw [risingAt_succ hk (inB_mk (hin _ hk))] at h1
      exact of_decide_eq_true h1
    have hlt : ∀ (n i : Nat) (hj : i + n + 1 < xs.length), xs[i]'(by omega) < xs[i + n + 1] := by
      intro n
      induction n with
      | zero => intro i hj; exact hstep i hj
      | succ n ih =>
        intro i hj
        have h1 := ih i (by omega)
        have h2 := hstep (i + n + 1) (by omega)
        have h3 : xs[i + (n + 1) + 1] = xs[i + n + 1 + 1] := by congr 1
        omega
    refine List.pairwise_iff_getElem.2 fun i j hi hj hij => ?_
    have h1 := hlt (j - i - 1) i (by omega)
    have h2 : xs[i + (j - i - 1) + 1]'(by omega) = xs[j] := by congr 1; omega
    omega
  · obtain ⟨k, hk, rfl⟩ := List.getElem_of_mem hx
    exact hin k hk
theorem deskB_rising {d : DeskV} (h : deskB d = true) : risingB 1 9999 d.known = true := by
  unfold deskB topB at h
  simp only [Bool.and_eq_true] at h
  exact h.1.1.1.1.2
theorem hasI_mem {l : List Int} {n : Int} : hasI l n = true ↔ n ∈ l := by
  unfold hasI
  simp
theorem sortI_put {l : List Int} {n : Int} (h : l.Pairwise (· < ·)) (hn : n ∉ l) : sortI (l ++ [n]) = putI l n := by
  refine rising_ext (sortI_rising ?_) (putI_sorted h) fun x => ?_
  · refine List.nodup_append.2 ⟨h.imp fun hab => by omega, by simp, fun a ha b hb => ?_⟩
    obtain rfl := List.mem_singleton.1 hb
    exact fun e => hn (e ▸ ha)
  · rw [sortI_mem, putI_mem]
    simp
theorem trouble_number {d : DeskV} (h : deskB d = true) {n : Int} (hw : 0 < (withL d.trouble n).length) : 1 ≤ n ∧ n ≤ 9999 := by
  obtain ⟨c, hc⟩ := List.exists_mem_of_length_pos hw
  have h1 := List.mem_filter.1 hc
  unfold deskB topB at h
  simp only [Bool.and_eq_true, List.all_eq_true] at h
  have h2 := h.1.1.2 c h1.1
  unfold finB cardB at h2
  simp only [Bool.and_eq_true] at h2
  have h3 := inB_true (headB_true h2.1.1).1
  have h4 : c.number = n := by simpa [isNum] using h1.2
  omega
theorem step_same {d : DeskV} (h : deskB d = true) (s : DeskStep) : stepB d s = (validS s && makeB d s) ∧ (stepB d s = true → stepOut d s = makeOut d s) := by
  unfold stepB makeB stepOk stepOut validS makeOk makeOut
  by_cases k1 : s.kind = 1
  · simp only [if_pos k1, Bool.true_and]
    exact ⟨trivial, fun _ => trivial⟩
  by_cases k2 : s.kind = 2
  · simp only [if_neg k1, if_pos k2]
    cases hz : (decide (s.number = 0) && zeroB s.card)
    · simp
    · by_cases hq : 0 < d.queue.length
      · have hq' : ¬ d.queue.length = 0 := by omega
        simp only [hq, decide_true, Bool.and_true, Bool.true_and, if_true, if_neg hq']
        exact ⟨trivial, fun _ => trivial⟩
      · simp [hq]
  by_cases k3 : s.kind = 3
  · simp only [if_neg k1, if_neg k2, if_pos k3]
    have hi : inB s.kind 3 4 = true := inB_mk (by omega)
    rw [hi]
    cases hz : zeroB s.card
    · simp
    · cases hh : hasI d.known s.number
      · have hn : s.number ∉ d.known := fun hm => by rw [hasI_mem.2 hm] at hh; exact absurd hh (by decide)
        have hs := sortI_put (risingB_all (deskB_rising h)).1 hn
        simp only [Bool.not_false, Bool.and_true, Bool.true_and, Bool.false_eq_true, if_false, ← hs]
        refine ⟨?_, fun _ => trivial⟩
        cases hb : deskB { d with known := sortI (d.known ++ [s.number]), queue := d.queue ++ withL d.trouble s.number, trouble := restL d.trouble s.number }
        · simp
        · have h5 := (risingB_all (deskB_rising hb)).2 s.number (sortI_mem.2 (by simp))
          rw [inB_mk h5]
          rfl
      · simp
  by_cases k4 : s.kind = 4
  · simp only [if_neg k1, if_neg k2, if_neg k3, if_pos k4]
    have hi : inB s.kind 3 4 = true := inB_mk (by omega)
    rw [hi]
    cases hz : zeroB s.card
    · simp
    · by_cases hw : 0 < (withL d.trouble s.number).length
      · rw [inB_mk (trouble_number h hw)]
        simp only [hw, decide_true, Bool.and_true, Bool.true_and, if_true]
        exact ⟨trivial, fun _ => trivial⟩
      · simp [hw]
  · simp only [if_neg k1, if_neg k2, if_neg k3, if_neg k4]
    have hi : inB s.kind 3 4 = false := by
      cases e : inB s.kind 3 4
      · rfl
      · have := inB_true e; omega
    rw [hi]
    simp
/-- One step: the desk behind it, or none. -/
def stepM (d : DeskV) (s : DeskStep) : Option DeskV := if deskB d && stepB d s then some (stepOut d s) else none

end Go.Proofs.YtkchdhmnomelkaaGreat

/- What a desk owns behind a step that moves cards: an arrived card, cards taken out of trouble. -/
namespace Go.Proofs.YtkchdhmnomelkaaGreat
open Go.RowKit

section
variable {α : Type} {sh : Sh α} {w w' : World} {S T : Nat → Prop} {ti : Nat} {rs qs : List (Hd α)}
/-- A block of one of the elements' slices. -/
def InL (rs : List (Hd α)) (b : Nat) : Prop := ∃ r ∈ rs, OwnB r.A b
theorem pair_apart {β : Type} {R : β → β → Prop} (hs : ∀ a b, R a b → R b a) : ∀ {l : List β}, l.Pairwise R → ∀ a ∈ l, ∀ b ∈ l, a ≠ b → R a b
  | [], _, a, ha, _, _, _ => by simp at ha
  | x :: l, h, a, ha, b, hb, hne => by
    have h1 := List.pairwise_cons.1 h
    rcases List.mem_cons.1 ha with ha2 | ha2
    · rcases List.mem_cons.1 hb with hb2 | hb2
      · exact absurd (ha2.trans hb2.symm) hne
      · exact ha2 ▸ h1.1 b hb2
    · rcases List.mem_cons.1 hb with hb2 | hb2
      · exact hb2 ▸ hs _ _ (h1.1 a ha2)
      · exact pair_apart hs h1.2 a ha2 b hb2 hne
theorem Inners.part (h : Inners sh w S ti rs) (p : Hd α → Bool) : Inners sh w (InL (rs.filter p)) ti (rs.filter p) :=
  ⟨fun r hr => (h.each r (List.mem_filter.1 hr).1).exact_.wide fun _ hb => ⟨r, hr, hb⟩, h.pair.filter p⟩
theorem Inners.top (h : Inners sh w S ti rs) : ∀ b, InL rs b → S b := fun b ⟨r, hr, hb⟩ => (h.each r hr).top b hb
theorem InL.filter {p : Hd α → Bool} {b : Nat} (h : InL (rs.filter p) b) : InL rs b := by
  obtain ⟨r, hr, hb⟩ := h
  exact ⟨r, (List.mem_filter.1 hr).1, hb⟩
theorem Inners.split (h : Inners sh w S ti rs) (p : Hd α → Bool) : ∀ b, InL (rs.filter p) b → InL (rs.filter fun r => !p r) b → False := by
  rintro b ⟨r, hr, hb⟩ ⟨q, hq, hc⟩
  have h1 := List.mem_filter.1 hr
  have h2 := List.mem_filter.1 hq
  refine pair_apart (fun a c hac b h3 h4 => hac b h4 h3) h.pair r h1.1 q h2.1 (fun e => ?_) b hb hc
  subst e
  rw [h1.2] at h2
  exact absurd h2.2 (by decide)
theorem Inners.append (h : Inners sh w S ti rs) (g : Inners sh w T ti qs) (hST : ∀ b, S b → T b → False) : Inners sh w (fun b => S b ∨ T b) ti (rs ++ qs) := by
  refine ⟨fun r hr => ?_, ?_⟩
  · rcases List.mem_append.1 hr with hr | hr
    · exact (h.each r hr).wide fun b hb => .inl hb
    · exact (g.each r hr).wide fun b hb => .inr hb
  · exact List.pairwise_append.2 ⟨h.pair, g.pair, fun r hr q hq b hb hc => hST b ((h.each r hr).top b hb) ((g.each q hq).top b hc)⟩
end
section
variable {w wz : World} {S U T1 T6 T7 : Nat → Prop} {col : Nat → Nat} {h : DeskH} {d : DeskV} {rsq rs : List (Hd Card)} {A1 A6 A7 : Option Addr} {n1 c1 n6 c6 n7 c7 : Nat} {kn : List Int} {p : Hd Card → Bool}
/-- Cards have moved from trouble to the queue, a number was put to those known. -/
theorem MineCW.register (mc : MineCW w S col h d) (hS : ∀ b, S b → b < w.heap.size)
    (hiq : Inners cardSh w (Hue S col 2) 106 rsq) (hqa : ∀ r ∈ rsq, ∀ b, OwnB r.A b → ¬ OwnB h.A2 b) (hA2 : ∀ b, OwnB h.A2 b → Hue S col 2 b)
    (hi : Inners cardSh w (Hue S col 4) 106 rs)
    (ho : Only U w wz) (hU : ∀ b, U b → Hue S col 1 b ∨ OwnB h.A2 b ∨ ¬ S b)
    (m1 : Mine wz T1 3 1 A1 n1 c1 (ints kn)) (hT1 : ∀ b, T1 b → Hue S col 1 b ∨ (w.heap.size ≤ b ∧ b < wz.heap.size))
    (m7 : Mine wz T7 43 4 A7 n7 c7 ((rsq ++ rs.filter p).flatMap cardSh.enc)) (hT7 : ∀ b, T7 b → OwnB h.A2 b ∨ (w.heap.size ≤ b ∧ b < wz.heap.size))
    (m6 : Mine wz T6 43 4 A6 n6 c6 ((rs.filter fun r => !p r).flatMap cardSh.enc)) (hT6 : ∀ b, T6 b → w.heap.size ≤ b ∧ b < wz.heap.size)
    (d17 : ∀ b, T1 b → T7 b → False) (d16 : ∀ b, T1 b → T6 b → False) (d76 : ∀ b, T7 b → T6 b → False) :
    MineD wz (fun b => S b ∨ (w.heap.size ≤ b ∧ b < wz.heap.size)) ⟨h.A0, h.n0, h.c0, A1, n1, c1, A7, n7, c7, h.A3, h.n3, h.c3, A6, n6, c6⟩ { d with known := kn, queue := (rsq ++ rs.filter p).map Hd.x, trouble := (rs.filter fun r => !p r).map Hd.x } := by
  have hlt : ∀ i b, Hue S col i b → b < w.heap.size := fun i b hb => hS b hb.1
  have hUi : ∀ {i : Nat}, i ≠ 1 → i ≠ 2 → ∀ b, Hue S col i b → U b → False := fun h1 h2 b hb hu => by
    rcases hU b hu with hu | hu | hu
    · exact Hue.apart h1 b hb hu
    · exact Hue.apart h2 b hb (hA2 b hu)
    · exact hu hb.1
  have hq2 := hiq.onlyA ho (fun r hr b hb hu => by
    have h2 := (hiq.each r hr).top b hb
    rcases hU b hu with hu | hu | hu
    · exact Hue.apart (by decide) b h2 hu
    · exact hqa r hr b hb hu
    · exact hu h2.1)
  have hi2 := hi.only ho (hUi (by decide) (by decide))
  have hpa := hi2.part p
  have hpb := hi2.part (fun r => !p r)
  have h2top : ∀ b, InL (rs.filter p) b → Hue S col 4 b := fun b hb => hi.top b hb.filter
  have h4top : ∀ b, InL (rs.filter fun r => !p r) b → Hue S col 4 b := fun b hb => hi.top b hb.filter
  have hQ : MineN cardSh wz (fun b => (T7 b ∨ InL rsq b) ∨ InL (rs.filter p) b) 43 106 A7 n7 c7 ((rsq ++ rs.filter p).map Hd.x) := by
    have hql : Inners cardSh wz (InL rsq) 106 rsq := ⟨fun r hr => (hq2.each r hr).exact_.wide fun _ hb => ⟨r, hr, hb⟩, hq2.pair⟩
    refine ⟨rsq ++ rs.filter p, rfl, m7.wide fun b hb => .inl (.inl hb), (hql.append hpa fun b h1 h2 => Hue.apart (by decide) b (hiq.top b h1) (h2top b h2)).wide fun b hb => hb.elim (fun h => .inl (.inr h)) .inr, fun r hr b hb hb7 => ?_⟩
    have h7 := hT7 b (m7.top b hb7)
    rcases List.mem_append.1 hr with hr | hr
    · rcases h7 with h7 | h7
      · exact hqa r hr b hb h7
      · have := hlt _ b ((hiq.each r hr).top b hb); omega
    · have h4 := h2top b ⟨r, hr, hb⟩
      rcases h7 with h7 | h7
      · exact Hue.apart (by decide) b h4 (hA2 b h7)
      · have := hlt _ b h4; omega
  have hT : MineN cardSh wz (fun b => T6 b ∨ InL (rs.filter fun r => !p r) b) 43 106 A6 n6 c6 ((rs.filter fun r => !p r).map Hd.x) := by
    refine ⟨rs.filter fun r => !p r, rfl, m6.wide fun b hb => .inl hb, hpb.wide fun b hb => .inr hb, fun r hr b hb hb6 => ?_⟩
    have h6 := hT6 b (m6.top b hb6)
    have := hlt _ b (h4top b ⟨r, hr, hb⟩)
    omega
  have h0 := mc.f0.only ho (hUi (by decide) (by decide))
  have h3 := mc.f3.only ho (hUi (by decide) (by decide))
  have hQx : ∀ b, ((T7 b ∨ InL rsq b) ∨ InL (rs.filter p) b) → Hue S col 2 b ∨ Hue S col 4 b ∨ (w.heap.size ≤ b ∧ b < wz.heap.size) := fun b hb => by
    rcases hb with (hb | hb) | hb
    · exact (hT7 b hb).imp (hA2 b) .inr
    · exact .inl (hiq.top b hb)
    · exact .inr (.inl (h2top b hb))
  have hTx : ∀ b, (T6 b ∨ InL (rs.filter fun r => !p r) b) → Hue S col 4 b ∨ (w.heap.size ≤ b ∧ b < wz.heap.size) := fun b hb => by
    rcases hb with hb | hb
    · exact .inr (hT6 b hb)
    · exact .inl (h4top b hb)
  refine MineD.of5 h0 m1 hQ h3 hT (fun b hb => .inl hb.1) (fun b hb => (hT1 b hb).imp (·.1) id) (fun b hb => ?_) (fun b hb => .inl hb.1) (fun b hb => (hTx b hb).imp (·.1) id)
    (fun b hb h1 => ?_) (fun b hb h1 => ?_) (Hue.apart (by decide)) (fun b hb h1 => ?_) (fun b hb h1 => ?_) (fun b hb h1 => ?_) (fun b hb h1 => ?_) (fun b hb h1 => ?_) (fun b hb h1 => ?_) (fun b hb h1 => ?_)
  · rcases hQx b hb with h | h | h
    · exact .inl h.1
    · exact .inl h.1
    · exact .inr h
  · rcases hT1 b h1 with h | h
    · exact Hue.apart (by decide) b hb h
    · have := hlt _ b hb; omega
  · rcases hQx b h1 with h | h | h
    · exact Hue.apart (by decide) b hb h
    · exact Hue.apart (by decide) b hb h
    · have := hlt _ b hb; omega
  · rcases hTx b h1 with h | h
    · exact Hue.apart (by decide) b hb h
    · have := hlt _ b hb; omega
  · rcases h1 with (h1 | h1) | h1
    · exact d17 b hb h1
    · have h2 := hiq.top b h1
      rcases hT1 b hb with h | h
      · exact Hue.apart (by decide) b h2 h
      · have := hlt _ b h2; omega
    · have h2 := h2top b h1
      rcases hT1 b hb with h | h
      · exact Hue.apart (by decide) b h2 h
      · have := hlt _ b h2; omega
  · rcases hT1 b hb with h | h
    · exact Hue.apart (by decide) b h h1
    · have := hlt _ b h1; omega
  · rcases h1 with h1 | h1
    · exact d16 b hb h1
    · have h2 := h4top b h1
      rcases hT1 b hb with h | h
      · exact Hue.apart (by decide) b h2 h
      · have := hlt _ b h2; omega
  · rcases hQx b hb with h | h | h
    · exact Hue.apart (by decide) b h h1
    · exact Hue.apart (by decide) b h h1
    · have := hlt _ b h1; omega
  · rcases hb with (hb | hb) | hb
    · rcases h1 with h1 | h1
      · exact d76 b hb h1
      · have h2 := h4top b h1
        rcases hT7 b hb with h | h
        · exact Hue.apart (by decide) b h2 (hA2 b h)
        · have := hlt _ b h2; omega
    · have h2 := hiq.top b hb
      rcases hTx b h1 with h | h
      · exact Hue.apart (by decide) b h2 h
      · have := hlt _ b h2; omega
    · have h2 := h2top b hb
      rcases h1 with h1 | h1
      · have := hT6 b h1; have := hlt _ b h2; omega
      · exact hi.split p b hb h1
  · rcases hTx b h1 with h | h
    · exact Hue.apart (by decide) b hb h
    · have := hlt _ b hb; omega
/-- Cards have gone out of trouble. -/
theorem MineCW.refuse (mc : MineCW w S col h d) (mq : MineN cardSh w (Hue S col 2) 43 106 h.A2 h.n2 h.c2 d.queue) (hS : ∀ b, S b → b < w.heap.size)
    (hi : Inners cardSh w (Hue S col 4) 106 rs) (ho : Only U w wz) (hU : ∀ b, U b → ¬ S b)
    (m6 : Mine wz T6 43 4 A6 n6 c6 ((rs.filter fun r => !p r).flatMap cardSh.enc)) (hT6 : ∀ b, T6 b → w.heap.size ≤ b ∧ b < wz.heap.size) :
    MineD wz (fun b => S b ∨ (w.heap.size ≤ b ∧ b < wz.heap.size)) ⟨h.A0, h.n0, h.c0, h.A1, h.n1, h.c1, h.A2, h.n2, h.c2, h.A3, h.n3, h.c3, A6, n6, c6⟩ { d with trouble := (rs.filter fun r => !p r).map Hd.x } := by
  have hlt : ∀ i b, Hue S col i b → b < w.heap.size := fun i b hb => hS b hb.1
  have hUi : ∀ i b, Hue S col i b → U b → False := fun i b hb hu => hU b hu hb.1
  have hi2 := hi.only ho (hUi 4)
  have hpb := hi2.part (fun r => !p r)
  have h4top : ∀ b, InL (rs.filter fun r => !p r) b → Hue S col 4 b := fun b hb => hi.top b hb.filter
  have hT : MineN cardSh wz (fun b => T6 b ∨ InL (rs.filter fun r => !p r) b) 43 106 A6 n6 c6 ((rs.filter fun r => !p r).map Hd.x) := by
    refine ⟨rs.filter fun r => !p r, rfl, m6.wide fun b hb => .inl hb, hpb.wide fun b hb => .inr hb, fun r hr b hb hb6 => ?_⟩
    have h6 := hT6 b (m6.top b hb6)
    have := hlt _ b (h4top b ⟨r, hr, hb⟩)
    omega
  have hTx : ∀ b, (T6 b ∨ InL (rs.filter fun r => !p r) b) → Hue S col 4 b ∨ (w.heap.size ≤ b ∧ b < wz.heap.size) := fun b hb => by
    rcases hb with hb | hb
    · exact .inr (hT6 b hb)
    · exact .inl (h4top b hb)
  have hx : ∀ {i : Nat}, i ≠ 4 → ∀ b, Hue S col i b → (T6 b ∨ InL (rs.filter fun r => !p r) b) → False := fun hi b hb h1 => by
    rcases hTx b h1 with h | h
    · exact Hue.apart hi b hb h
    · have := hlt _ b hb; omega
  exact MineD.of5 (mc.f0.only ho (hUi 0)) (mc.f1.only ho (hUi 1)) (mq.only ho (hUi 2)) (mc.f3.only ho (hUi 3)) hT (fun b hb => .inl hb.1) (fun b hb => .inl hb.1) (fun b hb => .inl hb.1) (fun b hb => .inl hb.1) (fun b hb => (hTx b hb).imp (·.1) id)
    (Hue.apart (by decide)) (Hue.apart (by decide)) (Hue.apart (by decide)) (hx (by decide)) (Hue.apart (by decide)) (Hue.apart (by decide)) (hx (by decide)) (Hue.apart (by decide)) (hx (by decide)) (hx (by decide))
/-- A card has come to the queue. -/
theorem MineCW.arrive {r : Hd Card} (mc : MineCW w S col h d) (hS : ∀ b, S b → b < w.heap.size)
    (hrs : rsq.map Hd.x = d.queue) (hiq : Inners cardSh w (Hue S col 2) 106 rsq) (hqa : ∀ r ∈ rsq, ∀ b, OwnB r.A b → ¬ OwnB h.A2 b) (hA2 : ∀ b, OwnB h.A2 b → Hue S col 2 b)
    (ho : Only U w wz) (hU : ∀ b, U b → OwnB h.A2 b ∨ ¬ S b)
    (mr : Mine wz T1 106 2 r.A r.n r.c (r.x.punches.flatMap Punch.enc)) (hT1 : ∀ b, T1 b → w.heap.size ≤ b ∧ b < wz.heap.size)
    (m7 : Mine wz T7 43 4 A7 n7 c7 ((rsq ++ [r]).flatMap cardSh.enc)) (hT7 : ∀ b, T7 b → OwnB h.A2 b ∨ (w.heap.size ≤ b ∧ b < wz.heap.size)) (d17 : ∀ b, T1 b → T7 b → False) :
    MineD wz (fun b => S b ∨ (w.heap.size ≤ b ∧ b < wz.heap.size)) ⟨h.A0, h.n0, h.c0, h.A1, h.n1, h.c1, A7, n7, c7, h.A3, h.n3, h.c3, h.A4, h.n4, h.c4⟩ { d with queue := d.queue ++ [r.x] } := by
  have hlt : ∀ i b, Hue S col i b → b < w.heap.size := fun i b hb => hS b hb.1
  have hUi : ∀ {i : Nat}, i ≠ 2 → ∀ b, Hue S col i b → U b → False := fun h2 b hb hu => by
    rcases hU b hu with hu | hu
    · exact Hue.apart h2 b hb (hA2 b hu)
    · exact hu hb.1
  have hq2 := hiq.onlyA ho (fun r hr b hb hu => by
    have h2 := (hiq.each r hr).top b hb
    rcases hU b hu with hu | hu
    · exact hqa r hr b hb hu
    · exact hu h2.1)
  have hQ : MineN cardSh wz (fun b => T7 b ∨ InL rsq b ∨ T1 b) 43 106 A7 n7 c7 (d.queue ++ [r.x]) := by
    have hql : Inners cardSh wz (InL rsq) 106 rsq := ⟨fun r hr => (hq2.each r hr).exact_.wide fun _ hb => ⟨r, hr, hb⟩, hq2.pair⟩
    have hin := hql.snoc (x := r.x) (A := r.A) (n := r.n) (c := r.c) mr (fun b h1 h2 => by have := hlt _ b (hiq.top b h1); have := hT1 b h2; omega)
    refine ⟨rsq ++ [r], by rw [List.map_append, hrs]; rfl, m7.wide fun b hb => .inl hb, hin.wide fun b hb => .inr hb, fun q hq b hb hb7 => ?_⟩
    have h7 := hT7 b (m7.top b hb7)
    rcases List.mem_append.1 hq with hq | hq
    · rcases h7 with h7 | h7
      · exact hqa q hq b hb h7
      · have := hlt _ b ((hiq.each q hq).top b hb); omega
    · obtain rfl := List.mem_singleton.1 hq
      exact d17 b (mr.top b hb) (m7.top b hb7)
  have hQx : ∀ b, (T7 b ∨ InL rsq b ∨ T1 b) → Hue S col 2 b ∨ (w.heap.size ≤ b ∧ b < wz.heap.size) := fun b hb => by
    rcases hb with hb | hb | hb
    · exact (hT7 b hb).imp (hA2 b) id
    · exact .inl (hiq.top b hb)
    · exact .inr (hT1 b hb)
  have hx : ∀ {i : Nat}, i ≠ 2 → ∀ b, Hue S col i b → (T7 b ∨ InL rsq b ∨ T1 b) → False := fun hi b hb h1 => by
    rcases hQx b h1 with h | h
    · exact Hue.apart hi b hb h
    · have := hlt _ b hb; omega
  exact MineD.of5 (mc.f0.only ho (hUi (by decide))) (mc.f1.only ho (hUi (by decide))) hQ (mc.f3.only ho (hUi (by decide))) (mc.f4.only ho (hUi (by decide))) (fun b hb => .inl hb.1) (fun b hb => .inl hb.1) (fun b hb => (hQx b hb).imp (·.1) id) (fun b hb => .inl hb.1) (fun b hb => .inl hb.1)
    (Hue.apart (by decide)) (hx (by decide)) (Hue.apart (by decide)) (Hue.apart (by decide)) (hx (by decide)) (Hue.apart (by decide)) (Hue.apart (by decide)) (fun b h1 h2 => hx (by decide) b h2 h1) (fun b h1 h2 => hx (by decide) b h2 h1) (Hue.apart (by decide))
end
end Go.Proofs.YtkchdhmnomelkaaGreat

/- The cards of trouble with a number, and the others: takeTrouble and l25Part. -/
namespace Go.Proofs.YtkchdhmnomelkaaGreat
open Go.RowKit

def isH (v : Int) (r : Hd Card) : Bool := r.x.number == v
theorem filterP_next {α : Type} {l : List α} {k : Nat} (p : α → Bool) (hk : k < l.length) : (l.take (k + 1)).filter p = if p l[k] then (l.take k).filter p ++ [l[k]] else (l.take k).filter p := by
  rw [List.take_add_one, List.getElem?_eq_getElem hk, List.filter_append]
  cases h : p l[k] <;> simp [h]
/-- Two new slices: the cards with a number, and the others. -/
structure Parted (w w' : World) (rs : List (Hd Card)) (v : Int) (A5 A6 : Option Addr) (n5 c5 n6 c6 : Nat) : Prop where
  own5 : w'.ownsRow w.heap.size 43 4 (.slice A5 n5 c5) n5 ((rs.filter (isH v)).flatMap cardSh.enc)
  own6 : w'.ownsRow w.heap.size 43 4 (.slice A6 n6 c6) n6 ((rs.filter fun r => !isH v r).flatMap cardSh.enc)
  apart : ∀ b, OwnB A5 b → OwnB A6 b → False
  below : Below w.heap.size w w'
def Taken (g : Nat) (v0 v1 v2 v3 : Value) (A4 : Option Addr) (n4 c4 : Nat) (rs : List (Hd Card)) (v : Int) (w : World) (e : Ending) (w' : World) : Prop :=
  ∃ (wp : World) (A5 A6 : Option Addr) (n5 c5 n6 c6 : Nat), e = .returned (.slice A5 n5 c5) ∧ Parted w wp rs v A5 A6 n5 c5 n6 c6 ∧ Blk wp g 37 [v0, v1, v2, v3, .slice A4 n4 c4] ∧ w' = wp.setCell ⟨g, 4, none⟩ (.slice A6 n6 c6)
def GivesParts (rs : List (Hd Card)) (v : Int) (w : World) (e : Ending) (w' : World) : Prop :=
  ∃ (A5 A6 : Option Addr) (n5 c5 n6 c6 : Nat), e = .returned (.tuple #[.slice A5 n5 c5, .slice A6 n6 c6]) ∧ Parted w w' rs v A5 A6 n5 c5 n6 c6
theorem flat_snoc (q : List (Hd Card)) (r : Hd Card) : (q ++ [r]).flatMap cardSh.enc = q.flatMap cardSh.enc ++ [.int .i64 r.x.number, .int .i64 r.x.start, .int .i64 r.x.finish, .slice r.A r.n r.c] := by
  rw [List.flatMap_append, List.flatMap_singleton]
  rfl

set_option maxRecDepth 100000 in
set_option maxHeartbeats 4000000 in
theorem takeTrouble_any (g : Nat) (v0 v1 v2 v3 : Value) (A4 : Option Addr) (n4 c4 : Nat) (rs : List (Hd Card)) (v : Int) (w : World) (hB : Blk w g 37 [v0, v1, v2, v3, .slice A4 n4 c4]) (hx : Sees w 0 4 A4 n4 (rs.flatMap cardSh.enc)) (hn : n4 ≤ 1000) :
    Calls Tryz.prog 76 #[.pointer (some ⟨g, 0, none⟩), .int .i64 v] w (Taken g v0 v1 v2 v3 A4 n4 c4 rs v w) := by
  have hgl := hB.lt
  have cg := hB.cell
  have K0 : Below w.heap.size w ((w.alloc (.cells #[] 43)).alloc (.cells #[] 43)) := ((Below.refl w.heap.size w).alloc (Nat.le_refl _) _).alloc (by simp) _
  have o50 : (((w.alloc (.cells #[] 43)).alloc (.cells #[] 43))).ownsRow w.heap.size 43 4 (.slice (some ⟨w.heap.size, 0, none⟩) 0 0) 0 [] := own_below (own_empty w 43 4) ((Below.refl _ _).alloc (Nat.le_refl _) _)
  have o60 : (((w.alloc (.cells #[] 43)).alloc (.cells #[] 43))).ownsRow w.heap.size 43 4 (.slice (some ⟨w.heap.size + 1, 0, none⟩) 0 0) 0 [] := own_base (own_empty_at 43 4 (by simp)) (Nat.le_succ _)
  have hap0 : ∀ b, OwnB (some ⟨w.heap.size, 0, none⟩) b → OwnB (some ⟨w.heap.size + 1, 0, none⟩) b → False := fun b h1 h2 => by
    simp [OwnB, Value.ownBlock] at h1 h2
    omega
  have HB := Lib.hid hB
  clear hB
  go_enter Tryz.func76, Tryz.ntmps76
  go_wp2_with fail
  go_loopw [5, 6, 16] (fun tv lv iv wr => ∃ (k : Nat) (q5 q6 : List (Hd Card)) (A5 A6 : Option Addr) (n5 c5 n6 c6 : Nat), k ≤ n4 ∧ iv = .int .i64 (k : Int) ∧ tv = .slice A5 n5 c5 ∧ lv = .slice A6 n6 c6 ∧ (n5 ≤ k ∧ n6 ≤ k) ∧ Hid (q5 = (rs.take k).filter (isH v) ∧ q6 = (rs.take k).filter fun r => !isH v r) ∧ wr.ownsRow w.heap.size 43 4 (.slice A5 n5 c5) n5 (q5.flatMap cardSh.enc) ∧ wr.ownsRow w.heap.size 43 4 (.slice A6 n6 c6) n6 (q6.flatMap cardSh.enc) ∧ Hid (∀ b, OwnB A5 b → OwnB A6 b → False) ∧ Below w.heap.size w wr) (fun _ _ iv _ => n4 - (intOf iv).toNat)
  case atStart => exact ⟨0, [], [], _, _, 0, 0, 0, 0, Nat.zero_le _, rfl, rfl, rfl, ⟨Nat.le_refl _, Nat.le_refl _⟩, Lib.hid ⟨rfl, rfl⟩, o50, o60, Lib.hid hap0, K0⟩
  case round =>
    obtain ⟨k, q5, q6, A5, A6, n5, c5, n6, c6, hk, rfl, rfl, rfl, hle, HQ, o5, o6, HAP, K⟩ := hrel
    by_cases hlt : k < n4
    · obtain ⟨b4, off, hA, hkx, hc⟩ := (hx.next K).elem (by decide) cardSh.len hlt
      subst hA
      have x0 : wr.cell? ⟨b4, off + k * 4, none⟩ = some (.int .i64 rs[k].x.number) := hc 0 _ rfl
      have x1 : wr.cell? ⟨b4, off + k * 4 + 1, none⟩ = some (.int .i64 rs[k].x.start) := hc 1 _ rfl
      have x2 : wr.cell? ⟨b4, off + k * 4 + 2, none⟩ = some (.int .i64 rs[k].x.finish) := hc 2 _ rfl
      have x3 : wr.cell? ⟨b4, off + k * 4 + 3, none⟩ = some (.slice rs[k].A rs[k].n rs[k].c) := hc 3 _ rfl
      have hblt := World.block_lt_of_cell? wr _ x0
      have HF5 := Lib.hid (filterP_next (isH v) hkx)
      have HF6 := Lib.hid (filterP_next (fun r => !isH v r) hkx)
      have hnp : (k : Int) < (n4 : Int) := by omega
      have zk := K.size
      clear hc
      generalize rs[k] = r at *
      have U : Below wr.heap.size wr ((wr.alloc (.cells #[.int .i64 r.x.number, .int .i64 r.x.start, .int .i64 r.x.finish, .slice r.A r.n r.c] 43)).alloc (.cells #[.int .i64 r.x.number, .int .i64 r.x.start, .int .i64 r.x.finish, .slice r.A r.n r.c] 43)) := ((Below.refl wr.heap.size wr).alloc (Nat.le_refl _) _).alloc (by simp) _
      have BA : Blk ((wr.alloc (.cells #[.int .i64 r.x.number, .int .i64 r.x.start, .int .i64 r.x.finish, .slice r.A r.n r.c] 43)).alloc (.cells #[.int .i64 r.x.number, .int .i64 r.x.start, .int .i64 r.x.finish, .slice r.A r.n r.c] 43)) (wr.heap.size + 1) 43 [.int .i64 r.x.number, .int .i64 r.x.start, .int .i64 r.x.finish, .slice r.A r.n r.c] := Blk.at_ (by simp)
      have p5 := own_below o5 U
      have p6 := own_below o6 U
      have KU := bel_then K U
      have l5 := (fun b hb => (own_top o5 hb).2 : ∀ b, OwnB A5 b → b < wr.heap.size)
      have l6 := (fun b hb => (own_top o6 hb).2 : ∀ b, OwnB A6 b → b < wr.heap.size)
      have zu := U.size
      have hb2 : w.heap.size ≤ (((wr.alloc (.cells #[.int .i64 r.x.number, .int .i64 r.x.start, .int .i64 r.x.finish, .slice r.A r.n r.c] 43)).alloc (.cells #[.int .i64 r.x.number, .int .i64 r.x.start, .int .i64 r.x.finish, .slice r.A r.n r.c] 43))).heap.size := Nat.le_trans zk zu
      have L5 := Lib.hid l5
      have L6 := Lib.hid l6
      clear o5 o6 l5 l6
      cases hp : (r.x.number == v)
      · have HP5 := Lib.hid (show (rs.take (k + 1)).filter (isH v) = q5 by rw [HF5.out, if_neg (by unfold isH; rw [hp]; decide), HQ.out.1])
        have HP6 := Lib.hid (show (rs.take (k + 1)).filter (fun r => !isH v r) = q6 ++ [r] by rw [HF6.out, if_pos (by unfold isH; rw [hp]; rfl), HQ.out.2])
        clear HF5 HF6 HQ
        go_wp2_with (at_builtin; go_loud (refine wpList_cat rfl _ _ _ rfl Tryz.underlying34 info_impl_Card rfl (by decide) rfl p6 rfl (m := 1) (BA.sees (s := 4) (Nat.zero_le _) rfl) rfl (by omega) (by omega) (by decide) hb2 ?_); intro A7 c7 w7 o7 h7 b7 q7)
        go_roundw
        case rel => exact ⟨k + 1, q5, q6 ++ [r], A5, A7, n5, c5, n6 + 1, c7, by omega, by go_num, rfl, rfl, ⟨by omega, by omega⟩, Lib.hid ⟨HP5.out.symm, HP6.out.symm⟩, own_only p5 h7 (fun b hb h8 => HAP.out b hb h8), by rw [flat_snoc]; exact o7, Lib.hid (fun b h8 h9 => by
          rcases q7 b h9 with h9 | h9
          · exact HAP.out b h8 h9
          · have := L5.out b h8; omega), KU.trans b7⟩
        case measure => simp [intOf]; omega
      · have HP5 := Lib.hid (show (rs.take (k + 1)).filter (isH v) = q5 ++ [r] by rw [HF5.out, if_pos (by unfold isH; rw [hp]), HQ.out.1])
        have HP6 := Lib.hid (show (rs.take (k + 1)).filter (fun r => !isH v r) = q6 by rw [HF6.out, if_neg (by unfold isH; rw [hp]; decide), HQ.out.2])
        clear HF5 HF6 HQ
        go_wp2_with (at_builtin; go_loud (refine wpList_cat rfl _ _ _ rfl Tryz.underlying34 info_impl_Card rfl (by decide) rfl p5 rfl (m := 1) (BA.sees (s := 4) (Nat.zero_le _) rfl) rfl (by omega) (by omega) (by decide) hb2 ?_); intro A7 c7 w7 o7 h7 b7 q7)
        go_roundw
        case rel => exact ⟨k + 1, q5 ++ [r], q6, A7, A6, n5 + 1, c7, n6, c6, by omega, by go_num, rfl, rfl, ⟨by omega, by omega⟩, Lib.hid ⟨HP5.out.symm, HP6.out.symm⟩, by rw [flat_snoc]; exact o7, own_only p6 h7 (fun b hb h8 => HAP.out b h8 hb), Lib.hid (fun b h8 h9 => by
          rcases q7 b h8 with h8 | h8
          · exact HAP.out b h8 h9
          · have := L6.out b h9; omega), KU.trans b7⟩
        case measure => simp [intOf]; omega
    · have hkn : k = n4 := by omega
      have hrl := hx.count (by decide) cardSh.len
      have ht : rs.take k = rs := List.take_of_length_le (by omega)
      rw [ht] at HQ
      have hnp : ¬ (k : Int) < (n4 : Int) := by omega
      have PT := Lib.hid (show Parted w wr rs v A5 A6 n5 c5 n6 c6 from ⟨by rw [← HQ.out.1]; exact o5, by rw [← HQ.out.2]; exact o6, HAP.out, K⟩)
      clear hrl ht HQ hkn o5 o6 HAP
      have B := HB.out.next K
      have bc := B.cell
      have bf := B.frozen
      go_wp2_with fail
      go_ret
      exact ⟨wr, A5, A6, n5, c5, n6, c6, rfl, PT.out, B, rfl⟩


set_option maxRecDepth 100000 in
set_option maxHeartbeats 4000000 in
theorem l25Part_any (A4 : Option Addr) (n4 c4 : Nat) (rs : List (Hd Card)) (v : Int) (w : World) (hx : Sees w 0 4 A4 n4 (rs.flatMap cardSh.enc)) (hn : n4 ≤ 1000) :
    Calls Tryz.prog 59 #[.slice A4 n4 c4, .int .i64 v] w (GivesParts rs v w) := by
  have K0 : Below w.heap.size w ((w.alloc (.cells #[] 43)).alloc (.cells #[] 43)) := ((Below.refl w.heap.size w).alloc (Nat.le_refl _) _).alloc (by simp) _
  have o50 : (((w.alloc (.cells #[] 43)).alloc (.cells #[] 43))).ownsRow w.heap.size 43 4 (.slice (some ⟨w.heap.size, 0, none⟩) 0 0) 0 [] := own_below (own_empty w 43 4) ((Below.refl _ _).alloc (Nat.le_refl _) _)
  have o60 : (((w.alloc (.cells #[] 43)).alloc (.cells #[] 43))).ownsRow w.heap.size 43 4 (.slice (some ⟨w.heap.size + 1, 0, none⟩) 0 0) 0 [] := own_base (own_empty_at 43 4 (by simp)) (Nat.le_succ _)
  have hap0 : ∀ b, OwnB (some ⟨w.heap.size, 0, none⟩) b → OwnB (some ⟨w.heap.size + 1, 0, none⟩) b → False := fun b h1 h2 => by
    simp [OwnB, Value.ownBlock] at h1 h2
    omega
  go_enter Tryz.func59, Tryz.ntmps59
  go_wp2_with fail
  go_loopw [6, 7, 8] (fun tv lv iv wr => ∃ (k : Nat) (q5 q6 : List (Hd Card)) (A5 A6 : Option Addr) (n5 c5 n6 c6 : Nat), k ≤ n4 ∧ iv = .int .i64 (k : Int) ∧ tv = .slice A5 n5 c5 ∧ lv = .slice A6 n6 c6 ∧ (n5 ≤ k ∧ n6 ≤ k) ∧ Hid (q5 = (rs.take k).filter (isH v) ∧ q6 = (rs.take k).filter fun r => !isH v r) ∧ wr.ownsRow w.heap.size 43 4 (.slice A5 n5 c5) n5 (q5.flatMap cardSh.enc) ∧ wr.ownsRow w.heap.size 43 4 (.slice A6 n6 c6) n6 (q6.flatMap cardSh.enc) ∧ Hid (∀ b, OwnB A5 b → OwnB A6 b → False) ∧ Below w.heap.size w wr) (fun _ _ iv _ => n4 - (intOf iv).toNat)
  case atStart => exact ⟨0, [], [], _, _, 0, 0, 0, 0, Nat.zero_le _, rfl, rfl, rfl, ⟨Nat.le_refl _, Nat.le_refl _⟩, Lib.hid ⟨rfl, rfl⟩, o50, o60, Lib.hid hap0, K0⟩
  case round =>
    obtain ⟨k, q5, q6, A5, A6, n5, c5, n6, c6, hk, rfl, rfl, rfl, hle, HQ, o5, o6, HAP, K⟩ := hrel
    by_cases hlt : k < n4
    · obtain ⟨b4, off, hA, hkx, hc⟩ := (hx.next K).elem (by decide) cardSh.len hlt
      subst hA
      have x0 : wr.cell? ⟨b4, off + k * 4, none⟩ = some (.int .i64 rs[k].x.number) := hc 0 _ rfl
      have x1 : wr.cell? ⟨b4, off + k * 4 + 1, none⟩ = some (.int .i64 rs[k].x.start) := hc 1 _ rfl
      have x2 : wr.cell? ⟨b4, off + k * 4 + 2, none⟩ = some (.int .i64 rs[k].x.finish) := hc 2 _ rfl
      have x3 : wr.cell? ⟨b4, off + k * 4 + 3, none⟩ = some (.slice rs[k].A rs[k].n rs[k].c) := hc 3 _ rfl
      have hblt := World.block_lt_of_cell? wr _ x0
      have HF5 := Lib.hid (filterP_next (isH v) hkx)
      have HF6 := Lib.hid (filterP_next (fun r => !isH v r) hkx)
      have hnp : (k : Int) < (n4 : Int) := by omega
      have zk := K.size
      clear hc
      generalize rs[k] = r at *
      have U : Below wr.heap.size wr (wr.alloc (.cells #[.int .i64 r.x.number, .int .i64 r.x.start, .int .i64 r.x.finish, .slice r.A r.n r.c] 43)) := (Below.refl wr.heap.size wr).alloc (Nat.le_refl _) _
      have BA : Blk (wr.alloc (.cells #[.int .i64 r.x.number, .int .i64 r.x.start, .int .i64 r.x.finish, .slice r.A r.n r.c] 43)) wr.heap.size 43 [.int .i64 r.x.number, .int .i64 r.x.start, .int .i64 r.x.finish, .slice r.A r.n r.c] := Blk.at_ rfl
      have p5 := own_below o5 U
      have p6 := own_below o6 U
      have KU := bel_then K U
      have l5 := (fun b hb => (own_top o5 hb).2 : ∀ b, OwnB A5 b → b < wr.heap.size)
      have l6 := (fun b hb => (own_top o6 hb).2 : ∀ b, OwnB A6 b → b < wr.heap.size)
      have zu := U.size
      have hb2 : w.heap.size ≤ ((wr.alloc (.cells #[.int .i64 r.x.number, .int .i64 r.x.start, .int .i64 r.x.finish, .slice r.A r.n r.c] 43))).heap.size := Nat.le_trans zk zu
      have L5 := Lib.hid l5
      have L6 := Lib.hid l6
      clear o5 o6 l5 l6
      cases hp : (r.x.number == v)
      · have HP5 := Lib.hid (show (rs.take (k + 1)).filter (isH v) = q5 by rw [HF5.out, if_neg (by unfold isH; rw [hp]; decide), HQ.out.1])
        have HP6 := Lib.hid (show (rs.take (k + 1)).filter (fun r => !isH v r) = q6 ++ [r] by rw [HF6.out, if_pos (by unfold isH; rw [hp]; rfl), HQ.out.2])
        clear HF5 HF6 HQ
        go_wp2_with (at_builtin; go_loud (refine wpList_cat rfl _ _ _ rfl Tryz.underlying34 info_impl_Card rfl (by decide) rfl p6 rfl (m := 1) (BA.sees (s := 4) (Nat.zero_le _) rfl) rfl (by omega) (by omega) (by decide) hb2 ?_); intro A7 c7 w7 o7 h7 b7 q7)
        go_roundw
        case rel => exact ⟨k + 1, q5, q6 ++ [r], A5, A7, n5, c5, n6 + 1, c7, by omega, by go_num, rfl, rfl, ⟨by omega, by omega⟩, Lib.hid ⟨HP5.out.symm, HP6.out.symm⟩, own_only p5 h7 (fun b hb h8 => HAP.out b hb h8), by rw [flat_snoc]; exact o7, Lib.hid (fun b h8 h9 => by
          rcases q7 b h9 with h9 | h9
          · exact HAP.out b h8 h9
          · have := L5.out b h8; omega), KU.trans b7⟩
        case measure => simp [intOf]; omega
      · have HP5 := Lib.hid (show (rs.take (k + 1)).filter (isH v) = q5 ++ [r] by rw [HF5.out, if_pos (by unfold isH; rw [hp]), HQ.out.1])
        have HP6 := Lib.hid (show (rs.take (k + 1)).filter (fun r => !isH v r) = q6 by rw [HF6.out, if_neg (by unfold isH; rw [hp]; decide), HQ.out.2])
        clear HF5 HF6 HQ
        go_wp2_with (at_builtin; go_loud (refine wpList_cat rfl _ _ _ rfl Tryz.underlying34 info_impl_Card rfl (by decide) rfl p5 rfl (m := 1) (BA.sees (s := 4) (Nat.zero_le _) rfl) rfl (by omega) (by omega) (by decide) hb2 ?_); intro A7 c7 w7 o7 h7 b7 q7)
        go_roundw
        case rel => exact ⟨k + 1, q5 ++ [r], q6, A7, A6, n5 + 1, c7, n6, c6, by omega, by go_num, rfl, rfl, ⟨by omega, by omega⟩, Lib.hid ⟨HP5.out.symm, HP6.out.symm⟩, by rw [flat_snoc]; exact o7, own_only p6 h7 (fun b hb h8 => HAP.out b h8 hb), Lib.hid (fun b h8 h9 => by
          rcases q7 b h8 with h8 | h8
          · exact HAP.out b h8 h9
          · have := L6.out b h9; omega), KU.trans b7⟩
        case measure => simp [intOf]; omega
    · have hkn : k = n4 := by omega
      have hrl := hx.count (by decide) cardSh.len
      have ht : rs.take k = rs := List.take_of_length_le (by omega)
      rw [ht] at HQ
      have hnp : ¬ (k : Int) < (n4 : Int) := by omega
      have PT := Lib.hid (show Parted w wr rs v A5 A6 n5 c5 n6 c6 from ⟨by rw [← HQ.out.1]; exact o5, by rw [← HQ.out.2]; exact o6, HAP.out, K⟩)
      clear hrl ht HQ hkn o5 o6 HAP
      go_wp2_with fail
      go_ret2
      exact ⟨A5, A6, n5, c5, n6, c6, rfl, PT.out⟩

end Go.Proofs.YtkchdhmnomelkaaGreat

/- What a step leaves: the desk in its block, and the results. -/
namespace Go.Proofs.YtkchdhmnomelkaaGreat
open Go.RowKit

/-- Behind the cases of a step: the desk d' in block g. -/
def StepAt (g : Nat) (w : World) (d' : DeskV) (wr : World) : Prop :=
  ∃ h : DeskH, Blk wr g 37 [.slice h.A0 h.n0 h.c0, .slice h.A1 h.n1 h.c1, .slice h.A2 h.n2 h.c2, .slice h.A3 h.n3 h.c3, .slice h.A4 h.n4 h.c4] ∧ MineW wr (fun b => b ≠ g ∧ w.heap.size + 3 ≤ b ∧ b < wr.heap.size) h d' ∧ h.n2 ≤ h.c2 ∧
    Blk wr (w.heap.size + 2) 37 [.slice none 0 0, .slice none 0 0, .slice none 0 0, .slice none 0 0, .slice none 0 0] ∧ Below w.heap.size w wr
/-- A step's results: a desk in memory of the call's own, and whether it may stand. -/
def GivesStep (w : World) (d' : DeskV) (b : Bool) (e : Ending) (w' : World) : Prop :=
  ∃ H : DeskH, e = .returned (.tuple #[.agg #[.slice H.A0 H.n0 H.c0, .slice H.A1 H.n1 H.c1, .slice H.A2 H.n2 H.c2, .slice H.A3 H.n3 H.c3, .slice H.A4 H.n4 H.c4], .bool b]) ∧ MineW w' (In w.heap.size w'.heap.size) H d' ∧ H.n2 ≤ H.c2 ∧ Below w.heap.size w w'
theorem MineW.cap3 {w : World} {S : Nat → Prop} {h : DeskH} {d : DeskV} (m : MineW w S h d) : h.n3 ≤ h.c3 := by
  obtain ⟨col, m⟩ := m
  exact own_cap m.f3.own
theorem cards_all (rs : List (Hd Card)) : (rs.flatMap cardSh.enc).all Value.oneCell' = true := by
  induction rs with
  | nil => rfl
  | cons r rs ih => rw [List.flatMap_cons, List.all_append, ih]; rfl
theorem with_map (rs : List (Hd Card)) (v : Int) : (rs.filter (isH v)).map Hd.x = withL (rs.map Hd.x) v := by
  unfold withL
  rw [List.filter_map]
  rfl
theorem rest_map (rs : List (Hd Card)) (v : Int) : (rs.filter fun r => !isH v r).map Hd.x = restL (rs.map Hd.x) v := by
  unfold restL
  rw [List.filter_map]
  rfl
theorem step_small {d : DeskV} {s : DeskStep} (h : Small 1000 d) (ok : stepOk d s = true) : Small 1001 (stepOut d s) := by
  have hx : Small 1001 d := ⟨h.codes, by have := h.known; omega, by have := h.total; omega, h.qc, h.tc⟩
  unfold stepOk at ok
  unfold stepOut
  split
  · rename_i k1
    rw [if_pos k1] at ok
    simp only [Bool.and_eq_true] at ok
    refine ⟨h.codes, hx.known, by have := h.total; simp only [List.length_append, List.length_singleton]; omega, fun c hc => ?_, h.tc⟩
    rcases List.mem_append.1 hc with hc | hc
    · exact h.qc c hc
    · obtain rfl := List.mem_singleton.1 hc
      exact finB_ok ok.2
  split
  · split
    · exact hx.check
    · exact hx
  split
  · have hl := parts_len d.trouble s.number
    refine ⟨h.codes, by have := h.known; simp only [sortI_len, List.length_append, List.length_singleton]; omega, by have := h.total; simp only [List.length_append]; omega, fun c hc => ?_, fun c hc => h.tc c (List.mem_filter.1 hc).1⟩
    rcases List.mem_append.1 hc with hc | hc
    · exact h.qc c hc
    · exact h.tc c (List.mem_filter.1 hc).1
  split
  · split
    · have hl := parts_len d.trouble s.number
      exact ⟨h.codes, hx.known, by have := h.total; simp only []; omega, h.qc, fun c hc => h.tc c (List.mem_filter.1 hc).1⟩
    · exact hx
  · exact hx

end Go.Proofs.YtkchdhmnomelkaaGreat
