/- Joined texts of this proof: StepAll, CurSt, CurND. -/
import Derived.Lib.OwnBridge
import Derived.Sort.Grow
import Derived.Test.YtkimlajfhepfgaaGreatP02
import Derived.Test.YtkimlajfhepfgaaGreatP04
import Derived.Test.YtkimlajfhepfgaaGreatP01
import Derived.Test.YtkimlajfhepfgaaGreatP05
import Derived.Test.YtkimlajfhepfgaaGreatP03
import Derived.Test.YtkimlajfhepfgaaGreatP06
namespace Go.Proofs.YtkimlajfhepfgaaGreat
open Go.RowKit Go.Lib Go.Sort

def sortI (zs : List Int) : List Int := zs.mergeSort fun x y => decide (x ≤ y)
theorem sortI_len (zs : List Int) : (sortI zs).length = zs.length := List.length_mergeSort _
theorem sortI_mem {zs : List Int} {x : Int} : x ∈ sortI zs ↔ x ∈ zs := (List.mergeSort_perm zs _).mem_iff
theorem sortI_up (zs : List Int) : (sortI zs).Pairwise (· ≤ ·) := by
 have h := List.pairwise_mergeSort (le := fun x y : Int => decide (x ≤ y)) (fun a b c h1 h2 => by simp only [decide_eq_true_eq] at *; omega) (fun a b => by simp only [Bool.or_eq_true, decide_eq_true_eq]; omega) zs
 exact h.imp fun h => by simpa using h
theorem sortI_rising {zs : List Int} (h : zs.Nodup) : (sortI zs).Pairwise (· < ·) := by
 have h1 : (sortI zs).Nodup := (List.mergeSort_perm zs _).symm.nodup h
 exact (List.pairwise_and_iff.2 ⟨sortI_up zs, h1⟩).imp fun h => by omega
theorem bel_grow (x : World) (os : Array Obj) : Below x.heap.size x (grow x os) := ⟨rfl, rfl, rfl, by simp, fun k hk => heap_grow_old x os hk⟩
theorem only_putRow (w : World) (q g : Nat) (d : Array Int) : Only (OwnB (some ⟨g, 0, none⟩)) w (putRow (Value.int .i64) (Sort.ahead w q) g 0 d) :=
 ⟨rfl, rfl, rfl, by simp [putRow, mapBlock, Sort.ahead], fun k hk hS => by
   have hne : g ≠ k := fun e => hS (by subst e; rfl)
   simp [putRow, mapBlock, Sort.ahead, Array.getElem?_modify, hne]⟩
theorem Sort_own (base t n c : Nat) (A : Option Addr) (zs : List Int) (w : World) (h : w.ownsRow base t 1 (.slice A n c) n (ints zs)) (hn : n ≤ 1000000) :
  Calls Tryz.prog 67 #[.slice A n c] w fun e w' => e = .returned (.tuple #[]) ∧ w'.ownsRow base t 1 (.slice A n c) n (ints (sortI zs)) ∧ Only (OwnB A) w w' := by
 have hl := own_len h
 rcases own_open h with ⟨rfl, rfl, rfl, hxs⟩ | ⟨g, cur, rfl, hg, hB, hcl, hnc, hcm, htk⟩
 ·have hz : zs = [] := List.eq_nil_of_length_eq_zero hl
  subst hz
  exact (sh_slices_Sort_int_none none 0 w).mono fun e w' ⟨he, hw⟩ => ⟨he, by rw [hw, show sortI [] = [] by simp [sortI]]; exact h, by rw [hw]; exact Only.refl _ _⟩
 ·obtain ⟨g', cap, hv, _, hlt, _, _, _, hH⟩ := holds_of_ownsRow (zs := zs) (enc := Value.int .i64) h (by simp)
  simp only [Value.slice.injEq, Option.some.injEq, Addr.mk.injEq, and_true, true_and] at hv
  obtain ⟨rfl, rfl⟩ := hv
  subst hl
  refine (sh_slices_Sort_int g 0 c zs w hH hlt (by omega)).mono fun e w' ⟨he, q, os, hw⟩ => ⟨he, ?_, ?_⟩
  ·rw [hw]
   have h2 := ownsRow_putRow (ys := sortI zs) (q := q) h (sortI_len zs) (Nat.le_refl _)
   rw [List.take_of_length_le (by rw [sortI_len]; exact Nat.le_refl _)] at h2
   exact own_below h2 (bel_grow _ os)
  ·rw [hw]
   exact (only_putRow w q g _).then_ (bel_grow _ os)
end Go.Proofs.YtkimlajfhepfgaaGreat

namespace Go.Proofs.YtkimlajfhepfgaaGreat
open Go.RowKit

def zeroB (x : Card) : Bool := decide (x.number = 0) && (decide (x.start = 0) && (decide (x.finish = 0) && decide (x.punches.length = 0)))
theorem isZeroCard_any (A : Option Addr) (n c lo : Nat) (x : Card) (w : World) (hx : Sees w lo 2 A n (x.punches.flatMap Punch.enc)) :
  Calls Tryz.prog 73 #[.agg #[.int .i64 x.number, .int .i64 x.start, .int .i64 x.finish, .slice A n c]] w fun e w' => e = .returned (.bool (zeroB x)) ∧ Below w.heap.size w w' := by
 have hl := hx.count (by decide) (fun _ => rfl)
 have K0 : Below w.heap.size w (w.alloc (.cells #[.int .i64 x.number, .int .i64 x.start, .int .i64 x.finish, .slice A n c] 31)) := (Below.refl _ _).alloc (Nat.le_refl _) _
 by_cases h0 : x.number = 0
 rotate_left 1
 ·have f0 : (x.number == 0) = false := beq_eq_false_iff_ne.2 h0
  have HZ := Lib.hid (show zeroB x = false by unfold zeroB; simp [h0])
  clear h0
  go_enter Tryz.func73, Tryz.ntmps73
  go_wp2_with fail
  go_ret
  exact ⟨ret_bool HZ.out.symm, K0⟩
 have f0 : (x.number == 0) = true := beq_iff_eq.2 h0
 by_cases h1 : x.start = 0
 rotate_left 1
 ·have f1 : (x.start == 0) = false := beq_eq_false_iff_ne.2 h1
  have HZ := Lib.hid (show zeroB x = false by unfold zeroB; simp [h0, h1])
  clear h0 h1
  go_enter Tryz.func73, Tryz.ntmps73
  go_wp2_with fail
  go_ret
  exact ⟨ret_bool HZ.out.symm, K0⟩
 have f1 : (x.start == 0) = true := beq_iff_eq.2 h1
 by_cases h2 : x.finish = 0
 rotate_left 1
 ·have f2 : (x.finish == 0) = false := beq_eq_false_iff_ne.2 h2
  have HZ := Lib.hid (show zeroB x = false by unfold zeroB; simp [h0, h1, h2])
  clear h0 h1 h2
  go_enter Tryz.func73, Tryz.ntmps73
  go_wp2_with fail
  go_ret
  exact ⟨ret_bool HZ.out.symm, K0⟩
 have f2 : (x.finish == 0) = true := beq_iff_eq.2 h2
 by_cases h3 : (n : Int) = 0
 rotate_left 1
 ·have f3 : ((n : Int) == 0) = false := beq_eq_false_iff_ne.2 h3
  have HZ := Lib.hid (show zeroB x = false by unfold zeroB; simp [h0, h1, h2, show ¬ x.punches.length = 0 by omega])
  clear h0 h1 h2 h3
  go_enter Tryz.func73, Tryz.ntmps73
  go_wp2_with fail
  go_ret
  exact ⟨ret_bool HZ.out.symm, K0⟩
 have f3 : ((n : Int) == 0) = true := beq_iff_eq.2 h3
 have HZ := Lib.hid (show zeroB x = true by unfold zeroB; simp [h0, h1, h2, show x.punches.length = 0 by omega])
 clear h0 h1 h2 h3
 go_enter Tryz.func73, Tryz.ntmps73
 go_wp2_with fail
 go_ret
 exact ⟨ret_bool HZ.out.symm, K0⟩

theorem l21None_any (A : Option Addr) (n c lo : Nat) (x : Card) (w : World) (hx : Sees w lo 2 A n (x.punches.flatMap Punch.enc)) :
  Calls Tryz.prog 81 #[.agg #[.int .i64 x.number, .int .i64 x.start, .int .i64 x.finish, .slice A n c]] w fun e w' => e = .returned (.bool (zeroB x)) ∧ Below w.heap.size w w' := by
 have hl := hx.count (by decide) (fun _ => rfl)
 have K0 : Below w.heap.size w (w.alloc (.cells #[.int .i64 x.number, .int .i64 x.start, .int .i64 x.finish, .slice A n c] 31)) := (Below.refl _ _).alloc (Nat.le_refl _) _
 by_cases h0 : x.number = 0
 rotate_left 1
 ·have f0 : (x.number == 0) = false := beq_eq_false_iff_ne.2 h0
  have HZ := Lib.hid (show zeroB x = false by unfold zeroB; simp [h0])
  clear h0
  go_enter Tryz.func81, Tryz.ntmps81
  go_wp2_with fail
  go_ret
  exact ⟨ret_bool HZ.out.symm, K0⟩
 have f0 : (x.number == 0) = true := beq_iff_eq.2 h0
 by_cases h1 : x.start = 0
 rotate_left 1
 ·have f1 : (x.start == 0) = false := beq_eq_false_iff_ne.2 h1
  have HZ := Lib.hid (show zeroB x = false by unfold zeroB; simp [h0, h1])
  clear h0 h1
  go_enter Tryz.func81, Tryz.ntmps81
  go_wp2_with fail
  go_ret
  exact ⟨ret_bool HZ.out.symm, K0⟩
 have f1 : (x.start == 0) = true := beq_iff_eq.2 h1
 by_cases h2 : x.finish = 0
 rotate_left 1
 ·have f2 : (x.finish == 0) = false := beq_eq_false_iff_ne.2 h2
  have HZ := Lib.hid (show zeroB x = false by unfold zeroB; simp [h0, h1, h2])
  clear h0 h1 h2
  go_enter Tryz.func81, Tryz.ntmps81
  go_wp2_with fail
  go_ret
  exact ⟨ret_bool HZ.out.symm, K0⟩
 have f2 : (x.finish == 0) = true := beq_iff_eq.2 h2
 by_cases h3 : (n : Int) = 0
 rotate_left 1
 ·have f3 : ((n : Int) == 0) = false := beq_eq_false_iff_ne.2 h3
  have HZ := Lib.hid (show zeroB x = false by unfold zeroB; simp [h0, h1, h2, show ¬ x.punches.length = 0 by omega])
  clear h0 h1 h2 h3
  go_enter Tryz.func81, Tryz.ntmps81
  go_wp2_with fail
  go_ret
  exact ⟨ret_bool HZ.out.symm, K0⟩
 have f3 : ((n : Int) == 0) = true := beq_iff_eq.2 h3
 have HZ := Lib.hid (show zeroB x = true by unfold zeroB; simp [h0, h1, h2, show x.punches.length = 0 by omega])
 clear h0 h1 h2 h3
 go_enter Tryz.func81, Tryz.ntmps81
 go_wp2_with fail
 go_ret
 exact ⟨ret_bool HZ.out.symm, K0⟩

end Go.Proofs.YtkimlajfhepfgaaGreat

namespace Go.Proofs.YtkimlajfhepfgaaGreat
open Go.RowKit

theorem Sees.elem6 {α : Type} {w : World} {lo n k : Nat} {A : Option Addr} {ds : List α} {enc : α → List Value} {f0 f1 f2 f3 f4 f5 : α → Value} (h : Sees w lo 6 A n (ds.flatMap enc)) (he : ∀ x, enc x = [f0 x, f1 x, f2 x, f3 x, f4 x, f5 x]) (hk : k < n) :
  ∃ b off, A = some ⟨b, off, none⟩ ∧ ∃ hx : k < ds.length, w.cell? ⟨b, off + k * 6, none⟩ = some (f0 ds[k]) ∧ w.cell? ⟨b, off + k * 6 + 1, none⟩ = some (f1 ds[k]) ∧ w.cell? ⟨b, off + k * 6 + 2, none⟩ = some (f2 ds[k]) ∧ w.cell? ⟨b, off + k * 6 + 3, none⟩ = some (f3 ds[k]) ∧ w.cell? ⟨b, off + k * 6 + 4, none⟩ = some (f4 ds[k]) ∧ w.cell? ⟨b, off + k * 6 + 5, none⟩ = some (f5 ds[k]) := by
 obtain ⟨b, off, e, hx, hc⟩ := h.elem (by decide) (fun x => by rw [he]; rfl) hk
 exact ⟨b, off, e, hx, hc 0 _ (by rw [he]; rfl), hc 1 _ (by rw [he]; rfl), hc 2 _ (by rw [he]; rfl), hc 3 _ (by rw [he]; rfl), hc 4 _ (by rw [he]; rfl), hc 5 _ (by rw [he]; rfl)⟩
structure DeskStep where
 kind : Int
 number : Int
 cnumber : Int
 cstart : Int
 cfinish : Int
 punches : List Punch
deriving DecidableEq
def deskStepSh : Sh DeskStep := ⟨fun r => [(.int .i64 r.x.kind), (.int .i64 r.x.number), (.int .i64 r.x.cnumber), (.int .i64 r.x.cstart), (.int .i64 r.x.cfinish), (.slice r.A r.n r.c)], 6, 2, fun x => (x.punches.flatMap Punch.enc), by decide, fun _ => rfl⟩
def DeskStep.cnt (x : DeskStep) : Nat := x.punches.length
/-- how many marks it takes -/
def DeskStep.wt (x : DeskStep) : Nat := x.punches.length * 2 + 5
theorem SeesDeskStep.elem {w : World} {lo n k : Nat} {A : Option Addr} {xs : List DeskStep} (h : SeesN deskStepSh w lo A n xs) (hk : k < n) :
  ∃ (b off : Nat) (B : Option Addr) (m d : Nat), A = some ⟨b, off, none⟩ ∧ ∃ hkx : k < xs.length, w.cell? ⟨b, off + k * 6, none⟩ = some (.int .i64 xs[k].kind) ∧ w.cell? ⟨b, off + k * 6 + 1, none⟩ = some (.int .i64 xs[k].number) ∧ w.cell? ⟨b, off + k * 6 + 2, none⟩ = some (.int .i64 xs[k].cnumber) ∧ w.cell? ⟨b, off + k * 6 + 3, none⟩ = some (.int .i64 xs[k].cstart) ∧ w.cell? ⟨b, off + k * 6 + 4, none⟩ = some (.int .i64 xs[k].cfinish) ∧ w.cell? ⟨b, off + k * 6 + 5, none⟩ = some (.slice B m d) ∧ Sees w lo 2 B m (xs[k].punches.flatMap Punch.enc) := by
 obtain ⟨rs, rfl, h2, h3⟩ := h
 obtain ⟨b, off, rfl, hkx, c0, c1, c2, c3, c4, c5⟩ := Sees.elem6 (enc := deskStepSh.enc) h2 (fun _ => rfl) hk
 have hx : (rs.map Hd.x)[k]'(by simpa using hkx) = rs[k].x := by simp
 refine ⟨b, off, rs[k].A, rs[k].n, rs[k].c, rfl, by simpa using hkx, ?_, ?_, ?_, ?_, ?_, ?_, ?_⟩
 ·rw [c0, hx]
 ·rw [c1, hx]
 ·rw [c2, hx]
 ·rw [c3, hx]
 ·rw [c4, hx]
 ·rw [c5]
 ·rw [hx]; exact h3 rs[k] (List.getElem_mem hkx)

/-- the card of a step -/
def DeskStep.card (x : DeskStep) : Card := ⟨x.cnumber, x.cstart, x.cfinish, x.punches⟩
end Go.Proofs.YtkimlajfhepfgaaGreat

namespace Go.Proofs.YtkimlajfhepfgaaGreat
open Go.RowKit

def isNum (n : Int) (c : Card) : Bool := c.number == n
def withL (l : List Card) (n : Int) : List Card := l.filter (isNum n)
def restL (l : List Card) (n : Int) : List Card := l.filter fun c => !isNum n c
theorem parts_len (l : List Card) (n : Int) : (withL l n).length + (restL l n).length = l.length := by
 unfold withL restL
 induction l with
 | nil => rfl
 | cons x l ih => cases h : isNum n x <;> simp [h] <;> omega

/-- The program's step: the desk, and whether it may stand. -/
def stepOut (d : DeskV) (s : DeskStep) : DeskV :=
 if s.kind = 1 then { d with queue := d.queue ++ [s.card] }
 else if s.kind = 2 then (if (decide (s.number = 0) && zeroB s.card) && decide (0 < d.queue.length) then checkD d else d)
 else if s.kind = 3 then { d with known := sortI (d.known ++ [s.number]), queue := d.queue ++ withL d.trouble s.number, trouble := restL d.trouble s.number }
 else if s.kind = 4 then (if zeroB s.card then { d with trouble := restL d.trouble s.number } else d)
 else d
def stepOk (d : DeskV) (s : DeskStep) : Bool :=
 if s.kind = 1 then decide (s.number = 0) && finB s.card
 else if s.kind = 2 then (decide (s.number = 0) && zeroB s.card) && decide (0 < d.queue.length)
 else if s.kind = 3 then zeroB s.card && !hasI d.known s.number
 else if s.kind = 4 then zeroB s.card && decide (0 < (withL d.trouble s.number).length)
 else false
def stepB (d : DeskV) (s : DeskStep) : Bool := stepOk d s && deskB (stepOut d s)
/-- The reference's step. -/
def validS (s : DeskStep) : Bool :=
 if s.kind = 1 then decide (s.number = 0) && finB s.card
 else if s.kind = 2 then decide (s.number = 0) && zeroB s.card
 else inB s.kind 3 4 && (inB s.number 1 9999 && zeroB s.card)
def makeOut (d : DeskV) (s : DeskStep) : DeskV :=
 if s.kind = 1 then { d with queue := d.queue ++ [s.card] }
 else if s.kind = 2 then (if d.queue.length = 0 then d else checkD d)
 else if s.kind = 3 then { d with known := if hasI d.known s.number then d.known else putI d.known s.number, queue := d.queue ++ withL d.trouble s.number, trouble := restL d.trouble s.number }
 else { d with trouble := restL d.trouble s.number }
def makeOk (d : DeskV) (s : DeskStep) : Bool :=
 if s.kind = 1 then true
 else if s.kind = 2 then decide (0 < d.queue.length)
 else if s.kind = 3 then !hasI d.known s.number
 else decide (0 < (withL d.trouble s.number).length)
def makeB (d : DeskV) (s : DeskStep) : Bool := makeOk d s && deskB (makeOut d s)

theorem risingB_all {lo hi : Int} {xs : List Int} (h : risingB lo hi xs = true) : xs.Pairwise (· < ·) ∧ ∀ x ∈ xs, lo ≤ x ∧ x ≤ hi := by
 have hat : ∀ k (hk : k < xs.length), risingAt lo hi xs k = true := fun k hk => allTo_at h hk
 have hin : ∀ k (hk : k < xs.length), lo ≤ xs[k] ∧ xs[k] ≤ hi := fun k hk => by
  cases e : inB xs[k] lo hi
  ·have h1 := hat k hk
   rw [risingAt_in hk e] at h1
   cases h1
  ·exact inB_true e
 refine ⟨?_, fun x hx => ?_⟩
 ·have hstep : ∀ k (hk : k + 1 < xs.length), xs[k] < xs[k + 1] := fun k hk => by
   have h1 := hat (k + 1) hk
   rw [risingAt_succ hk (inB_mk (hin _ hk))] at h1
   exact of_decide_eq_true h1
  have hlt : ∀ (n i : Nat) (hj : i + n + 1 < xs.length), xs[i]'(by omega) < xs[i + n + 1] := by
   intro n
   induction n with
   | zero => intro i hj; exact hstep i hj
   | succ n ih =>
    intro i hj
    have h1 := ih i (by omega)
    have h2 := hstep (i + n + 1) (by omega)
    have h3 : xs[i + (n + 1) + 1] = xs[i + n + 1 + 1] := by congr 1
    omega
  refine List.pairwise_iff_getElem.2 fun i j hi hj hij => ?_
  have h1 := hlt (j - i - 1) i (by omega)
  have h2 : xs[i + (j - i - 1) + 1]'(by omega) = xs[j] := by congr 1; omega
  omega
 ·obtain ⟨k, hk, rfl⟩ := List.getElem_of_mem hx
  exact hin k hk
theorem deskB_rising {d : DeskV} (h : deskB d = true) : risingB 1 9999 d.known = true := by
 unfold deskB topB at h
 simp only [Bool.and_eq_true] at h
 exact h.1.1.1.1.2
theorem hasI_mem {l : List Int} {n : Int} : hasI l n = true ↔ n ∈ l := by
 unfold hasI
 simp
theorem sortI_put {l : List Int} {n : Int} (h : l.Pairwise (· < ·)) (hn : n ∉ l) : sortI (l ++ [n]) = putI l n := by
 refine rising_ext (sortI_rising ?_) (putI_sorted h) fun x => ?_
 ·refine List.nodup_append.2 ⟨h.imp fun hab => by omega, by simp, fun a ha b hb => ?_⟩
  obtain rfl := List.mem_singleton.1 hb
  exact fun e => hn (e ▸ ha)
 ·rw [sortI_mem, putI_mem]
  simp
theorem trouble_number {d : DeskV} (h : deskB d = true) {n : Int} (hw : 0 < (withL d.trouble n).length) : 1 ≤ n ∧ n ≤ 9999 := by
 obtain ⟨c, hc⟩ := List.exists_mem_of_length_pos hw
 have h1 := List.mem_filter.1 hc
 unfold deskB topB at h
 simp only [Bool.and_eq_true, List.all_eq_true] at h
 have h2 := h.1.1.2 c h1.1
 unfold finB cardB at h2
 simp only [Bool.and_eq_true] at h2
 have h3 := inB_true (headB_true h2.1.1).1
 have h4 : c.number = n := by simpa [isNum] using h1.2
 omega
theorem step_same {d : DeskV} (h : deskB d = true) (s : DeskStep) : stepB d s = (validS s && makeB d s) ∧ (stepB d s = true → stepOut d s = makeOut d s) := by
 unfold stepB makeB stepOk stepOut validS makeOk makeOut
 by_cases k1 : s.kind = 1
 ·simp only [if_pos k1, Bool.true_and]
  exact ⟨trivial, fun _ => trivial⟩
 by_cases k2 : s.kind = 2
 ·simp only [if_neg k1, if_pos k2]
  cases hz : (decide (s.number = 0) && zeroB s.card)
  ·simp
  ·by_cases hq : 0 < d.queue.length
   ·have hq' : ¬ d.queue.length = 0 := by omega
    simp only [hq, decide_true, Bool.and_true, Bool.true_and, if_true, if_neg hq']
    exact ⟨trivial, fun _ => trivial⟩
   ·simp [hq]
 by_cases k3 : s.kind = 3
 ·simp only [if_neg k1, if_neg k2, if_pos k3]
  have hi : inB s.kind 3 4 = true := inB_mk (by omega)
  rw [hi]
  cases hz : zeroB s.card
  ·simp
  ·cases hh : hasI d.known s.number
   ·have hn : s.number ∉ d.known := fun hm => by rw [hasI_mem.2 hm] at hh; exact absurd hh (by decide)
    have hs := sortI_put (risingB_all (deskB_rising h)).1 hn
    simp only [Bool.not_false, Bool.and_true, Bool.true_and, Bool.false_eq_true, if_false, ← hs]
    refine ⟨?_, fun _ => trivial⟩
    cases hb : deskB { d with known := sortI (d.known ++ [s.number]), queue := d.queue ++ withL d.trouble s.number, trouble := restL d.trouble s.number }
    ·simp
    ·have h5 := (risingB_all (deskB_rising hb)).2 s.number (sortI_mem.2 (by simp))
     rw [inB_mk h5]
     rfl
   ·simp
 by_cases k4 : s.kind = 4
 ·simp only [if_neg k1, if_neg k2, if_neg k3, if_pos k4]
  have hi : inB s.kind 3 4 = true := inB_mk (by omega)
  rw [hi]
  cases hz : zeroB s.card
  ·simp
  ·by_cases hw : 0 < (withL d.trouble s.number).length
   ·rw [inB_mk (trouble_number h hw)]
    simp only [hw, decide_true, Bool.and_true, Bool.true_and, if_true]
    exact ⟨trivial, fun _ => trivial⟩
   ·simp [hw]
 ·simp only [if_neg k1, if_neg k2, if_neg k3, if_neg k4]
  have hi : inB s.kind 3 4 = false := by
   cases e : inB s.kind 3 4
   ·rfl
   ·have := inB_true e; omega
  rw [hi]
  simp
/-- One step: the desk behind it, or none. -/
def stepM (d : DeskV) (s : DeskStep) : Option DeskV := if deskB d && stepB d s then some (stepOut d s) else none

end Go.Proofs.YtkimlajfhepfgaaGreat

namespace Go.Proofs.YtkimlajfhepfgaaGreat
open Go.RowKit

section
variable {α : Type} {sh : Sh α} {w w' : World} {S T : Nat → Prop} {ti : Nat} {rs qs : List (Hd α)}
/-- A block of one of the elements' slices. -/
def InL (rs : List (Hd α)) (b : Nat) : Prop := ∃ r ∈ rs, OwnB r.A b
theorem pair_apart {β : Type} {R : β → β → Prop} (hs : ∀ a b, R a b → R b a) : ∀ {l : List β}, l.Pairwise R → ∀ a ∈ l, ∀ b ∈ l, a ≠ b → R a b
 | [], _, a, ha, _, _, _ => by simp at ha
 | x :: l, h, a, ha, b, hb, hne => by
  have h1 := List.pairwise_cons.1 h
  rcases List.mem_cons.1 ha with ha2 | ha2
  ·rcases List.mem_cons.1 hb with hb2 | hb2
   ·exact absurd (ha2.trans hb2.symm) hne
   ·exact ha2 ▸ h1.1 b hb2
  ·rcases List.mem_cons.1 hb with hb2 | hb2
   ·exact hb2 ▸ hs _ _ (h1.1 a ha2)
   ·exact pair_apart hs h1.2 a ha2 b hb2 hne
theorem Inners.part (h : Inners sh w S ti rs) (p : Hd α → Bool) : Inners sh w (InL (rs.filter p)) ti (rs.filter p) :=
 ⟨fun r hr => (h.each r (List.mem_filter.1 hr).1).exact_.wide fun _ hb => ⟨r, hr, hb⟩, h.pair.filter p⟩
theorem Inners.top (h : Inners sh w S ti rs) : ∀ b, InL rs b → S b := fun b ⟨r, hr, hb⟩ => (h.each r hr).top b hb
theorem InL.filter {p : Hd α → Bool} {b : Nat} (h : InL (rs.filter p) b) : InL rs b := by
 obtain ⟨r, hr, hb⟩ := h
 exact ⟨r, (List.mem_filter.1 hr).1, hb⟩
theorem Inners.split (h : Inners sh w S ti rs) (p : Hd α → Bool) : ∀ b, InL (rs.filter p) b → InL (rs.filter fun r => !p r) b → False := by
 rintro b ⟨r, hr, hb⟩ ⟨q, hq, hc⟩
 have h1 := List.mem_filter.1 hr
 have h2 := List.mem_filter.1 hq
 refine pair_apart (fun a c hac b h3 h4 => hac b h4 h3) h.pair r h1.1 q h2.1 (fun e => ?_) b hb hc
 subst e
 rw [h1.2] at h2
 exact absurd h2.2 (by decide)
theorem Inners.append (h : Inners sh w S ti rs) (g : Inners sh w T ti qs) (hST : ∀ b, S b → T b → False) : Inners sh w (fun b => S b ∨ T b) ti (rs ++ qs) := by
 refine ⟨fun r hr => ?_, ?_⟩
 ·rcases List.mem_append.1 hr with hr | hr
  ·exact (h.each r hr).wide fun b hb => .inl hb
  ·exact (g.each r hr).wide fun b hb => .inr hb
 ·exact List.pairwise_append.2 ⟨h.pair, g.pair, fun r hr q hq b hb hc => hST b ((h.each r hr).top b hb) ((g.each q hq).top b hc)⟩
end
section
variable {w wz : World} {S U T1 T6 T7 : Nat → Prop} {col : Nat → Nat} {h : DeskH} {d : DeskV} {rsq rs : List (Hd Card)} {A1 A6 A7 : Option Addr} {n1 c1 n6 c6 n7 c7 : Nat} {kn : List Int} {p : Hd Card → Bool}
/-- Cards have moved from trouble to the queue, a number was put to those known. -/
theorem MineCW.register (mc : MineCW w S col h d) (hS : ∀ b, S b → b < w.heap.size)
  (hiq : Inners cardSh w (Hue S col 2) 109 rsq) (hqa : ∀ r ∈ rsq, ∀ b, OwnB r.A b → ¬ OwnB h.A2 b) (hA2 : ∀ b, OwnB h.A2 b → Hue S col 2 b)
  (hi : Inners cardSh w (Hue S col 4) 109 rs)
  (ho : Only U w wz) (hU : ∀ b, U b → Hue S col 1 b ∨ OwnB h.A2 b ∨ ¬ S b)
  (m1 : Mine wz T1 3 1 A1 n1 c1 (ints kn)) (hT1 : ∀ b, T1 b → Hue S col 1 b ∨ (w.heap.size ≤ b ∧ b < wz.heap.size))
  (m7 : Mine wz T7 31 4 A7 n7 c7 ((rsq ++ rs.filter p).flatMap cardSh.enc)) (hT7 : ∀ b, T7 b → OwnB h.A2 b ∨ (w.heap.size ≤ b ∧ b < wz.heap.size))
  (m6 : Mine wz T6 31 4 A6 n6 c6 ((rs.filter fun r => !p r).flatMap cardSh.enc)) (hT6 : ∀ b, T6 b → w.heap.size ≤ b ∧ b < wz.heap.size)
  (d17 : ∀ b, T1 b → T7 b → False) (d16 : ∀ b, T1 b → T6 b → False) (d76 : ∀ b, T7 b → T6 b → False) :
  MineD wz (fun b => S b ∨ (w.heap.size ≤ b ∧ b < wz.heap.size)) ⟨h.A0, h.n0, h.c0, A1, n1, c1, A7, n7, c7, h.A3, h.n3, h.c3, A6, n6, c6⟩ { d with known := kn, queue := (rsq ++ rs.filter p).map Hd.x, trouble := (rs.filter fun r => !p r).map Hd.x } := by
 have hlt : ∀ i b, Hue S col i b → b < w.heap.size := fun i b hb => hS b hb.1
 have hUi : ∀ {i : Nat}, i ≠ 1 → i ≠ 2 → ∀ b, Hue S col i b → U b → False := fun h1 h2 b hb hu => by
  rcases hU b hu with hu | hu | hu
  ·exact Hue.apart h1 b hb hu
  ·exact Hue.apart h2 b hb (hA2 b hu)
  ·exact hu hb.1
 have hq2 := hiq.onlyA ho (fun r hr b hb hu => by
  have h2 := (hiq.each r hr).top b hb
  rcases hU b hu with hu | hu | hu
  ·exact Hue.apart (by decide) b h2 hu
  ·exact hqa r hr b hb hu
  ·exact hu h2.1)
 have hi2 := hi.only ho (hUi (by decide) (by decide))
 have hpa := hi2.part p
 have hpb := hi2.part (fun r => !p r)
 have h2top : ∀ b, InL (rs.filter p) b → Hue S col 4 b := fun b hb => hi.top b hb.filter
 have h4top : ∀ b, InL (rs.filter fun r => !p r) b → Hue S col 4 b := fun b hb => hi.top b hb.filter
 have hQ : MineN cardSh wz (fun b => (T7 b ∨ InL rsq b) ∨ InL (rs.filter p) b) 31 109 A7 n7 c7 ((rsq ++ rs.filter p).map Hd.x) := by
  have hql : Inners cardSh wz (InL rsq) 109 rsq := ⟨fun r hr => (hq2.each r hr).exact_.wide fun _ hb => ⟨r, hr, hb⟩, hq2.pair⟩
  refine ⟨rsq ++ rs.filter p, rfl, m7.wide fun b hb => .inl (.inl hb), (hql.append hpa fun b h1 h2 => Hue.apart (by decide) b (hiq.top b h1) (h2top b h2)).wide fun b hb => hb.elim (fun h => .inl (.inr h)) .inr, fun r hr b hb hb7 => ?_⟩
  have h7 := hT7 b (m7.top b hb7)
  rcases List.mem_append.1 hr with hr | hr
  ·rcases h7 with h7 | h7
   ·exact hqa r hr b hb h7
   ·have := hlt _ b ((hiq.each r hr).top b hb); omega
  ·have h4 := h2top b ⟨r, hr, hb⟩
   rcases h7 with h7 | h7
   ·exact Hue.apart (by decide) b h4 (hA2 b h7)
   ·have := hlt _ b h4; omega
 have hT : MineN cardSh wz (fun b => T6 b ∨ InL (rs.filter fun r => !p r) b) 31 109 A6 n6 c6 ((rs.filter fun r => !p r).map Hd.x) := by
  refine ⟨rs.filter fun r => !p r, rfl, m6.wide fun b hb => .inl hb, hpb.wide fun b hb => .inr hb, fun r hr b hb hb6 => ?_⟩
  have h6 := hT6 b (m6.top b hb6)
  have := hlt _ b (h4top b ⟨r, hr, hb⟩)
  omega
 have h0 := mc.f0.only ho (hUi (by decide) (by decide))
 have h3 := mc.f3.only ho (hUi (by decide) (by decide))
 have hQx : ∀ b, ((T7 b ∨ InL rsq b) ∨ InL (rs.filter p) b) → Hue S col 2 b ∨ Hue S col 4 b ∨ (w.heap.size ≤ b ∧ b < wz.heap.size) := fun b hb => by
  rcases hb with (hb | hb) | hb
  ·exact (hT7 b hb).imp (hA2 b) .inr
  ·exact .inl (hiq.top b hb)
  ·exact .inr (.inl (h2top b hb))
 have hTx : ∀ b, (T6 b ∨ InL (rs.filter fun r => !p r) b) → Hue S col 4 b ∨ (w.heap.size ≤ b ∧ b < wz.heap.size) := fun b hb => by
  rcases hb with hb | hb
  ·exact .inr (hT6 b hb)
  ·exact .inl (h4top b hb)
 refine MineD.of5 h0 m1 hQ h3 hT (fun b hb => .inl hb.1) (fun b hb => (hT1 b hb).imp (·.1) id) (fun b hb => ?_) (fun b hb => .inl hb.1) (fun b hb => (hTx b hb).imp (·.1) id)
  (fun b hb h1 => ?_) (fun b hb h1 => ?_) (Hue.apart (by decide)) (fun b hb h1 => ?_) (fun b hb h1 => ?_) (fun b hb h1 => ?_) (fun b hb h1 => ?_) (fun b hb h1 => ?_) (fun b hb h1 => ?_) (fun b hb h1 => ?_)
 ·rcases hQx b hb with h | h | h
  ·exact .inl h.1
  ·exact .inl h.1
  ·exact .inr h
 ·rcases hT1 b h1 with h | h
  ·exact Hue.apart (by decide) b hb h
  ·have := hlt _ b hb; omega
 ·rcases hQx b h1 with h | h | h
  ·exact Hue.apart (by decide) b hb h
  ·exact Hue.apart (by decide) b hb h
  ·have := hlt _ b hb; omega
 ·rcases hTx b h1 with h | h
  ·exact Hue.apart (by decide) b hb h
  ·have := hlt _ b hb; omega
 ·rcases h1 with (h1 | h1) | h1
  ·exact d17 b hb h1
  ·have h2 := hiq.top b h1
   rcases hT1 b hb with h | h
   ·exact Hue.apart (by decide) b h2 h
   ·have := hlt _ b h2; omega
  ·have h2 := h2top b h1
   rcases hT1 b hb with h | h
   ·exact Hue.apart (by decide) b h2 h
   ·have := hlt _ b h2; omega
 ·rcases hT1 b hb with h | h
  ·exact Hue.apart (by decide) b h h1
  ·have := hlt _ b h1; omega
 ·rcases h1 with h1 | h1
  ·exact d16 b hb h1
  ·have h2 := h4top b h1
   rcases hT1 b hb with h | h
   ·exact Hue.apart (by decide) b h2 h
   ·have := hlt _ b h2; omega
 ·rcases hQx b hb with h | h | h
  ·exact Hue.apart (by decide) b h h1
  ·exact Hue.apart (by decide) b h h1
  ·have := hlt _ b h1; omega
 ·rcases hb with (hb | hb) | hb
  ·rcases h1 with h1 | h1
   ·exact d76 b hb h1
   ·have h2 := h4top b h1
    rcases hT7 b hb with h | h
    ·exact Hue.apart (by decide) b h2 (hA2 b h)
    ·have := hlt _ b h2; omega
  ·have h2 := hiq.top b hb
   rcases hTx b h1 with h | h
   ·exact Hue.apart (by decide) b h2 h
   ·have := hlt _ b h2; omega
  ·have h2 := h2top b hb
   rcases h1 with h1 | h1
   ·have := hT6 b h1; have := hlt _ b h2; omega
   ·exact hi.split p b hb h1
 ·rcases hTx b h1 with h | h
  ·exact Hue.apart (by decide) b hb h
  ·have := hlt _ b hb; omega
/-- Cards have gone out of trouble. -/
theorem MineCW.refuse (mc : MineCW w S col h d) (mq : MineN cardSh w (Hue S col 2) 31 109 h.A2 h.n2 h.c2 d.queue) (hS : ∀ b, S b → b < w.heap.size)
  (hi : Inners cardSh w (Hue S col 4) 109 rs) (ho : Only U w wz) (hU : ∀ b, U b → ¬ S b)
  (m6 : Mine wz T6 31 4 A6 n6 c6 ((rs.filter fun r => !p r).flatMap cardSh.enc)) (hT6 : ∀ b, T6 b → w.heap.size ≤ b ∧ b < wz.heap.size) :
  MineD wz (fun b => S b ∨ (w.heap.size ≤ b ∧ b < wz.heap.size)) ⟨h.A0, h.n0, h.c0, h.A1, h.n1, h.c1, h.A2, h.n2, h.c2, h.A3, h.n3, h.c3, A6, n6, c6⟩ { d with trouble := (rs.filter fun r => !p r).map Hd.x } := by
 have hlt : ∀ i b, Hue S col i b → b < w.heap.size := fun i b hb => hS b hb.1
 have hUi : ∀ i b, Hue S col i b → U b → False := fun i b hb hu => hU b hu hb.1
 have hi2 := hi.only ho (hUi 4)
 have hpb := hi2.part (fun r => !p r)
 have h4top : ∀ b, InL (rs.filter fun r => !p r) b → Hue S col 4 b := fun b hb => hi.top b hb.filter
 have hT : MineN cardSh wz (fun b => T6 b ∨ InL (rs.filter fun r => !p r) b) 31 109 A6 n6 c6 ((rs.filter fun r => !p r).map Hd.x) := by
  refine ⟨rs.filter fun r => !p r, rfl, m6.wide fun b hb => .inl hb, hpb.wide fun b hb => .inr hb, fun r hr b hb hb6 => ?_⟩
  have h6 := hT6 b (m6.top b hb6)
  have := hlt _ b (h4top b ⟨r, hr, hb⟩)
  omega
 have hTx : ∀ b, (T6 b ∨ InL (rs.filter fun r => !p r) b) → Hue S col 4 b ∨ (w.heap.size ≤ b ∧ b < wz.heap.size) := fun b hb => by
  rcases hb with hb | hb
  ·exact .inr (hT6 b hb)
  ·exact .inl (h4top b hb)
 have hx : ∀ {i : Nat}, i ≠ 4 → ∀ b, Hue S col i b → (T6 b ∨ InL (rs.filter fun r => !p r) b) → False := fun hi b hb h1 => by
  rcases hTx b h1 with h | h
  ·exact Hue.apart hi b hb h
  ·have := hlt _ b hb; omega
 exact MineD.of5 (mc.f0.only ho (hUi 0)) (mc.f1.only ho (hUi 1)) (mq.only ho (hUi 2)) (mc.f3.only ho (hUi 3)) hT (fun b hb => .inl hb.1) (fun b hb => .inl hb.1) (fun b hb => .inl hb.1) (fun b hb => .inl hb.1) (fun b hb => (hTx b hb).imp (·.1) id)
  (Hue.apart (by decide)) (Hue.apart (by decide)) (Hue.apart (by decide)) (hx (by decide)) (Hue.apart (by decide)) (Hue.apart (by decide)) (hx (by decide)) (Hue.apart (by decide)) (hx (by decide)) (hx (by decide))
/-- A card has come to the queue. -/
theorem MineCW.arrive {r : Hd Card} (mc : MineCW w S col h d) (hS : ∀ b, S b → b < w.heap.size)
  (hrs : rsq.map Hd.x = d.queue) (hiq : Inners cardSh w (Hue S col 2) 109 rsq) (hqa : ∀ r ∈ rsq, ∀ b, OwnB r.A b → ¬ OwnB h.A2 b) (hA2 : ∀ b, OwnB h.A2 b → Hue S col 2 b)
  (ho : Only U w wz) (hU : ∀ b, U b → OwnB h.A2 b ∨ ¬ S b)
  (mr : Mine wz T1 109 2 r.A r.n r.c (r.x.punches.flatMap Punch.enc)) (hT1 : ∀ b, T1 b → w.heap.size ≤ b ∧ b < wz.heap.size)
  (m7 : Mine wz T7 31 4 A7 n7 c7 ((rsq ++ [r]).flatMap cardSh.enc)) (hT7 : ∀ b, T7 b → OwnB h.A2 b ∨ (w.heap.size ≤ b ∧ b < wz.heap.size)) (d17 : ∀ b, T1 b → T7 b → False) :
  MineD wz (fun b => S b ∨ (w.heap.size ≤ b ∧ b < wz.heap.size)) ⟨h.A0, h.n0, h.c0, h.A1, h.n1, h.c1, A7, n7, c7, h.A3, h.n3, h.c3, h.A4, h.n4, h.c4⟩ { d with queue := d.queue ++ [r.x] } := by
 have hlt : ∀ i b, Hue S col i b → b < w.heap.size := fun i b hb => hS b hb.1
 have hUi : ∀ {i : Nat}, i ≠ 2 → ∀ b, Hue S col i b → U b → False := fun h2 b hb hu => by
  rcases hU b hu with hu | hu
  ·exact Hue.apart h2 b hb (hA2 b hu)
  ·exact hu hb.1
 have hq2 := hiq.onlyA ho (fun r hr b hb hu => by
  have h2 := (hiq.each r hr).top b hb
  rcases hU b hu with hu | hu
  ·exact hqa r hr b hb hu
  ·exact hu h2.1)
 have hQ : MineN cardSh wz (fun b => T7 b ∨ InL rsq b ∨ T1 b) 31 109 A7 n7 c7 (d.queue ++ [r.x]) := by
  have hql : Inners cardSh wz (InL rsq) 109 rsq := ⟨fun r hr => (hq2.each r hr).exact_.wide fun _ hb => ⟨r, hr, hb⟩, hq2.pair⟩
  have hin := hql.snoc (x := r.x) (A := r.A) (n := r.n) (c := r.c) mr (fun b h1 h2 => by have := hlt _ b (hiq.top b h1); have := hT1 b h2; omega)
  refine ⟨rsq ++ [r], by rw [List.map_append, hrs]; rfl, m7.wide fun b hb => .inl hb, hin.wide fun b hb => .inr hb, fun q hq b hb hb7 => ?_⟩
  have h7 := hT7 b (m7.top b hb7)
  rcases List.mem_append.1 hq with hq | hq
  ·rcases h7 with h7 | h7
   ·exact hqa q hq b hb h7
   ·have := hlt _ b ((hiq.each q hq).top b hb); omega
  ·obtain rfl := List.mem_singleton.1 hq
   exact d17 b (mr.top b hb) (m7.top b hb7)
 have hQx : ∀ b, (T7 b ∨ InL rsq b ∨ T1 b) → Hue S col 2 b ∨ (w.heap.size ≤ b ∧ b < wz.heap.size) := fun b hb => by
  rcases hb with hb | hb | hb
  ·exact (hT7 b hb).imp (hA2 b) id
  ·exact .inl (hiq.top b hb)
  ·exact .inr (hT1 b hb)
 have hx : ∀ {i : Nat}, i ≠ 2 → ∀ b, Hue S col i b → (T7 b ∨ InL rsq b ∨ T1 b) → False := fun hi b hb h1 => by
  rcases hQx b h1 with h | h
  ·exact Hue.apart hi b hb h
  ·have := hlt _ b hb; omega
 exact MineD.of5 (mc.f0.only ho (hUi (by decide))) (mc.f1.only ho (hUi (by decide))) hQ (mc.f3.only ho (hUi (by decide))) (mc.f4.only ho (hUi (by decide))) (fun b hb => .inl hb.1) (fun b hb => .inl hb.1) (fun b hb => (hQx b hb).imp (·.1) id) (fun b hb => .inl hb.1) (fun b hb => .inl hb.1)
  (Hue.apart (by decide)) (hx (by decide)) (Hue.apart (by decide)) (Hue.apart (by decide)) (hx (by decide)) (Hue.apart (by decide)) (Hue.apart (by decide)) (fun b h1 h2 => hx (by decide) b h2 h1) (fun b h1 h2 => hx (by decide) b h2 h1) (Hue.apart (by decide))
end
end Go.Proofs.YtkimlajfhepfgaaGreat

namespace Go.Proofs.YtkimlajfhepfgaaGreat
open Go.RowKit

def isH (v : Int) (r : Hd Card) : Bool := r.x.number == v
theorem filterP_next {α : Type} {l : List α} {k : Nat} (p : α → Bool) (hk : k < l.length) : (l.take (k + 1)).filter p = if p l[k] then (l.take k).filter p ++ [l[k]] else (l.take k).filter p := by
 rw [List.take_add_one, List.getElem?_eq_getElem hk, List.filter_append]
 cases h : p l[k] <;> simp [h]
/-- Two new slices: the cards with a number, and the others. -/
structure Parted (w w' : World) (rs : List (Hd Card)) (v : Int) (A5 A6 : Option Addr) (n5 c5 n6 c6 : Nat) : Prop where
 own5 : w'.ownsRow w.heap.size 31 4 (.slice A5 n5 c5) n5 ((rs.filter (isH v)).flatMap cardSh.enc)
 own6 : w'.ownsRow w.heap.size 31 4 (.slice A6 n6 c6) n6 ((rs.filter fun r => !isH v r).flatMap cardSh.enc)
 apart : ∀ b, OwnB A5 b → OwnB A6 b → False
 below : Below w.heap.size w w'
def Taken (g : Nat) (v0 v1 v2 v3 : Value) (A4 : Option Addr) (n4 c4 : Nat) (rs : List (Hd Card)) (v : Int) (w : World) (e : Ending) (w' : World) : Prop :=
 ∃ (wp : World) (A5 A6 : Option Addr) (n5 c5 n6 c6 : Nat), e = .returned (.slice A5 n5 c5) ∧ Parted w wp rs v A5 A6 n5 c5 n6 c6 ∧ Blk wp g 28 [v0, v1, v2, v3, .slice A4 n4 c4] ∧ w' = wp.setCell ⟨g, 4, none⟩ (.slice A6 n6 c6)
def GivesParts (rs : List (Hd Card)) (v : Int) (w : World) (e : Ending) (w' : World) : Prop :=
 ∃ (A5 A6 : Option Addr) (n5 c5 n6 c6 : Nat), e = .returned (.tuple #[.slice A5 n5 c5, .slice A6 n6 c6]) ∧ Parted w w' rs v A5 A6 n5 c5 n6 c6
theorem flat_snoc (q : List (Hd Card)) (r : Hd Card) : (q ++ [r]).flatMap cardSh.enc = q.flatMap cardSh.enc ++ [.int .i64 r.x.number, .int .i64 r.x.start, .int .i64 r.x.finish, .slice r.A r.n r.c] := by
 rw [List.flatMap_append, List.flatMap_singleton]
 rfl

set_option maxRecDepth 100000 in
set_option maxHeartbeats 4000000 in
theorem takeTrouble_any (g : Nat) (v0 v1 v2 v3 : Value) (A4 : Option Addr) (n4 c4 : Nat) (rs : List (Hd Card)) (v : Int) (w : World) (hB : Blk w g 28 [v0, v1, v2, v3, .slice A4 n4 c4]) (hx : Sees w 0 4 A4 n4 (rs.flatMap cardSh.enc)) (hn : n4 ≤ 1000) :
  Calls Tryz.prog 74 #[.pointer (some ⟨g, 0, none⟩), .int .i64 v] w (Taken g v0 v1 v2 v3 A4 n4 c4 rs v w) := by
 have hgl := hB.lt
 have cg := hB.cell
 have K0 : Below w.heap.size w ((w.alloc (.cells #[] 31)).alloc (.cells #[] 31)) := ((Below.refl w.heap.size w).alloc (Nat.le_refl _) _).alloc (by simp) _
 have o50 : (((w.alloc (.cells #[] 31)).alloc (.cells #[] 31))).ownsRow w.heap.size 31 4 (.slice (some ⟨w.heap.size, 0, none⟩) 0 0) 0 [] := own_below (own_empty w 31 4) ((Below.refl _ _).alloc (Nat.le_refl _) _)
 have o60 : (((w.alloc (.cells #[] 31)).alloc (.cells #[] 31))).ownsRow w.heap.size 31 4 (.slice (some ⟨w.heap.size + 1, 0, none⟩) 0 0) 0 [] := own_base (own_empty_at 31 4 (by simp)) (Nat.le_succ _)
 have hap0 : ∀ b, OwnB (some ⟨w.heap.size, 0, none⟩) b → OwnB (some ⟨w.heap.size + 1, 0, none⟩) b → False := fun b h1 h2 => by
  simp [OwnB, Value.ownBlock] at h1 h2
  omega
 have HB := Lib.hid hB
 clear hB
 go_enter Tryz.func74, Tryz.ntmps74
 go_wp2_with fail
 go_loopw [5, 6, 16] (fun tv lv iv wr => ∃ (k : Nat) (q5 q6 : List (Hd Card)) (A5 A6 : Option Addr) (n5 c5 n6 c6 : Nat), k ≤ n4 ∧ iv = .int .i64 (k : Int) ∧ tv = .slice A5 n5 c5 ∧ lv = .slice A6 n6 c6 ∧ (n5 ≤ k ∧ n6 ≤ k) ∧ Hid (q5 = (rs.take k).filter (isH v) ∧ q6 = (rs.take k).filter fun r => !isH v r) ∧ wr.ownsRow w.heap.size 31 4 (.slice A5 n5 c5) n5 (q5.flatMap cardSh.enc) ∧ wr.ownsRow w.heap.size 31 4 (.slice A6 n6 c6) n6 (q6.flatMap cardSh.enc) ∧ Hid (∀ b, OwnB A5 b → OwnB A6 b → False) ∧ Below w.heap.size w wr) (fun _ _ iv _ => n4 - (intOf iv).toNat)
 case atStart => exact ⟨0, [], [], _, _, 0, 0, 0, 0, Nat.zero_le _, rfl, rfl, rfl, ⟨Nat.le_refl _, Nat.le_refl _⟩, Lib.hid ⟨rfl, rfl⟩, o50, o60, Lib.hid hap0, K0⟩
 case round =>
  obtain ⟨k, q5, q6, A5, A6, n5, c5, n6, c6, hk, rfl, rfl, rfl, hle, HQ, o5, o6, HAP, K⟩ := hrel
  by_cases hlt : k < n4
  ·obtain ⟨b4, off, hA, hkx, hc⟩ := (hx.next K).elem (by decide) cardSh.len hlt
   subst hA
   have x0 : wr.cell? ⟨b4, off + k * 4, none⟩ = some (.int .i64 rs[k].x.number) := hc 0 _ rfl
   have x1 : wr.cell? ⟨b4, off + k * 4 + 1, none⟩ = some (.int .i64 rs[k].x.start) := hc 1 _ rfl
   have x2 : wr.cell? ⟨b4, off + k * 4 + 2, none⟩ = some (.int .i64 rs[k].x.finish) := hc 2 _ rfl
   have x3 : wr.cell? ⟨b4, off + k * 4 + 3, none⟩ = some (.slice rs[k].A rs[k].n rs[k].c) := hc 3 _ rfl
   have hblt := World.block_lt_of_cell? wr _ x0
   have HF5 := Lib.hid (filterP_next (isH v) hkx)
   have HF6 := Lib.hid (filterP_next (fun r => !isH v r) hkx)
   have hnp : (k : Int) < (n4 : Int) := by omega
   have zk := K.size
   clear hc
   generalize rs[k] = r at *
   have U : Below wr.heap.size wr ((wr.alloc (.cells #[.int .i64 r.x.number, .int .i64 r.x.start, .int .i64 r.x.finish, .slice r.A r.n r.c] 31)).alloc (.cells #[.int .i64 r.x.number, .int .i64 r.x.start, .int .i64 r.x.finish, .slice r.A r.n r.c] 31)) := ((Below.refl wr.heap.size wr).alloc (Nat.le_refl _) _).alloc (by simp) _
   have BA : Blk ((wr.alloc (.cells #[.int .i64 r.x.number, .int .i64 r.x.start, .int .i64 r.x.finish, .slice r.A r.n r.c] 31)).alloc (.cells #[.int .i64 r.x.number, .int .i64 r.x.start, .int .i64 r.x.finish, .slice r.A r.n r.c] 31)) (wr.heap.size + 1) 31 [.int .i64 r.x.number, .int .i64 r.x.start, .int .i64 r.x.finish, .slice r.A r.n r.c] := Blk.at_ (by simp)
   have p5 := own_below o5 U
   have p6 := own_below o6 U
   have KU := bel_then K U
   have l5 := (fun b hb => (own_top o5 hb).2 : ∀ b, OwnB A5 b → b < wr.heap.size)
   have l6 := (fun b hb => (own_top o6 hb).2 : ∀ b, OwnB A6 b → b < wr.heap.size)
   have zu := U.size
   have hb2 : w.heap.size ≤ (((wr.alloc (.cells #[.int .i64 r.x.number, .int .i64 r.x.start, .int .i64 r.x.finish, .slice r.A r.n r.c] 31)).alloc (.cells #[.int .i64 r.x.number, .int .i64 r.x.start, .int .i64 r.x.finish, .slice r.A r.n r.c] 31))).heap.size := Nat.le_trans zk zu
   have L5 := Lib.hid l5
   have L6 := Lib.hid l6
   clear o5 o6 l5 l6
   cases hp : (r.x.number == v)
   ·have HP5 := Lib.hid (show (rs.take (k + 1)).filter (isH v) = q5 by rw [HF5.out, if_neg (by unfold isH; rw [hp]; decide), HQ.out.1])
    have HP6 := Lib.hid (show (rs.take (k + 1)).filter (fun r => !isH v r) = q6 ++ [r] by rw [HF6.out, if_pos (by unfold isH; rw [hp]; rfl), HQ.out.2])
    clear HF5 HF6 HQ
    go_wp2_with (at_builtin; go_loud (refine wpList_cat rfl _ _ _ rfl Tryz.underlying25 info_impl_Card rfl (by decide) rfl p6 rfl (m := 1) (BA.sees (s := 4) (Nat.zero_le _) rfl) rfl (by omega) (by omega) (by decide) hb2 ?_); intro A7 c7 w7 o7 h7 b7 q7)
    go_roundw
    case rel => exact ⟨k + 1, q5, q6 ++ [r], A5, A7, n5, c5, n6 + 1, c7, by omega, by go_num, rfl, rfl, ⟨by omega, by omega⟩, Lib.hid ⟨HP5.out.symm, HP6.out.symm⟩, own_only p5 h7 (fun b hb h8 => HAP.out b hb h8), by rw [flat_snoc]; exact o7, Lib.hid (fun b h8 h9 => by
     rcases q7 b h9 with h9 | h9
     ·exact HAP.out b h8 h9
     ·have := L5.out b h8; omega), KU.trans b7⟩
    case measure => simp [intOf]; omega
   ·have HP5 := Lib.hid (show (rs.take (k + 1)).filter (isH v) = q5 ++ [r] by rw [HF5.out, if_pos (by unfold isH; rw [hp]), HQ.out.1])
    have HP6 := Lib.hid (show (rs.take (k + 1)).filter (fun r => !isH v r) = q6 by rw [HF6.out, if_neg (by unfold isH; rw [hp]; decide), HQ.out.2])
    clear HF5 HF6 HQ
    go_wp2_with (at_builtin; go_loud (refine wpList_cat rfl _ _ _ rfl Tryz.underlying25 info_impl_Card rfl (by decide) rfl p5 rfl (m := 1) (BA.sees (s := 4) (Nat.zero_le _) rfl) rfl (by omega) (by omega) (by decide) hb2 ?_); intro A7 c7 w7 o7 h7 b7 q7)
    go_roundw
    case rel => exact ⟨k + 1, q5 ++ [r], q6, A7, A6, n5 + 1, c7, n6, c6, by omega, by go_num, rfl, rfl, ⟨by omega, by omega⟩, Lib.hid ⟨HP5.out.symm, HP6.out.symm⟩, by rw [flat_snoc]; exact o7, own_only p6 h7 (fun b hb h8 => HAP.out b h8 hb), Lib.hid (fun b h8 h9 => by
     rcases q7 b h8 with h8 | h8
     ·exact HAP.out b h8 h9
     ·have := L6.out b h9; omega), KU.trans b7⟩
    case measure => simp [intOf]; omega
  ·have hkn : k = n4 := by omega
   have hrl := hx.count (by decide) cardSh.len
   have ht : rs.take k = rs := List.take_of_length_le (by omega)
   rw [ht] at HQ
   have hnp : ¬ (k : Int) < (n4 : Int) := by omega
   have PT := Lib.hid (show Parted w wr rs v A5 A6 n5 c5 n6 c6 from ⟨by rw [← HQ.out.1]; exact o5, by rw [← HQ.out.2]; exact o6, HAP.out, K⟩)
   clear hrl ht HQ hkn o5 o6 HAP
   have B := HB.out.next K
   have bc := B.cell
   have bf := B.frozen
   go_wp2_with fail
   go_ret
   exact ⟨wr, A5, A6, n5, c5, n6, c6, rfl, PT.out, B, rfl⟩


set_option maxRecDepth 100000 in
set_option maxHeartbeats 4000000 in
theorem l25Part_any (A4 : Option Addr) (n4 c4 : Nat) (rs : List (Hd Card)) (v : Int) (w : World) (hx : Sees w 0 4 A4 n4 (rs.flatMap cardSh.enc)) (hn : n4 ≤ 1000) :
  Calls Tryz.prog 82 #[.slice A4 n4 c4, .int .i64 v] w (GivesParts rs v w) := by
 have K0 : Below w.heap.size w ((w.alloc (.cells #[] 31)).alloc (.cells #[] 31)) := ((Below.refl w.heap.size w).alloc (Nat.le_refl _) _).alloc (by simp) _
 have o50 : (((w.alloc (.cells #[] 31)).alloc (.cells #[] 31))).ownsRow w.heap.size 31 4 (.slice (some ⟨w.heap.size, 0, none⟩) 0 0) 0 [] := own_below (own_empty w 31 4) ((Below.refl _ _).alloc (Nat.le_refl _) _)
 have o60 : (((w.alloc (.cells #[] 31)).alloc (.cells #[] 31))).ownsRow w.heap.size 31 4 (.slice (some ⟨w.heap.size + 1, 0, none⟩) 0 0) 0 [] := own_base (own_empty_at 31 4 (by simp)) (Nat.le_succ _)
 have hap0 : ∀ b, OwnB (some ⟨w.heap.size, 0, none⟩) b → OwnB (some ⟨w.heap.size + 1, 0, none⟩) b → False := fun b h1 h2 => by
  simp [OwnB, Value.ownBlock] at h1 h2
  omega
 go_enter Tryz.func82, Tryz.ntmps82
 go_wp2_with fail
 go_loopw [6, 7, 8] (fun tv lv iv wr => ∃ (k : Nat) (q5 q6 : List (Hd Card)) (A5 A6 : Option Addr) (n5 c5 n6 c6 : Nat), k ≤ n4 ∧ iv = .int .i64 (k : Int) ∧ tv = .slice A5 n5 c5 ∧ lv = .slice A6 n6 c6 ∧ (n5 ≤ k ∧ n6 ≤ k) ∧ Hid (q5 = (rs.take k).filter (isH v) ∧ q6 = (rs.take k).filter fun r => !isH v r) ∧ wr.ownsRow w.heap.size 31 4 (.slice A5 n5 c5) n5 (q5.flatMap cardSh.enc) ∧ wr.ownsRow w.heap.size 31 4 (.slice A6 n6 c6) n6 (q6.flatMap cardSh.enc) ∧ Hid (∀ b, OwnB A5 b → OwnB A6 b → False) ∧ Below w.heap.size w wr) (fun _ _ iv _ => n4 - (intOf iv).toNat)
 case atStart => exact ⟨0, [], [], _, _, 0, 0, 0, 0, Nat.zero_le _, rfl, rfl, rfl, ⟨Nat.le_refl _, Nat.le_refl _⟩, Lib.hid ⟨rfl, rfl⟩, o50, o60, Lib.hid hap0, K0⟩
 case round =>
  obtain ⟨k, q5, q6, A5, A6, n5, c5, n6, c6, hk, rfl, rfl, rfl, hle, HQ, o5, o6, HAP, K⟩ := hrel
  by_cases hlt : k < n4
  ·obtain ⟨b4, off, hA, hkx, hc⟩ := (hx.next K).elem (by decide) cardSh.len hlt
   subst hA
   have x0 : wr.cell? ⟨b4, off + k * 4, none⟩ = some (.int .i64 rs[k].x.number) := hc 0 _ rfl
   have x1 : wr.cell? ⟨b4, off + k * 4 + 1, none⟩ = some (.int .i64 rs[k].x.start) := hc 1 _ rfl
   have x2 : wr.cell? ⟨b4, off + k * 4 + 2, none⟩ = some (.int .i64 rs[k].x.finish) := hc 2 _ rfl
   have x3 : wr.cell? ⟨b4, off + k * 4 + 3, none⟩ = some (.slice rs[k].A rs[k].n rs[k].c) := hc 3 _ rfl
   have hblt := World.block_lt_of_cell? wr _ x0
   have HF5 := Lib.hid (filterP_next (isH v) hkx)
   have HF6 := Lib.hid (filterP_next (fun r => !isH v r) hkx)
   have hnp : (k : Int) < (n4 : Int) := by omega
   have zk := K.size
   clear hc
   generalize rs[k] = r at *
   have U : Below wr.heap.size wr (wr.alloc (.cells #[.int .i64 r.x.number, .int .i64 r.x.start, .int .i64 r.x.finish, .slice r.A r.n r.c] 31)) := (Below.refl wr.heap.size wr).alloc (Nat.le_refl _) _
   have BA : Blk (wr.alloc (.cells #[.int .i64 r.x.number, .int .i64 r.x.start, .int .i64 r.x.finish, .slice r.A r.n r.c] 31)) wr.heap.size 31 [.int .i64 r.x.number, .int .i64 r.x.start, .int .i64 r.x.finish, .slice r.A r.n r.c] := Blk.at_ rfl
   have p5 := own_below o5 U
   have p6 := own_below o6 U
   have KU := bel_then K U
   have l5 := (fun b hb => (own_top o5 hb).2 : ∀ b, OwnB A5 b → b < wr.heap.size)
   have l6 := (fun b hb => (own_top o6 hb).2 : ∀ b, OwnB A6 b → b < wr.heap.size)
   have zu := U.size
   have hb2 : w.heap.size ≤ ((wr.alloc (.cells #[.int .i64 r.x.number, .int .i64 r.x.start, .int .i64 r.x.finish, .slice r.A r.n r.c] 31))).heap.size := Nat.le_trans zk zu
   have L5 := Lib.hid l5
   have L6 := Lib.hid l6
   clear o5 o6 l5 l6
   cases hp : (r.x.number == v)
   ·have HP5 := Lib.hid (show (rs.take (k + 1)).filter (isH v) = q5 by rw [HF5.out, if_neg (by unfold isH; rw [hp]; decide), HQ.out.1])
    have HP6 := Lib.hid (show (rs.take (k + 1)).filter (fun r => !isH v r) = q6 ++ [r] by rw [HF6.out, if_pos (by unfold isH; rw [hp]; rfl), HQ.out.2])
    clear HF5 HF6 HQ
    go_wp2_with (at_builtin; go_loud (refine wpList_cat rfl _ _ _ rfl Tryz.underlying25 info_impl_Card rfl (by decide) rfl p6 rfl (m := 1) (BA.sees (s := 4) (Nat.zero_le _) rfl) rfl (by omega) (by omega) (by decide) hb2 ?_); intro A7 c7 w7 o7 h7 b7 q7)
    go_roundw
    case rel => exact ⟨k + 1, q5, q6 ++ [r], A5, A7, n5, c5, n6 + 1, c7, by omega, by go_num, rfl, rfl, ⟨by omega, by omega⟩, Lib.hid ⟨HP5.out.symm, HP6.out.symm⟩, own_only p5 h7 (fun b hb h8 => HAP.out b hb h8), by rw [flat_snoc]; exact o7, Lib.hid (fun b h8 h9 => by
     rcases q7 b h9 with h9 | h9
     ·exact HAP.out b h8 h9
     ·have := L5.out b h8; omega), KU.trans b7⟩
    case measure => simp [intOf]; omega
   ·have HP5 := Lib.hid (show (rs.take (k + 1)).filter (isH v) = q5 ++ [r] by rw [HF5.out, if_pos (by unfold isH; rw [hp]), HQ.out.1])
    have HP6 := Lib.hid (show (rs.take (k + 1)).filter (fun r => !isH v r) = q6 by rw [HF6.out, if_neg (by unfold isH; rw [hp]; decide), HQ.out.2])
    clear HF5 HF6 HQ
    go_wp2_with (at_builtin; go_loud (refine wpList_cat rfl _ _ _ rfl Tryz.underlying25 info_impl_Card rfl (by decide) rfl p5 rfl (m := 1) (BA.sees (s := 4) (Nat.zero_le _) rfl) rfl (by omega) (by omega) (by decide) hb2 ?_); intro A7 c7 w7 o7 h7 b7 q7)
    go_roundw
    case rel => exact ⟨k + 1, q5 ++ [r], q6, A7, A6, n5 + 1, c7, n6, c6, by omega, by go_num, rfl, rfl, ⟨by omega, by omega⟩, Lib.hid ⟨HP5.out.symm, HP6.out.symm⟩, by rw [flat_snoc]; exact o7, own_only p6 h7 (fun b hb h8 => HAP.out b h8 hb), Lib.hid (fun b h8 h9 => by
     rcases q7 b h8 with h8 | h8
     ·exact HAP.out b h8 h9
     ·have := L6.out b h9; omega), KU.trans b7⟩
    case measure => simp [intOf]; omega
  ·have hkn : k = n4 := by omega
   have hrl := hx.count (by decide) cardSh.len
   have ht : rs.take k = rs := List.take_of_length_le (by omega)
   rw [ht] at HQ
   have hnp : ¬ (k : Int) < (n4 : Int) := by omega
   have PT := Lib.hid (show Parted w wr rs v A5 A6 n5 c5 n6 c6 from ⟨by rw [← HQ.out.1]; exact o5, by rw [← HQ.out.2]; exact o6, HAP.out, K⟩)
   clear hrl ht HQ hkn o5 o6 HAP
   go_wp2_with fail
   go_ret2
   exact ⟨A5, A6, n5, c5, n6, c6, rfl, PT.out⟩

end Go.Proofs.YtkimlajfhepfgaaGreat

namespace Go.Proofs.YtkimlajfhepfgaaGreat
open Go.RowKit

/-- Behind the cases of a step: the desk d' in block g. -/
def StepAt (g : Nat) (w : World) (d' : DeskV) (wr : World) : Prop :=
 ∃ h : DeskH, Blk wr g 28 [.slice h.A0 h.n0 h.c0, .slice h.A1 h.n1 h.c1, .slice h.A2 h.n2 h.c2, .slice h.A3 h.n3 h.c3, .slice h.A4 h.n4 h.c4] ∧ MineW wr (fun b => b ≠ g ∧ w.heap.size + 3 ≤ b ∧ b < wr.heap.size) h d' ∧ h.n2 ≤ h.c2 ∧
  Blk wr (w.heap.size + 2) 28 [.slice none 0 0, .slice none 0 0, .slice none 0 0, .slice none 0 0, .slice none 0 0] ∧ Below w.heap.size w wr
/-- A step's results: a desk in memory of the call's own, and whether it may stand. -/
def GivesStep (w : World) (d' : DeskV) (b : Bool) (e : Ending) (w' : World) : Prop :=
 ∃ H : DeskH, e = .returned (.tuple #[.agg #[.slice H.A0 H.n0 H.c0, .slice H.A1 H.n1 H.c1, .slice H.A2 H.n2 H.c2, .slice H.A3 H.n3 H.c3, .slice H.A4 H.n4 H.c4], .bool b]) ∧ MineW w' (In w.heap.size w'.heap.size) H d' ∧ H.n2 ≤ H.c2 ∧ Below w.heap.size w w'
theorem MineW.cap3 {w : World} {S : Nat → Prop} {h : DeskH} {d : DeskV} (m : MineW w S h d) : h.n3 ≤ h.c3 := by
 obtain ⟨col, m⟩ := m
 exact own_cap m.f3.own
theorem cards_all (rs : List (Hd Card)) : (rs.flatMap cardSh.enc).all Value.oneCell' = true := by
 induction rs with
 | nil => rfl
 | cons r rs ih => rw [List.flatMap_cons, List.all_append, ih]; rfl
theorem with_map (rs : List (Hd Card)) (v : Int) : (rs.filter (isH v)).map Hd.x = withL (rs.map Hd.x) v := by
 unfold withL
 rw [List.filter_map]
 rfl
theorem rest_map (rs : List (Hd Card)) (v : Int) : (rs.filter fun r => !isH v r).map Hd.x = restL (rs.map Hd.x) v := by
 unfold restL
 rw [List.filter_map]
 rfl
theorem step_small {d : DeskV} {s : DeskStep} (h : Small 1000 d) (ok : stepOk d s = true) : Small 1001 (stepOut d s) := by
 have hx : Small 1001 d := ⟨h.codes, by have := h.known; omega, by have := h.total; omega, h.qc, h.tc⟩
 unfold stepOk at ok
 unfold stepOut
 split
 ·rename_i k1
  rw [if_pos k1] at ok
  simp only [Bool.and_eq_true] at ok
  refine ⟨h.codes, hx.known, by have := h.total; simp only [List.length_append, List.length_singleton]; omega, fun c hc => ?_, h.tc⟩
  rcases List.mem_append.1 hc with hc | hc
  ·exact h.qc c hc
  ·obtain rfl := List.mem_singleton.1 hc
   exact finB_ok ok.2
 split
 ·split
  ·exact hx.check
  ·exact hx
 split
 ·have hl := parts_len d.trouble s.number
  refine ⟨h.codes, by have := h.known; simp only [sortI_len, List.length_append, List.length_singleton]; omega, by have := h.total; simp only [List.length_append]; omega, fun c hc => ?_, fun c hc => h.tc c (List.mem_filter.1 hc).1⟩
  rcases List.mem_append.1 hc with hc | hc
  ·exact h.qc c hc
  ·exact h.tc c (List.mem_filter.1 hc).1
 split
 ·split
  ·have hl := parts_len d.trouble s.number
   exact ⟨h.codes, hx.known, by have := h.total; simp only []; omega, h.qc, fun c hc => h.tc c (List.mem_filter.1 hc).1⟩
  ·exact hx
 ·exact hx

end Go.Proofs.YtkimlajfhepfgaaGreat

namespace Go.Proofs.YtkimlajfhepfgaaGreat
open Go.RowKit

theorem CardD.reset {w wr : World} {g gc m : Nat} {num st fin : Int} {P : Option Addr} {kp cp : Nat} {ps : List Punch} (h : CardD w wr g gc m num st fin P kp cp ps) :
    CardD w (((((wr.setCell ⟨gc, 0, none⟩ (.int .i64 num)).setCell ⟨gc, 1, none⟩ (.int .i64 0)).setCell ⟨gc, 2, none⟩ (.int .i64 100)).setCell ⟨gc, 3, none⟩ (.slice (some ⟨wr.heap.size, 0, none⟩) 0 0)).alloc (.cells #[] 109)) g gc m num 0 100 (some ⟨wr.heap.size, 0, none⟩) 0 0 [] := by
  have hn := h.nums
  have hl := h.box.lt
  have hS : Only (fun b => b = gc) wr ((((wr.setCell ⟨gc, 0, none⟩ (.int .i64 num)).setCell ⟨gc, 1, none⟩ (.int .i64 0)).setCell ⟨gc, 2, none⟩ (.int .i64 100)).setCell ⟨gc, 3, none⟩ (.slice (some ⟨wr.heap.size, 0, none⟩) 0 0)) := only_set (only_set (only_set (only_set (Only.refl _ _) 0 _) 1 _) 2 _) 3 _
  have hsz : ((((wr.setCell ⟨gc, 0, none⟩ (.int .i64 num)).setCell ⟨gc, 1, none⟩ (.int .i64 0)).setCell ⟨gc, 2, none⟩ (.int .i64 100)).setCell ⟨gc, 3, none⟩ (.slice (some ⟨wr.heap.size, 0, none⟩) 0 0)).heap.size = wr.heap.size := by simp [World.setCell]
  have U : Below _ ((((wr.setCell ⟨gc, 0, none⟩ (.int .i64 num)).setCell ⟨gc, 1, none⟩ (.int .i64 0)).setCell ⟨gc, 2, none⟩ (.int .i64 100)).setCell ⟨gc, 3, none⟩ (.slice (some ⟨wr.heap.size, 0, none⟩) 0 0)) (((((wr.setCell ⟨gc, 0, none⟩ (.int .i64 num)).setCell ⟨gc, 1, none⟩ (.int .i64 0)).setCell ⟨gc, 2, none⟩ (.int .i64 100)).setCell ⟨gc, 3, none⟩ (.slice (some ⟨wr.heap.size, 0, none⟩) 0 0)).alloc (.cells #[] 109)) := (Below.refl _ _).alloc (Nat.le_refl _) _
  have hz := h.only.size
  refine ⟨Blk.next ((((h.box.set_ 0 _).set_ 1 _).set_ 2 _).set_ 3 _) U, (h.res.only hS (fun (e : _ = _) => by omega)).next U, own_base (own_empty_at 109 2 hsz) (by omega), fun b hb => ?_, (h.cur.keep hS (fun (e : _ = _) => by omega) (fun b (e : _ = _) => by omega)).next U, Only.then_ (only_new (only_new (only_new (only_new h.only (by show w.heap.size ≤ gc; omega) _) (by show w.heap.size ≤ gc; omega) _) (by show w.heap.size ≤ gc; omega) _) (by show w.heap.size ≤ gc; omega) _) U, hn⟩
  obtain rfl : wr.heap.size = b := by simpa [OwnB, Value.ownBlock] using hb
  exact ⟨by omega, by omega⟩

set_option maxRecDepth 100000 in
set_option maxHeartbeats 2000000 in
theorem deskCard_any (g n lo k c : Nat) (B : Option Addr) (cs : List Int) (w : World) (h : Cur w g n) (hn : n ≤ 600000) (hx : Sees w lo 1 B k (ints cs)) (hlo : g < lo) (hk : k ≤ 14) :
    Calls Tryz.prog 71 #[.pointer (some ⟨g, 0, none⟩), .slice B k c] w (DrawnCard w g (n + 110)) := by
  have U0 : Below w.heap.size w (w.alloc (.cells #[.int .i64 0, .int .i64 0, .int .i64 0, .slice none 0 0] 31)) := (Below.refl _ _).alloc (Nat.le_refl _) _
  have R0 : Blk (w.alloc (.cells #[.int .i64 0, .int .i64 0, .int .i64 0, .slice none 0 0] 31)) w.heap.size 31 [.int .i64 0, .int .i64 0, .int .i64 0, .slice none 0 0] := Blk.at_ rfl
  have z0 : (w.alloc (.cells #[.int .i64 0, .int .i64 0, .int .i64 0, .slice none 0 0] 31)).heap.size = w.heap.size + 1 := by simp
  have hg := h.lt
  have hc0 := h.next U0
  have o0 : Only (fun b => b = g) w (w.alloc (.cells #[.int .i64 0, .int .i64 0, .int .i64 0, .slice none 0 0] 31)) := .of_below U0
  go_enter Tryz.func71, Tryz.ntmps71
  go_wp2_with fail
  generalize (w.alloc (.cells #[.int .i64 0, .int .i64 0, .int .i64 0, .slice none 0 0] 31)) = w0 at *
  refine (card_any g n lo k c B cs w0 hc0 (by omega) (hx.next U0) hlo hk).mono ?_
  rintro e w1 ⟨P, kp, cp, x, rfl, ow, hkp, c1, o1⟩
  have R1 := R0.only o1 (fun (e : _ = _) => by omega)
  have y1 := o1.size
  have UB : Below w1.heap.size w1 (w1.alloc (.cells #[.int .i64 x.number, .int .i64 x.start, .int .i64 x.finish, .slice P kp cp] 31)) := (Below.refl _ _).alloc (Nat.le_refl _) _
  have D : CardD w (w1.alloc (.cells #[.int .i64 x.number, .int .i64 x.start, .int .i64 x.finish, .slice P kp cp] 31)) g w1.heap.size (n + 100) x.number x.start x.finish P kp cp x.punches :=
    ⟨Blk.at_ rfl, R1.next UB, own_base (own_below ow UB) (by omega), fun b hb => by have := own_top ow hb; exact ⟨by omega, by omega⟩, c1.next UB, (o0.trans o1).then_ UB, by omega, by omega⟩
  clear UB R1 R0 o1 c1 ow o0 hc0 U0 hx h
  obtain ⟨num, st, fin, ps⟩ := x
  dsimp only at D
  go_upto_region 2 with fail
  generalize hgc : w1.heap.size = gc at *
  generalize (w1.alloc (.cells #[.int .i64 num, .int .i64 st, .int .i64 fin, .slice P kp cp] 31)) = w2 at *
  clear hgc y1 z0 hg
  have UA : Below w2.heap.size w2 (w2.alloc (.cells #[.int .i64 1, .int .i64 2, .int .i64 5, .int .i64 9, .int .i64 17, .int .i64 17, .int .i64 2] 3)) := (Below.refl _ _).alloc (Nat.le_refl _) _
  have BL : Blk (w2.alloc (.cells #[.int .i64 1, .int .i64 2, .int .i64 5, .int .i64 9, .int .i64 17, .int .i64 17, .int .i64 2] 3)) w2.heap.size 3 (ints [1, 2, 5, 9, 17, 17, 2]) := Blk.at_ rfl
  have DA := D.below UA
  have hgl := D.cur.lt
  go_wp2_with fail
  refine (among_any g _ w2.heap.size 7 3 [1, 2, 5, 9, 17, 17, 2] _ BL (by omega) DA.cur (by omega) rfl (by decide) (by decide)).mono ?_
  rintro e w3 ⟨num2, rfl, -, c2_, o2_⟩
  have D3 := DA.drawn c2_ o2_
  clear UA BL DA c2_ o2_ hgl
  have bc := D3.box.cell
  have bf := D3.box.frozen
  have D4 := D3.set 0 (.int .i64 num2) (num' := num2) (st' := st) (fin' := fin) rfl
  clear D
  by_cases hf : fin = -1
  · subst hf
    go_wp2_with fail
    generalize w3.setCell ⟨gc, 0, none⟩ (.int .i64 num2) = w4 at *
    clear bc bf D3
    refine (one_any 6 g _ _ D4.cur (by omega) (by decide) (by decide)).mono ?_
    rintro e w5 ⟨yes, rfl, c5, o5⟩
    have D5 := D4.drawn c5 o5
    clear D4 c5 o5
    have bc := D5.box.cell
    have bf := D5.box.frozen
    cases yes
    · have D6 := D5.reset
      have hgz := D5.box.lt
      have hne : gc ≠ w.heap.size := by have := D5.nums; omega
      have hpn : w.heap.size < w5.heap.size := D5.res.lt
      clear D5
      go_upto_region 5 with fail
      generalize (((((w5.setCell ⟨gc, 0, none⟩ (.int .i64 num2)).setCell ⟨gc, 1, none⟩ (.int .i64 0)).setCell ⟨gc, 2, none⟩ (.int .i64 100)).setCell ⟨gc, 3, none⟩ (.slice (some ⟨w5.heap.size, 0, none⟩) 0 0)).alloc (.cells #[] 109)) = w6 at *
      generalize w5.heap.size = pz at *
      clear bf bc
      have bc := D6.box.cell
      have rf := D6.res.frozen
      have rc := D6.res.cell
      go_wp2_with fail
      refine bodyPost_ret (v := .agg #[.int .i64 num2, .int .i64 0, .int .i64 100, .slice (some ⟨pz, 0, none⟩) 0 0]) (by simp [results, Tryz.results71, go_sem, rc]) rfl ?_
      exact D6.done (by omega) (by omega)
    · have hne : gc ≠ w.heap.size := by have := D5.nums; omega
      have bc := D5.box.cell
      have rf := D5.res.frozen
      have rc := D5.res.cell
      go_wp2_with fail
      refine bodyPost_ret (v := .agg #[.int .i64 num2, .int .i64 st, .int .i64 (-1), .slice P kp cp]) (by simp [results, Tryz.results71, go_sem, rc]) rfl ?_
      exact D5.done hkp (by omega)
  · have hfe : (fin == -1) = false := beq_eq_false_iff_ne.2 hf
    have hne : gc ≠ w.heap.size := by have := D3.nums; omega
    have rf := D4.res.frozen
    have rc := D4.res.cell
    go_wp2_with fail
    refine bodyPost_ret (v := .agg #[.int .i64 num2, .int .i64 st, .int .i64 fin, .slice P kp cp]) (by simp [results, Tryz.results71, go_sem, rc]) rfl ?_
    exact D4.done hkp (by omega)


/-- A step of a desk, drawn. -/
def DrawnStep (w : World) (g n : Nat) (e : Ending) (w' : World) : Prop := ∃ (A : Option Addr) (k c : Nat) (s : DeskStep), e = .returned (.agg #[.int .i64 s.kind, .int .i64 s.number, .int .i64 s.cnumber, .int .i64 s.cstart, .int .i64 s.cfinish, .slice A k c]) ∧ w'.ownsRow w.heap.size 109 2 (.slice A k c) k (s.punches.flatMap Punch.enc) ∧ k ≤ 12 ∧ Cur w' g n ∧ Only (fun b => b = g) w w'
/-- A step under way: the desk's box and the result's. -/
structure StepQ (w wr : World) (g m lo : Nat) (h : DeskH) (d : DeskV) : Prop where
  box : Blk wr w.heap.size 28 [.slice h.A0 h.n0 h.c0, .slice h.A1 h.n1 h.c1, .slice h.A2 h.n2 h.c2, .slice h.A3 h.n3 h.c3, .slice h.A4 h.n4 h.c4]
  res : Blk wr (w.heap.size + 1) 33 [.int .i64 0, .int .i64 0, .int .i64 0, .int .i64 0, .int .i64 0, .slice none 0 0]
  sees : SeesDesk wr lo h d
  cur : Cur wr g m
  only : Only (fun b => b = g) w wr
  nums : g < w.heap.size ∧ g < lo
theorem StepQ.below {w wr wv : World} {g m lo : Nat} {h : DeskH} {d : DeskV} (q : StepQ w wr g m lo h d) (hb : Below wr.heap.size wr wv) : StepQ w wv g m lo h d :=
  ⟨q.box.next hb, q.res.next hb, q.sees.next hb, q.cur.next hb, q.only.then_ hb, q.nums⟩
theorem StepQ.drawn {w wr wv : World} {g m m' lo : Nat} {h : DeskH} {d : DeskV} (q : StepQ w wr g m lo h d) (hc : Cur wv g m') (ho : Only (fun b => b = g) wr wv) : StepQ w wv g m' lo h d := by
  have hn := q.nums
  exact ⟨q.box.only ho (fun (e : _ = _) => by omega), q.res.only ho (fun (e : _ = _) => by omega), q.sees.draw ho hn.2, hc, q.only.trans ho, hn⟩
theorem StepQ.done {w wr : World} {g m m' lo : Nat} {h : DeskH} {d : DeskV} (q : StepQ w wr g m lo h d) (s : DeskStep) {A : Option Addr} {k c : Nat} (own : wr.ownsRow w.heap.size 109 2 (.slice A k c) k (s.punches.flatMap Punch.enc)) (hk : k ≤ 12) (hm : m ≤ m') (hf : ∀ b, OwnB A b → b ≠ w.heap.size + 1) :
    DrawnStep w g m' (.returned (.agg #[.int .i64 s.kind, .int .i64 s.number, .int .i64 s.cnumber, .int .i64 s.cstart, .int .i64 s.cfinish, .slice A k c])) ((((((wr.setCell ⟨w.heap.size + 1, 0, none⟩ (.int .i64 s.kind)).setCell ⟨w.heap.size + 1, 1, none⟩ (.int .i64 s.number)).setCell ⟨w.heap.size + 1, 2, none⟩ (.int .i64 s.cnumber)).setCell ⟨w.heap.size + 1, 3, none⟩ (.int .i64 s.cstart)).setCell ⟨w.heap.size + 1, 4, none⟩ (.int .i64 s.cfinish)).setCell ⟨w.heap.size + 1, 5, none⟩ (.slice A k c)) := by
  have hn := q.nums
  have hS : Only (fun b => b = w.heap.size + 1) wr ((((((wr.setCell ⟨w.heap.size + 1, 0, none⟩ (.int .i64 s.kind)).setCell ⟨w.heap.size + 1, 1, none⟩ (.int .i64 s.number)).setCell ⟨w.heap.size + 1, 2, none⟩ (.int .i64 s.cnumber)).setCell ⟨w.heap.size + 1, 3, none⟩ (.int .i64 s.cstart)).setCell ⟨w.heap.size + 1, 4, none⟩ (.int .i64 s.cfinish)).setCell ⟨w.heap.size + 1, 5, none⟩ (.slice A k c)) := only_set (only_set (only_set (only_set (only_set (only_set (Only.refl _ _) 0 _) 1 _) 2 _) 3 _) 4 _) 5 _
  have hle : w.heap.size ≤ w.heap.size + 1 := Nat.le_succ _
  exact ⟨A, k, c, s, rfl, own_only own hS (fun b hb (e : _ = _) => hf b hb e), hk, (q.cur.more hm).keep hS (fun (e : _ = _) => by omega) (fun b (e : _ = _) => by omega), only_new (only_new (only_new (only_new (only_new (only_new q.only hle _) hle _) hle _) hle _) hle _) hle _⟩

set_option maxRecDepth 100000 in
set_option maxHeartbeats 4000000 in
theorem deskStep_any (g n lo : Nat) (h : DeskH) (d : DeskV) (w : World) (hc : Cur w g n) (hn : n ≤ 500000) (hs : SeesDesk w lo h d) (hlo : g < lo) (hk : h.n0 ≤ 14) (hk4 : h.n4 ≤ 1048576) :
    Calls Tryz.prog 33 #[.pointer (some ⟨g, 0, none⟩), .agg #[.slice h.A0 h.n0 h.c0, .slice h.A1 h.n1 h.c1, .slice h.A2 h.n2 h.c2, .slice h.A3 h.n3 h.c3, .slice h.A4 h.n4 h.c4]] w (DrawnStep w g (n + 120)) := by
  have U : Below w.heap.size w ((w.alloc (.cells #[.slice h.A0 h.n0 h.c0, .slice h.A1 h.n1 h.c1, .slice h.A2 h.n2 h.c2, .slice h.A3 h.n3 h.c3, .slice h.A4 h.n4 h.c4] 28)).alloc (.cells #[.int .i64 0, .int .i64 0, .int .i64 0, .int .i64 0, .int .i64 0, .slice none 0 0] 33)) := ((Below.refl _ _).alloc (Nat.le_refl _) _).alloc (by simp) _
  have Q : StepQ w ((w.alloc (.cells #[.slice h.A0 h.n0 h.c0, .slice h.A1 h.n1 h.c1, .slice h.A2 h.n2 h.c2, .slice h.A3 h.n3 h.c3, .slice h.A4 h.n4 h.c4] 28)).alloc (.cells #[.int .i64 0, .int .i64 0, .int .i64 0, .int .i64 0, .int .i64 0, .slice none 0 0] 33)) g n lo h d := ⟨(Blk.at_ rfl : Blk (w.alloc (.cells #[.slice h.A0 h.n0 h.c0, .slice h.A1 h.n1 h.c1, .slice h.A2 h.n2 h.c2, .slice h.A3 h.n3 h.c3, .slice h.A4 h.n4 h.c4] 28)) w.heap.size 28 [.slice h.A0 h.n0 h.c0, .slice h.A1 h.n1 h.c1, .slice h.A2 h.n2 h.c2, .slice h.A3 h.n3 h.c3, .slice h.A4 h.n4 h.c4]).alloc _, Blk.at_ (by simp), hs.next U, hc.next U, .of_below U, hc.lt, hlo⟩
  clear U hs hc
  go_enter Tryz.func33, Tryz.ntmps33
  go_wp2_with fail
  generalize ((w.alloc (.cells #[.slice h.A0 h.n0 h.c0, .slice h.A1 h.n1 h.c1, .slice h.A2 h.n2 h.c2, .slice h.A3 h.n3 h.c3, .slice h.A4 h.n4 h.c4] 28)).alloc (.cells #[.int .i64 0, .int .i64 0, .int .i64 0, .int .i64 0, .int .i64 0, .slice none 0 0] 33)) = w2 at *
  refine (pick_any 9 g n w2 Q.cur (by omega) (by decide) (by decide)).mono ?_
  rintro e w3 ⟨r, rfl, hr, c3, o3⟩
  have Q3 := Q.drawn c3 o3
  have hr8 : r ≤ 8 := hr
  clear Q c3 o3 hr
  by_cases r0 : r = 0
  · subst r0
    have bc := Q3.box.cell
    go_wp2_with fail
    refine (deskCard_any g _ lo h.n0 h.c0 h.A0 d.codes w3 Q3.cur (by omega) Q3.sees.f0 hlo hk).mono ?_
    rintro e w4 ⟨P, kp, cp, x, rfl, ow, hkp, c4, o4⟩
    have Q4 := Q3.drawn c4 o4
    have y3 := Q3.res.lt
    have ow4 := own_base ow (show w.heap.size ≤ w3.heap.size by omega)
    have far4 : ∀ b, OwnB P b → b ≠ w.heap.size + 1 := fun b hb => by have := own_top ow hb; omega
    clear Q3 c4 o4 ow bc
    have rf := Q4.res.frozen
    have rc := Q4.res.cell
    go_wp2_with fail
    refine bodyPost_ret (v := .agg #[.int .i64 1, .int .i64 0, .int .i64 x.number, .int .i64 x.start, .int .i64 x.finish, .slice P kp cp]) (by simp [results, Tryz.results33, go_sem, rc]) rfl ?_
    exact Q4.done ⟨1, 0, x.number, x.start, x.finish, x.punches⟩ ow4 hkp (by omega) (far4)
  have e0 : ((r : Int) == 0) = false := beq_eq_false_iff_ne.2 (by omega)
  by_cases r1 : r = 1
  · subst r1
    have bc := Q3.box.cell
    go_wp2_with fail
    refine (deskCard_any g _ lo h.n0 h.c0 h.A0 d.codes w3 Q3.cur (by omega) Q3.sees.f0 hlo hk).mono ?_
    rintro e w4 ⟨P, kp, cp, x, rfl, ow, hkp, c4, o4⟩
    have Q4 := Q3.drawn c4 o4
    have y3 := Q3.res.lt
    have ow4 := own_base ow (show w.heap.size ≤ w3.heap.size by omega)
    have far4 : ∀ b, OwnB P b → b ≠ w.heap.size + 1 := fun b hb => by have := own_top ow hb; omega
    clear Q3 c4 o4 ow bc
    have rf := Q4.res.frozen
    have rc := Q4.res.cell
    go_wp2_with fail
    refine bodyPost_ret (v := .agg #[.int .i64 1, .int .i64 0, .int .i64 x.number, .int .i64 x.start, .int .i64 x.finish, .slice P kp cp]) (by simp [results, Tryz.results33, go_sem, rc]) rfl ?_
    exact Q4.done ⟨1, 0, x.number, x.start, x.finish, x.punches⟩ ow4 hkp (by omega) (far4)
  have e1 : ((r : Int) == 1) = false := beq_eq_false_iff_ne.2 (by omega)
  by_cases r2 : r = 2
  · subst r2
    have bc := Q3.box.cell
    go_wp2_with fail
    refine (deskCard_any g _ lo h.n0 h.c0 h.A0 d.codes w3 Q3.cur (by omega) Q3.sees.f0 hlo hk).mono ?_
    rintro e w4 ⟨P, kp, cp, x, rfl, ow, hkp, c4, o4⟩
    have Q4 := Q3.drawn c4 o4
    have y3 := Q3.res.lt
    have ow4 := own_base ow (show w.heap.size ≤ w3.heap.size by omega)
    have far4 : ∀ b, OwnB P b → b ≠ w.heap.size + 1 := fun b hb => by have := own_top ow hb; omega
    clear Q3 c4 o4 ow bc
    have rf := Q4.res.frozen
    have rc := Q4.res.cell
    go_wp2_with fail
    refine bodyPost_ret (v := .agg #[.int .i64 1, .int .i64 0, .int .i64 x.number, .int .i64 x.start, .int .i64 x.finish, .slice P kp cp]) (by simp [results, Tryz.results33, go_sem, rc]) rfl ?_
    exact Q4.done ⟨1, 0, x.number, x.start, x.finish, x.punches⟩ ow4 hkp (by omega) (far4)
  have e2 : ((r : Int) == 2) = false := beq_eq_false_iff_ne.2 (by omega)

  by_cases r3 : r = 3
  · subst r3
    have rf := Q3.res.frozen
    have rc := Q3.res.cell
    go_wp2_with fail
    refine bodyPost_ret (v := .agg #[.int .i64 2, .int .i64 0, .int .i64 0, .int .i64 0, .int .i64 0, .slice none 0 0]) (by simp [results, Tryz.results33, go_sem, rc]) rfl ?_
    exact Q3.done ⟨2, 0, 0, 0, 0, []⟩ (World.ownsRow_nil _ _ _ _) (by omega) (by omega) (fun b hb => by simp [OwnB, Value.ownBlock] at hb)
  have e3 : ((r : Int) == 3) = false := beq_eq_false_iff_ne.2 (by omega)

  by_cases r4 : r = 4
  · subst r4
    have rf := Q3.res.frozen
    have rc := Q3.res.cell
    go_wp2_with fail
    refine bodyPost_ret (v := .agg #[.int .i64 2, .int .i64 0, .int .i64 0, .int .i64 0, .int .i64 0, .slice none 0 0]) (by simp [results, Tryz.results33, go_sem, rc]) rfl ?_
    exact Q3.done ⟨2, 0, 0, 0, 0, []⟩ (World.ownsRow_nil _ _ _ _) (by omega) (by omega) (fun b hb => by simp [OwnB, Value.ownBlock] at hb)
  have e4 : ((r : Int) == 4) = false := beq_eq_false_iff_ne.2 (by omega)

  by_cases r5 : r = 5
  · subst r5
    have rf := Q3.res.frozen
    have rc := Q3.res.cell
    go_wp2_with fail
    refine bodyPost_ret (v := .agg #[.int .i64 2, .int .i64 0, .int .i64 0, .int .i64 0, .int .i64 0, .slice none 0 0]) (by simp [results, Tryz.results33, go_sem, rc]) rfl ?_
    exact Q3.done ⟨2, 0, 0, 0, 0, []⟩ (World.ownsRow_nil _ _ _ _) (by omega) (by omega) (fun b hb => by simp [OwnB, Value.ownBlock] at hb)
  have e5 : ((r : Int) == 5) = false := beq_eq_false_iff_ne.2 (by omega)

  by_cases r6 : r = 6
  · subst r6
    have UA : Below w3.heap.size w3 (w3.alloc (.cells #[.int .i64 1, .int .i64 2, .int .i64 5, .int .i64 9, .int .i64 17, .int .i64 9999, .int .i64 10000] 3)) := (Below.refl _ _).alloc (Nat.le_refl _) _
    have BL : Blk (w3.alloc (.cells #[.int .i64 1, .int .i64 2, .int .i64 5, .int .i64 9, .int .i64 17, .int .i64 9999, .int .i64 10000] 3)) w3.heap.size 3 (ints [1, 2, 5, 9, 17, 9999, 10000]) := Blk.at_ rfl
    have QA := Q3.below UA
    have hgl := Q3.cur.lt
    go_wp2_with fail
    refine (among_any g _ w3.heap.size 7 3 [1, 2, 5, 9, 17, 9999, 10000] _ BL (by omega) QA.cur (by omega) rfl (by decide) (by decide)).mono ?_
    rintro e w4 ⟨v, rfl, -, c2_, o2_⟩
    have Q4 := QA.drawn c2_ o2_
    clear UA BL QA c2_ o2_ hgl
    have rf := Q4.res.frozen
    have rc := Q4.res.cell
    go_wp2_with fail
    refine bodyPost_ret (v := .agg #[.int .i64 3, .int .i64 v, .int .i64 0, .int .i64 0, .int .i64 0, .slice none 0 0]) (by simp [results, Tryz.results33, go_sem, rc]) rfl ?_
    exact Q4.done ⟨3, v, 0, 0, 0, []⟩ (World.ownsRow_nil _ _ _ _) (by omega) (by omega) (fun b hb => by simp [OwnB, Value.ownBlock] at hb)
  have e6 : ((r : Int) == 6) = false := beq_eq_false_iff_ne.2 (by omega)
  by_cases r7 : r = 7
  · subst r7
    have bc := Q3.box.cell
    by_cases hpos : 0 < h.n4
    · have hpi : (0 : Int) < (h.n4 : Int) := by omega
      go_wp2_with fail
      have QD := Q3.below ((Quiet.one w3).below _)
      have bcD := QD.box.cell
      clear bc
      refine wp_region_held_drew (S := fun w' => w'.cell? ⟨w.heap.size, 4, none⟩ = some (.slice h.A4 h.n4 h.c4)) (by kernel_rfl) (by (try dsimp only); first | exact bcD 4 | exact bc4 4) (fun hH => ?_)
      refine wT (i := 0) (v := ?_) rfl (by kernel_rfl) (by kernel_rfl) (by kernel_rfl) (fun _ _ _ h => h) (Or.inl ⟨by rfl, ?_⟩) (by assumption) ?_
      rotate_left 1
      · (intro w hSw; (try dsimp only at hSw); go_simp; try with_reducible rfl)
      simp only [Act.put, pX]
      refine wT (i := 1) (v := ?_) rfl (by kernel_rfl) (by kernel_rfl) (by kernel_rfl) (fun _ _ _ h => h) (Or.inl ⟨by rfl, ?_⟩) (by assumption) ?_
      rotate_left 1
      · (intro w hSw; (try dsimp only at hSw); go_simp; try with_reducible rfl)
      simp only [Act.put, pX]
      refine wT (i := 2) (v := ?_) rfl (by kernel_rfl) (by kernel_rfl) (by kernel_rfl) (fun _ _ _ h => h) (Or.inl ⟨by rfl, ?_⟩) (by assumption) ?_
      rotate_left 1
      · (intro w hSw; (try dsimp only at hSw); go_simp; try with_reducible rfl)
      simp only [Act.put, pX]
      refine wT (i := 3) (v := ?_) rfl (by kernel_rfl) (by kernel_rfl) (by kernel_rfl) (fun _ _ _ h => h) (Or.inl ⟨by rfl, ?_⟩) (by assumption) ?_
      rotate_left 1
      · (intro w hSw; (try dsimp only at hSw); go_simp; try with_reducible rfl)
      simp only [Act.put, pX]
      refine wT (i := 4) (v := ?_) rfl (by kernel_rfl) (by kernel_rfl) (by kernel_rfl) (fun _ _ _ h => h) (Or.inl ⟨by rfl, ?_⟩) (by assumption) ?_
      rotate_left 1
      · (intro w hSw; (try dsimp only at hSw); go_simp; try with_reducible rfl)
      simp only [Act.put, pX]
      refine wT (i := 5) (v := ?_) rfl (by kernel_rfl) (by kernel_rfl) (by kernel_rfl) (fun _ _ _ h => h) (Or.inl ⟨by rfl, ?_⟩) (by assumption) ?_
      rotate_left 1
      · (intro w hSw; (try dsimp only at hSw); go_simp; try with_reducible rfl)
      simp only [Act.put, pX]
      refine wR (rs := [6]) (by kernel_rfl) (by simp) ?_
      refine aC rfl (fun K hK => ?_) aN
      go_simp
      refine (pick_any (h.n4 : Int) g _ w3.drew QD.cur (by omega) (by omega) (by omega)).mono ?_
      rintro e w4 ⟨q, rfl, hq, c4, o4⟩
      have Q4 := QD.drawn c4 o4
      have hqn : q < h.n4 := by omega
      have rf := Q4.res.frozen
      have rc := Q4.res.cell
      have bc4 := Q4.box.cell
      obtain ⟨b, off, B0, mc, d0, hA, hkx, x0, -, -, -, -⟩ := SeesCard.elem Q4.sees.f4 hqn
      obtain ⟨v, hv⟩ : ∃ v, d.trouble[q].number = v := ⟨_, rfl⟩
      rw [hv] at x0
      have hqi : (q : Int) < (h.n4 : Int) := by omega
      have hQF := Q4.box.only (only_set (only_set (only_set (only_set (only_set (only_set (Only.refl (fun u => u = w.heap.size + 1) w4) 0 (.int .i64 4)) 1 (.int .i64 v)) 2 (.int .i64 0)) 3 (.int .i64 0)) 4 (.int .i64 0)) 5 (.slice none 0 0)) (fun (e : _ = _) => by omega)
      have bcF := hQF.cell
      clear hq hv
      go_wp2_with fail
      refine hK.out _ _ (by (try dsimp only); first | exact bcD 4 | exact bc4 4) (fun hH => ?_)
      clear hK K
      refine wT (i := 7) (v := ?_) rfl (by kernel_rfl) (by kernel_rfl) (by kernel_rfl) (fun _ _ _ h => h) (Or.inl ⟨by rfl, ?_⟩) (by assumption) ?_
      rotate_left 1
      · (intro w hSw; (try dsimp only at hSw); go_simp; try with_reducible rfl)
      simp only [Act.put, pX]
      refine wT (i := 8) (v := ?_) rfl (by kernel_rfl) (by kernel_rfl) (by kernel_rfl) (fun _ _ _ h => h) (Or.inl ⟨by rfl, ?_⟩) (by assumption) ?_
      rotate_left 1
      · (intro w hSw; (try dsimp only at hSw); go_simp; try with_reducible rfl)
      simp only [Act.put, pX]
      refine wR (rs := [9]) (by kernel_rfl) (by simp) ?_
      refine aC rfl (fun K hK => ?_) aN
      go_simp
      refine hK.out _ _ (by (try dsimp only); first | exact bcD 4 | exact bc4 4) (fun hH => ?_)
      clear hK K
      try simp only [Act.put, pX]
      refine wT (i := 10) (v := ?_) rfl (by kernel_rfl) (by kernel_rfl) (by kernel_rfl) (fun _ _ _ h => h) (Or.inl ⟨by rfl, ?_⟩) (by assumption) ?_
      rotate_left 1
      · (intro w hSw; (try dsimp only at hSw); go_simp; try with_reducible rfl)
      simp only [Act.put, pX]
      refine wR (rs := [11]) (by kernel_rfl) (by simp) ?_
      refine aC rfl (fun K hK => ?_) aN
      go_simp
      refine hK.out _ _ (by (try dsimp only); exact bcF 4) (fun hH => ?_)
      clear hK K
      try simp only [Act.put, pX]
      refine wD (by kernel_rfl) ?_ _
      go_wp2_with fail
      refine bodyPost_ret (v := .agg #[.int .i64 4, .int .i64 v, .int .i64 0, .int .i64 0, .int .i64 0, .slice none 0 0]) (by simp [results, Tryz.results33, go_sem, rc]) rfl ?_
      exact Q4.done ⟨4, v, 0, 0, 0, []⟩ (World.ownsRow_nil _ _ _ _) (by omega) (by omega) (fun b hb => by simp [OwnB, Value.ownBlock] at hb)
    · have hpi : ¬ (0 : Int) < (h.n4 : Int) := by omega
      go_wp2_with fail
      refine (one_any 3 g _ _ Q3.cur (by omega) (by decide) (by decide)).mono ?_
      rintro e w4 ⟨yes, rfl, c4, o4⟩
      have Q4 := Q3.drawn c4 o4
      clear c4 o4
      cases yes
      · have rf := Q4.res.frozen
        have rc := Q4.res.cell
        go_wp2_with fail
        refine bodyPost_ret (v := .agg #[.int .i64 2, .int .i64 0, .int .i64 0, .int .i64 0, .int .i64 0, .slice none 0 0]) (by simp [results, Tryz.results33, go_sem, rc]) rfl ?_
        exact Q4.done ⟨2, 0, 0, 0, 0, []⟩ (World.ownsRow_nil _ _ _ _) (by omega) (by omega) (fun b hb => by simp [OwnB, Value.ownBlock] at hb)
      · have UA : Below w4.heap.size w4 (w4.alloc (.cells #[.int .i64 0, .int .i64 5, .int .i64 2, .int .i64 4] 3)) := (Below.refl _ _).alloc (Nat.le_refl _) _
        have BL : Blk (w4.alloc (.cells #[.int .i64 0, .int .i64 5, .int .i64 2, .int .i64 4] 3)) w4.heap.size 3 (ints [0, 5, 2, 4]) := Blk.at_ rfl
        have QA := Q4.below UA
        have hgl := Q4.cur.lt
        go_wp2_with fail
        refine (among_any g _ w4.heap.size 4 3 [0, 5, 2, 4] _ BL (by omega) QA.cur (by omega) rfl (by decide) (by decide)).mono ?_
        rintro e w5 ⟨v, rfl, -, c2_, o2_⟩
        have Q5 := QA.drawn c2_ o2_
        clear UA BL QA c2_ o2_ hgl
        have UA : Below w5.heap.size w5 (w5.alloc (.cells #[.int .i64 0, .int .i64 5] 3)) := (Below.refl _ _).alloc (Nat.le_refl _) _
        have BL : Blk (w5.alloc (.cells #[.int .i64 0, .int .i64 5] 3)) w5.heap.size 3 (ints [0, 5]) := Blk.at_ rfl
        have QA := Q5.below UA
        have hgl := Q5.cur.lt
        go_wp2_with fail
        refine (among_any g _ w5.heap.size 2 3 [0, 5] _ BL (by omega) QA.cur (by omega) rfl (by decide) (by decide)).mono ?_
        rintro e w6 ⟨v2, rfl, -, c2_, o2_⟩
        have Q6 := QA.drawn c2_ o2_
        clear UA BL QA c2_ o2_ hgl
        have rf := Q6.res.frozen
        have rc := Q6.res.cell
        go_wp2_with fail
        refine bodyPost_ret (v := .agg #[.int .i64 v, .int .i64 v2, .int .i64 0, .int .i64 0, .int .i64 0, .slice none 0 0]) (by simp [results, Tryz.results33, go_sem, rc]) rfl ?_
        exact Q6.done ⟨v, v2, 0, 0, 0, []⟩ (World.ownsRow_nil _ _ _ _) (by omega) (by omega) (fun b hb => by simp [OwnB, Value.ownBlock] at hb)
  have e7 : ((r : Int) == 7) = false := beq_eq_false_iff_ne.2 (by omega)
  go_wp2_with fail
  refine (one_any 3 g _ _ Q3.cur (by omega) (by decide) (by decide)).mono ?_
  rintro e w4 ⟨yes, rfl, c4, o4⟩
  have Q4 := Q3.drawn c4 o4
  clear c4 o4
  cases yes
  · have rf := Q4.res.frozen
    have rc := Q4.res.cell
    go_wp2_with fail
    refine bodyPost_ret (v := .agg #[.int .i64 2, .int .i64 0, .int .i64 0, .int .i64 0, .int .i64 0, .slice none 0 0]) (by simp [results, Tryz.results33, go_sem, rc]) rfl ?_
    exact Q4.done ⟨2, 0, 0, 0, 0, []⟩ (World.ownsRow_nil _ _ _ _) (by omega) (by omega) (fun b hb => by simp [OwnB, Value.ownBlock] at hb)
  · have UA : Below w4.heap.size w4 (w4.alloc (.cells #[.int .i64 0, .int .i64 5, .int .i64 2, .int .i64 4] 3)) := (Below.refl _ _).alloc (Nat.le_refl _) _
    have BL : Blk (w4.alloc (.cells #[.int .i64 0, .int .i64 5, .int .i64 2, .int .i64 4] 3)) w4.heap.size 3 (ints [0, 5, 2, 4]) := Blk.at_ rfl
    have QA := Q4.below UA
    have hgl := Q4.cur.lt
    go_wp2_with fail
    refine (among_any g _ w4.heap.size 4 3 [0, 5, 2, 4] _ BL (by omega) QA.cur (by omega) rfl (by decide) (by decide)).mono ?_
    rintro e w5 ⟨v, rfl, -, c2_, o2_⟩
    have Q5 := QA.drawn c2_ o2_
    clear UA BL QA c2_ o2_ hgl
    have UA : Below w5.heap.size w5 (w5.alloc (.cells #[.int .i64 0, .int .i64 5] 3)) := (Below.refl _ _).alloc (Nat.le_refl _) _
    have BL : Blk (w5.alloc (.cells #[.int .i64 0, .int .i64 5] 3)) w5.heap.size 3 (ints [0, 5]) := Blk.at_ rfl
    have QA := Q5.below UA
    have hgl := Q5.cur.lt
    go_wp2_with fail
    refine (among_any g _ w5.heap.size 2 3 [0, 5] _ BL (by omega) QA.cur (by omega) rfl (by decide) (by decide)).mono ?_
    rintro e w6 ⟨v2, rfl, -, c2_, o2_⟩
    have Q6 := QA.drawn c2_ o2_
    clear UA BL QA c2_ o2_ hgl
    have rf := Q6.res.frozen
    have rc := Q6.res.cell
    go_wp2_with fail
    refine bodyPost_ret (v := .agg #[.int .i64 v, .int .i64 v2, .int .i64 0, .int .i64 0, .int .i64 0, .slice none 0 0]) (by simp [results, Tryz.results33, go_sem, rc]) rfl ?_
    exact Q6.done ⟨v, v2, 0, 0, 0, []⟩ (World.ownsRow_nil _ _ _ _) (by omega) (by omega) (fun b hb => by simp [OwnB, Value.ownBlock] at hb)

end Go.Proofs.YtkimlajfhepfgaaGreat

namespace Go.Proofs.YtkimlajfhepfgaaGreat
open Go.RowKit

theorem lit_cell (w : World) (L : List Int) {i : Nat} (hi : i < L.length) : (w.alloc (.cells (ints L).toArray 3)).cell? ⟨w.heap.size, i, none⟩ = some (.int .i64 L[i]) := by
  rw [(show Blk (w.alloc (.cells (ints L).toArray 3)) w.heap.size 3 (ints L) from Blk.at_ rfl).cell i]
  simp [ints, List.getElem?_eq_getElem hi]

end Go.Proofs.YtkimlajfhepfgaaGreat
