/- The walk of the law FnClosures; what it compares, and plain facts, ahead of it. -/
import Derived.Test.YtljiflbaknakaaaCurOw
import Derived.Test.YtljiflbaknakaaaCurCl
import Derived.Test.YtljiflbaknakaaaCurAd
import Derived.Test.YtljiflbaknakaaaDays
import Derived.Test.YtljiflbaknakaaaSpan
import Derived.Test.YtljiflbaknakaaaClosed
import Derived.Test.YtljiflbaknakaaaAddS
import Derived.Test.YtljiflbaknakaaaAt
import Derived.Test.YtljiflbaknakaaaWay3
import Derived.Deep.CutBlock
namespace Go.Proofs.Ytljiflbaknakaaa
open Go.RowKit

theorem rBig_any (A : Option Addr) (n c : Nat) (w : World) (hn : n ≤ 9223372036854775807) : Calls Try.prog 52 #[.slice A n c] w fun e w' => e = .returned (.bool (decide (65536 < n))) ∧ w = w' := by
  go_enter Try.func52, Try.ntmps52
  go_wp2_with fail
  go_ret
  exact ⟨ret_bool (by simp; omega), rfl⟩
theorem rInts_any (A A' : Option Addr) (n n' c c' lo lo' : Nat) (xs ys : List Int) (w : World) (hx : Sees w lo 1 A n (ints xs)) (hy : Sees w lo' 1 A' n' (ints ys)) (he : xs = ys) (hn : n ≤ 140737488355328) :
    Calls Try.prog 60 #[.slice A n c, .slice A' n' c'] w fun e w' => e = .returned (.bool true) ∧ Quiet w w' := by
  subst he
  have hl := hx.icount
  have hl' := hy.icount
  obtain rfl : n = n' := by omega
  go_enter Try.func60, Try.ntmps60
  go_wp2
  go_loopw [5] (fun v wr => ∃ k : Nat, k ≤ n ∧ v = .int .i64 k ∧ Quiet w wr) (fun v _ => n - (intOf v).toNat)
  case atStart => exact ⟨0, Nat.zero_le _, rfl, Quiet.refl _⟩
  case round =>
    obtain ⟨k, hk, rfl, hq⟩ := hrel
    by_cases hlt : k < n
    · obtain ⟨b, off, rfl, hkx, hcx⟩ := (hx.quiet hq).int hlt
      obtain ⟨b', off', rfl, hky, hcy⟩ := (hy.quiet hq).int hlt
      go_wp2
      go_quiet (fail)
      go_wp2
      go_roundw
      case rel => exact ⟨k + 1, by omega, by go_num, hq.more _⟩
      case measure => simp [intOf]; omega
    · go_wp2
      go_ret
      exact ⟨rfl, hq⟩

theorem rHas_any (A : Option Addr) (n c : Nat) (xs : List Int) (v0 : Int) (w : World) (hx : Sees w 0 1 A n (ints xs)) (hn : n ≤ 140737488355328) :
    Calls Try.prog 56 #[.slice A n c, .int .i64 v0] w fun e w' => e = .returned (.bool (hasI xs v0)) ∧ Quiet w w' := by
  have hl := hx.icount
  go_enter Try.func56, Try.ntmps56
  go_wp2_with fail
  go_loopw [5] (fun v wr => ∃ k : Nat, k ≤ n ∧ v = .int .i64 k ∧ Hid ((xs.take k).any (fun x => decide (v0 = x)) = false) ∧ Quiet w wr) (fun v _ => n - (intOf v).toNat)
  case atStart => exact ⟨0, Nat.zero_le _, rfl, by simp [Hid], Quiet.refl _⟩
  case round =>
    obtain ⟨k, hk, rfl, ht, hq⟩ := hrel
    by_cases hlt : k < n
    · obtain ⟨b, off, rfl, hkx, hcx⟩ := (hx.quiet hq).int hlt
      by_cases hv : xs[k] = v0
      · have hv' : (xs[k] == v0) = true := by simp [hv]
        have HV := Lib.hid (show hasI xs v0 = true by rw [hasI, List.any_eq_true]; exact ⟨_, List.getElem_mem hkx, by simp [hv]⟩)
        clear hv
        go_wp2_with fail
        go_ret
        exact ⟨ret_bool HV.out.symm, hq⟩
      · have hv' : (xs[k] == v0) = false := by simp [hv]
        have HV := Lib.hid (any_take_succ hkx ht.out (by simp only [decide_eq_false_iff_not]; exact fun e => hv e.symm))
        clear hv
        go_wp2_with fail
        go_roundw
        case rel => exact ⟨k + 1, by omega, by go_num, HV, hq⟩
        case measure => simp [intOf]; omega
    · go_wp2_with fail
      go_ret
      have h := ht.out
      rw [List.take_of_length_le (by omega)] at h
      exact ⟨ret_bool h.symm, hq⟩


set_option maxRecDepth 100000 in
set_option maxHeartbeats 2000000 in
theorem rAreas_any (A A' : Option Addr) (n n' c c' lo lo' : Nat) (xs ys : List Area) (w : World) (hx : SeesN areaSh w lo A n xs) (hy : SeesN areaSh w lo' A' n' ys) (he : xs = ys) (hn : n ≤ 140737488355328) (hi : ∀ x ∈ xs, x.cnt ≤ 1048576) :
    Calls Try.prog 58 #[.slice A n c, .slice A' n' c'] w fun e w' => e = .returned (.bool true) ∧ Quiet w w' := by
  subst he
  have hl := hx.count
  have hl' := hy.count
  obtain rfl : n = n' := by omega
  go_enter Try.func58, Try.ntmps58
  go_wp2_with fail
  go_loopw [5] (fun v wr => ∃ k : Nat, k ≤ n ∧ v = .int .i64 k ∧ Quiet w wr) (fun v _ => n - (intOf v).toNat)
  case atStart => exact ⟨0, Nat.zero_le _, rfl, Quiet.refl _⟩
  case round =>
    obtain ⟨k, hk, rfl, hq⟩ := hrel
    by_cases hlt : k < n
    · obtain ⟨b, off, B0, mm, cc0, rfl, hkx, x0, x1, x2, x3, hxi⟩ := SeesArea.elem (hx.quiet hq) hlt
      obtain ⟨b', off', B0', mm', cc1, rfl, hky, y0, y1, y2, y3, hyi⟩ := SeesArea.elem (hy.quiet hq) hlt
      have hm : mm ≤ 1048576 := by
        have h1 := hi xs[k] (List.getElem_mem hkx)
        have h2 := hxi.icount
        unfold Area.cnt at h1
        omega
      generalize xs[k] = z at *
      have e0 : (z.id != z.id) = false := bne_self_eq_false _
      have e1 : (z.first != z.first) = false := bne_self_eq_false _
      have e2 : (z.last != z.last) = false := bne_self_eq_false _
      go_wp2_with fail
      go_quiet ((go_at_call 60; exact quiet_rightG (rInts_any _ _ _ _ cc0 cc1 _ _ z.cells z.cells _ (hxi.quiet (Quiet.mk _ _)) (hyi.quiet (Quiet.mk _ _)) rfl (by omega))))
      go_wp2_with fail
      go_roundw
      case rel => exact ⟨k + 1, by omega, by go_num, hq.more _⟩
      case measure => simp [intOf]; omega
    · go_wp2_with fail
      go_ret
      exact ⟨rfl, hq⟩


set_option maxRecDepth 100000 in
set_option maxHeartbeats 2000000 in
theorem rTable_any (A A' : Option Addr) (n n' c c' lo lo' : Nat) (xs ys : List (List Int)) (w : World) (hx : SeesN rowSh w lo A n xs) (hy : SeesN rowSh w lo' A' n' ys) (he : xs = ys) (hn : n ≤ 140737488355328) (hi : ∀ x ∈ xs, IntRow.cnt x ≤ 1048576) :
    Calls Try.prog 55 #[.slice A n c, .slice A' n' c'] w fun e w' => e = .returned (.bool true) ∧ Quiet w w' := by
  subst he
  have hl := hx.count
  have hl' := hy.count
  obtain rfl : n = n' := by omega
  go_enter Try.func55, Try.ntmps55
  go_wp2_with fail
  go_loopw [5] (fun v wr => ∃ k : Nat, k ≤ n ∧ v = .int .i64 k ∧ Quiet w wr) (fun v _ => n - (intOf v).toNat)
  case atStart => exact ⟨0, Nat.zero_le _, rfl, Quiet.refl _⟩
  case round =>
    obtain ⟨k, hk, rfl, hq⟩ := hrel
    by_cases hlt : k < n
    · obtain ⟨b, off, B0, m, cc0, rfl, hkx, c0, hxi⟩ := SeesRow.elem (hx.quiet hq) hlt
      obtain ⟨b', off', B0', m', cc1, rfl, hky, d0, hyi⟩ := SeesRow.elem (hy.quiet hq) hlt
      have hm : m ≤ 1048576 := by
        have h1 := hi xs[k] (List.getElem_mem hkx)
        have h2 := hxi.icount
        unfold IntRow.cnt at h1
        omega
      generalize xs[k] = z at *
      go_wp2_with fail
      go_quiet ((go_at_call 60; exact quiet_rightG (rInts_any _ _ _ _ cc0 cc1 _ _ z z _ (hxi.quiet (Quiet.mk _ _)) (hyi.quiet (Quiet.mk _ _)) rfl (by omega))))
      go_wp2_with fail
      go_roundw
      case rel => exact ⟨k + 1, by omega, by go_num, hq.more _⟩
      case measure => simp [intOf]; omega
    · go_wp2_with fail
      go_ret
      exact ⟨rfl, hq⟩


/-- the least number that answers, and how many there can be -/
theorem filter_first (p : Nat → Bool) : ∀ N : Nat, ((List.range N).filter p).length ≠ 0 → ∃ h : Nat, h < N ∧ p h = true ∧ (∀ k : Nat, k < h → p k = false) ∧ ((List.range N).filter p).headD 0 = h ∧ ((List.range N).filter p).length + h ≤ N
  | 0, h => absurd rfl h
  | N + 1, h => by
    rw [List.range_succ, List.filter_append] at h ⊢
    by_cases h0 : ((List.range N).filter p).length = 0
    · have e : (List.range N).filter p = [] := List.length_eq_zero_iff.1 h0
      rw [e] at h ⊢
      have hp : p N = true := by
        cases hp : p N with
        | true => rfl
        | false => simp [hp] at h
      refine ⟨N, by omega, hp, fun k hk => ?_, by simp [hp], by simp [hp]; omega⟩
      cases hk' : p k with
      | false => rfl
      | true =>
        have h1 : k ∈ (List.range N).filter p := List.mem_filter.2 ⟨List.mem_range.2 hk, hk'⟩
        rw [e] at h1
        simp at h1
    · obtain ⟨g, g1, g2, g3, g4, g5⟩ := filter_first p N h0
      refine ⟨g, by omega, g2, g3, ?_, ?_⟩
      · cases e : (List.range N).filter p with
        | nil => rw [e] at h0; simp at h0
        | cons x l => rw [e] at g4; simpa using g4
      · rw [List.length_append]
        have h1 : ([N].filter p).length ≤ 1 := List.length_filter_le p [N]
        omega
theorem filter_both (p : Nat → Bool) : ∀ N : Nat, ((List.range N).filter p).length + ((List.range N).filter (fun k => !p k)).length = N
  | 0 => rfl
  | N + 1 => by
    have ih := filter_both p N
    rw [List.range_succ, List.filter_append, List.filter_append, List.length_append, List.length_append]
    cases h : p N <;> simp [h] <;> omega

/-- on the first day for a way it has no errors; on the day ahead it has -/
theorem days_first {m : MapV} {xs : List Area} {ys : List Int} (h : (daysWay m xs ys).2.2 = true) :
    wayErrs m xs (daysWay m xs ys).1 ys = some [] ∧ ((wayErrs m xs ((daysWay m xs ys).1 - 1) ys).isSome = true → ((wayErrs m xs ((daysWay m xs ys).1 - 1) ys).getD []).length ≠ 0) ∧ 0 ≤ (daysWay m xs ys).1 ∧ (daysWay m xs ys).1 ≤ 364 ∧ 1 ≤ (daysWay m xs ys).2.1 ∧ (daysWay m xs ys).2.1 ≤ 365 - (daysWay m xs ys).1 := by
  unfold daysWay at h ⊢
  by_cases hb : (areasB m xs && wayB m ys) = true
  · rw [if_pos hb] at h ⊢
    simp only [Bool.and_eq_true] at hb
    simp only [decide_eq_true_eq] at h
    obtain ⟨g, g1, g2, g3, g4, g5⟩ := filter_first (goodD m xs ys) 365 (by unfold okDays at h; omega)
    have hh : headN (okDays m xs ys 365) = (g : Int) := by unfold headN okDays; rw [g4]
    have hl : (okDays m xs ys 365).length + g ≤ 365 := g5
    simp only [hh]
    refine ⟨?_, ?_, by omega, by omega, by omega, by omega⟩
    · unfold wayErrs
      rw [hb.1, hb.2, inB_mk (show 0 ≤ (g : Int) ∧ (g : Int) ≤ 364 by omega)]
      simp only [Bool.and_self, if_true]
      exact congrArg some (List.length_eq_zero_iff.1 (of_decide_eq_true g2))
    · intro h2
      unfold wayErrs at h2 ⊢
      split at h2
      · rename_i hc
        rw [if_pos hc]
        simp only [Bool.and_eq_true] at hc
        have h3 := inB_true hc.1.2
        obtain ⟨k, rfl⟩ : ∃ k : Nat, g = k + 1 := ⟨g - 1, by omega⟩
        have h4 := of_decide_eq_false (g3 k (by omega))
        rw [show ((k + 1 : Nat) : Int) - 1 = (k : Int) by omega]
        exact h4
      · cases h2
  · rw [if_neg hb] at h
    cases h

theorem mem_opens {m : MapV} {xs : List Area} {day : Int} {k : Nat} {x : Int} : x ∈ openTo m xs day k ↔ ∃ i : Nat, i < k ∧ openB m xs day i = true ∧ x = (i : Int) := by
  unfold openTo
  simp only [List.mem_map, List.mem_filter, List.mem_range]
  constructor
  · rintro ⟨i, ⟨h1, h2⟩, rfl⟩
    exact ⟨i, h1, h2, rfl⟩
  · rintro ⟨i, h1, h2, rfl⟩
    exact ⟨i, ⟨h1, h2⟩, rfl⟩
/-- how many of the first days the cell is not open -/
def shutN (m : MapV) (xs : List Area) (cell d : Nat) : Nat := ((List.range d).filter fun k : Nat => !openB m xs (k : Int) cell).length
theorem shutN_next (m : MapV) (xs : List Area) (cell d : Nat) : shutN m xs cell (d + 1) = if openB m xs (d : Int) cell then shutN m xs cell d else shutN m xs cell d + 1 := by
  unfold shutN
  rw [List.range_succ, List.filter_append, List.length_append]
  cases h : openB m xs (d : Int) cell <;> simp [h]
def sumP : List (Int × Int) → Int
  | [] => 0
  | p :: l => p.2 - p.1 + 1 + sumP l
theorem sumP_app : ∀ l k : List (Int × Int), sumP (l ++ k) = sumP l + sumP k
  | [], k => by simp [sumP]
  | p :: l, k => by
    have ih := sumP_app l k
    simp only [List.cons_append, sumP, ih]
    omega
theorem sumP_next {ps : List (Int × Int)} {k : Nat} (hk : k < ps.length) : sumP (ps.take (k + 1)) = sumP (ps.take k) + (ps[k].2 - ps[k].1 + 1) := by
  rw [List.take_succ_eq_append_getElem hk, sumP_app]
  simp [sumP]
def SpanIn (m : MapV) (xs : List Area) (cell d : Nat) (p : Int × Int) : Prop := 0 ≤ p.1 ∧ p.1 ≤ p.2 ∧ p.2 < (d : Int) ∧ openB m xs p.1 cell = false
theorem sumP_small {m : MapV} {xs : List Area} {cell d : Nat} {ps : List (Int × Int)} (h : ∀ p ∈ ps, SpanIn m xs cell d p) : ∀ k : Nat, k ≤ ps.length → 0 ≤ sumP (ps.take k) ∧ sumP (ps.take k) ≤ (d : Int) * k
  | 0, _ => by simp [sumP]
  | k + 1, hk => by
    have ih := sumP_small h k (by omega)
    have h1 := h ps[k] (List.getElem_mem (by omega))
    rw [sumP_next (by omega)]
    obtain ⟨h2, h3, h4, -⟩ := h1
    have h5 : (d : Int) * ((k + 1 : Nat) : Int) = (d : Int) * k + d := by rw [Int.natCast_add, Int.mul_add]; simp
    omega
theorem spans_ok (m : MapV) (xs : List Area) (cell : Nat) : ∀ d : Nat, sumP (spansTo m xs cell d) = (shutN m xs cell d : Int) ∧ ∀ p ∈ spansTo m xs cell d, SpanIn m xs cell d p
  | 0 => by
    constructor
    · rfl
    · intro p hp
      simp [spansTo] at hp
  | d + 1 => by
    obtain ⟨h1, h2⟩ := spans_ok m xs cell d
    have hw : ∀ p ∈ spansTo m xs cell d, SpanIn m xs cell (d + 1) p := fun p hp => by
      obtain ⟨a, b, c, e⟩ := h2 p hp
      exact ⟨a, b, by omega, e⟩
    show sumP (spanStep (openB m xs (d : Int) cell) (d : Int) (spansTo m xs cell d)) = _ ∧ ∀ p ∈ spanStep (openB m xs (d : Int) cell) (d : Int) (spansTo m xs cell d), _
    rw [shutN_next]
    generalize spansTo m xs cell d = ps at *
    cases ho : openB m xs (d : Int) cell with
    | true => exact ⟨by simpa [spanStep] using h1, by simpa [spanStep] using hw⟩
    | false =>
      have hnew : SpanIn m xs cell (d + 1) ((d : Int), (d : Int)) := ⟨by simp, by simp, by show (d : Int) < ((d + 1 : Nat) : Int); omega, ho⟩
      have happ : sumP (ps ++ [((d : Int), (d : Int))]) = ((shutN m xs cell d + 1 : Nat) : Int) := by
        rw [sumP_app, h1]
        simp [sumP]
      have hmem : ∀ p ∈ ps ++ [((d : Int), (d : Int))], SpanIn m xs cell (d + 1) p := fun p hp => by
        rcases List.mem_append.1 hp with h | h
        · exact hw p h
        · rw [List.mem_singleton.1 h]; exact hnew
      unfold spanStep
      simp only [Bool.false_eq_true, if_false]
      split
      · rename_i p hp
        obtain ⟨qs, rfl⟩ := List.getLast?_eq_some_iff.1 hp
        split
        · rename_i h3
          rw [sumP_app] at h1
          simp only [sumP] at h1
          rw [List.dropLast_concat, sumP_app]
          refine ⟨by simp only [sumP]; omega, fun q hq => ?_⟩
          rcases List.mem_append.1 hq with h | h
          · exact hw q (List.mem_append.2 (.inl h))
          · rw [List.mem_singleton.1 h]
            obtain ⟨a, b, c, e⟩ := hw p (by simp)
            exact ⟨a, by show p.1 ≤ (d : Int); omega, by show (d : Int) < _; omega, e⟩
        · exact ⟨happ, hmem⟩
      · exact ⟨happ, hmem⟩

/-- A table of closed days, and what it says. -/
theorem closed_facts {m : MapV} {xs : List Area} {cell : Int} {R : List (List Int)} (h : closedDays m xs cell = some R) : ∃ (ps : List (Int × Int)) (k : Nat), R = ps.map rowP ∧ ps.length ≤ 365 ∧ cell = (k : Int) ∧ k < m.cost.length ∧ areasB m xs = true ∧
    (∀ p ∈ ps, SpanIn m xs k 365 p) ∧ (sumP ps = (shutN m xs k 365 : Int)) ∧ isMapB m = true ∧ isC m cell = true := by
  obtain ⟨h1, h2, rfl⟩ := closedDays_cases h
  have hM := (areasB_at h1).1
  rw [isC_cell hM] at h2
  obtain ⟨k, rfl, hk⟩ := isC_nat h2
  obtain ⟨h3, h4⟩ := spans_ok m xs k 365
  exact ⟨spansTo m xs k 365, k, by simp, spansTo_len _ _ _ _, rfl, hk, h1, h4, h3, hM, h2⟩
/-- the cell is not open on a span's first day -/
theorem span_shut {m : MapV} {xs : List Area} {k : Nat} {p : Int × Int} (hA : areasB m xs = true) (h : SpanIn m xs k 365 p) : openCells m xs p.1 = some (openTo m xs p.1 m.cost.length) ∧ hasI (openTo m xs p.1 m.cost.length) (k : Int) = false := by
  obtain ⟨a, b, c, e⟩ := h
  constructor
  · unfold openCells
    rw [hA, inB_mk (show 0 ≤ p.1 ∧ p.1 ≤ 364 by omega)]
    rfl
  · cases hh : hasI (openTo m xs p.1 m.cost.length) (k : Int) with
    | false => rfl
    | true =>
      rw [hasI_mem, mem_opens] at hh
      obtain ⟨i, _, h1, h2⟩ := hh
      obtain rfl : k = i := by omega
      rw [h1] at e
      cases e
theorem good_one {m : MapV} {xs : List Area} {k d : Nat} : goodD m xs [(k : Int)] d = openB m xs (d : Int) k := by
  unfold goodD errsTo
  rw [show [(k : Int)].length = 1 from rfl, show List.range 1 = [0] from rfl]
  have he : errB m xs (d : Int) [(k : Int)] 0 = !openB m xs (d : Int) k := errB_at (q := k) (by simp) rfl
  cases h : openB m xs (d : Int) k <;> simp [he, h]
/-- days for a way of one cell are those on which it is not closed -/
theorem days_one {m : MapV} {xs : List Area} {k : Nat} (hA : areasB m xs = true) (hC : isC m (k : Int) = true) :
    (daysWay m xs [(k : Int)]).2.2 = decide (shutN m xs k 365 < 365) ∧ shutN m xs k 365 ≤ 365 ∧ ((daysWay m xs [(k : Int)]).2.2 = true → (daysWay m xs [(k : Int)]).2.1 = 365 - (shutN m xs k 365 : Int) ∧ (daysWay m xs [(k : Int)]).1 ≤ (shutN m xs k 365 : Int)) := by
  have hW : wayB m [(k : Int)] = true := by
    unfold wayB
    rw [Bool.and_eq_true]
    refine ⟨?_, by rfl⟩
    rw [show [(k : Int)].length = 1 from rfl]
    exact allTo_succ (allTo_zero _) (wayAt_zero (by simp) hC)
  have hg : goodD m xs [(k : Int)] = fun d : Nat => openB m xs (d : Int) k := funext fun d => good_one
  have hs := filter_both (fun d : Nat => openB m xs (d : Int) k) 365
  have hl : (okDays m xs [(k : Int)] 365).length + shutN m xs k 365 = 365 := by
    unfold okDays shutN
    rw [hg]
    exact hs
  unfold daysWay
  rw [hA, hW]
  simp only [Bool.and_self, if_true]
  refine ⟨?_, by omega, fun h => ?_⟩
  · exact decide_eq_decide.2 (by omega)
  · simp only [decide_eq_true_eq] at h
    obtain ⟨g, g1, g2, g3, g4, g5⟩ := filter_first (goodD m xs [(k : Int)]) 365 (by unfold okDays at h; omega)
    have hh : headN (okDays m xs [(k : Int)] 365) = (g : Int) := by unfold headN okDays; rw [g4]
    have hl' : (okDays m xs [(k : Int)] 365).length + g ≤ 365 := g5
    rw [hh]
    omega

/-- what a table of closed days says, whether there is one or not -/
theorem closed_all (m : MapV) (xs : List Area) (cell : Int) : ∃ ps : List (Int × Int), (closedDays m xs cell).getD [] = ps.map rowP ∧ ps.length ≤ 365 ∧
    (∀ p ∈ ps, 0 ≤ p.1 ∧ p.1 ≤ p.2 ∧ p.2 < 365 ∧ openCells m xs p.1 = some (openTo m xs p.1 m.cost.length) ∧ hasI (openTo m xs p.1 m.cost.length) cell = false) ∧
    (∀ k : Nat, k ≤ ps.length → 0 ≤ sumP (ps.take k) ∧ sumP (ps.take k) ≤ 365 * k) ∧ 0 ≤ sumP ps ∧ sumP ps ≤ 365 ∧
    ((closedDays m xs cell).isSome = true → (daysWay m xs [cell]).2.2 = decide (sumP ps < 365) ∧ ((daysWay m xs [cell]).2.2 = true → (daysWay m xs [cell]).2.1 = 365 - sumP ps ∧ (daysWay m xs [cell]).1 ≤ sumP ps)) := by
  cases h : closedDays m xs cell with
  | none => exact ⟨[], rfl, by simp, by simp, fun k _ => ⟨by simp [sumP], by simp [sumP]; omega⟩, by simp [sumP], by simp [sumP], fun h => by cases h⟩
  | some R =>
    obtain ⟨ps, k, rfl, hl, rfl, hk, hA, hp, hs, hM, hC⟩ := closed_facts h
    obtain ⟨d1, d2, d3⟩ := days_one hA hC
    refine ⟨ps, rfl, hl, fun p h1 => ?_, fun j hj => sumP_small hp j hj, by omega, by omega, fun _ => ⟨?_, fun h2 => ?_⟩⟩
    · obtain ⟨e1, e2⟩ := span_shut hA (hp p h1)
      obtain ⟨a, b, c, -⟩ := hp p h1
      exact ⟨a, b, c, e1, e2⟩
    · rw [d1]
      exact decide_eq_decide.2 (by omega)
    · obtain ⟨e1, e2⟩ := d3 h2
      exact ⟨by omega, by omega⟩

theorem rising_head {lo hi c : Int} {l : List Int} (h : risingB lo hi (c :: l) = true) : inB c lo hi = true := by
  unfold risingB at h
  have h0 := allTo_at h (k := 0) (by simp)
  simp [risingAt] at h0
  exact h0
theorem insA_has (a : Area) : ∀ xs, a ∈ insA a xs
  | [] => by simp [insA]
  | x :: l => by
    have ih := insA_has a l
    simp only [insA]
    split <;> simp [ih]
/-- an added area is found at its first cell on its first day -/
theorem added {m : MapV} {xs R : List Area} {a : Area} (h : addArea m xs a = some R) : ∃ (c : Int) (l : List Int), a.cells = c :: l ∧ areasAt m R c a.first = some (atL c a.first R) ∧ hasI (atL c a.first R) a.id = true := by
  obtain ⟨rfl, hR⟩ := addArea_cases h
  obtain ⟨hM, -, hO, -⟩ := areasB_at hR
  have hmem := insA_has a xs
  obtain ⟨i, hi, e⟩ := List.mem_iff_getElem.1 hmem
  have hok := hO i hi
  rw [e] at hok
  obtain ⟨h1, h2, h3, h4, h5⟩ := areaOK_facts hok
  cases hc : a.cells with
  | nil => exact absurd hc h2
  | cons c l =>
    rw [hc] at h3
    have hcell : isCellB m c = true := by
      rw [← isCellB_of hM]
      exact rising_head h3
    refine ⟨c, l, rfl, ?_, ?_⟩
    · unfold areasAt
      rw [hR, hcell, inB_mk h4]
      rfl
    · rw [hasI_mem]
      unfold atL
      refine List.mem_map.2 ⟨a, List.mem_filter.2 ⟨hmem, ?_⟩, rfl⟩
      unfold closesB
      rw [inB_mk ⟨Int.le_refl _, h5.1⟩, hc, Bool.true_and]
      exact (hasI_mem _ _).2 (by simp)
theorem added_all {m : MapV} {xs : List Area} {a : Area} (h : (addArea m xs a).isSome = true) : ∃ (c : Int) (l : List Int), a.cells = c :: l ∧ areasAt m ((addArea m xs a).getD []) c a.first = some (atL c a.first ((addArea m xs a).getD [])) ∧ hasI (atL c a.first ((addArea m xs a).getD [])) a.id = true := by
  cases hR : addArea m xs a with
  | none => rw [hR] at h; cases h
  | some R => exact added hR


theorem cell_lt {w : World} {a : Addr} {v : Value} (h : w.cell? a = some v) : a.block < w.heap.size := by
  by_cases hlt : a.block < w.heap.size
  · exact hlt
  · unfold World.cell? at h
    rw [Array.getElem?_eq_none (by omega)] at h
    cases h
theorem row_two {w : World} {lo mm : Nat} {B : Option Addr} {p q : Int} (h : Sees w lo 1 B mm (ints [p, q])) : mm = 2 ∧ ∃ b off, B = some ⟨b, off, none⟩ ∧ w.cell? ⟨b, off, none⟩ = some (.int .i64 p) ∧ w.cell? ⟨b, off + 1, none⟩ = some (.int .i64 q) := by
  have hl := h.icount
  obtain rfl : mm = 2 := by simpa using hl.symm
  obtain ⟨b, off, rfl, h0, x0⟩ := h.int (k := 0) (by decide)
  obtain ⟨b', off', e, h1, x1⟩ := h.int (k := 1) (by decide)
  injection e with e
  injection e with e1 e2
  subst e1
  subst e2
  exact ⟨rfl, b, off, rfl, x0, x1⟩
set_option maxRecDepth 100000 in
set_option maxHeartbeats 20000000 in
theorem FnClosures_any (A0 : Option Addr) (n0 c0 : Nat) (w : World) (hC : CodeIn w A0 n0) (hn : n0 ≤ 9223372036854775807) :
    Calls Try.prog 12 #[.slice A0 n0 c0] w fun e w' => e = .returned (.bool true) ∧ Below w.heap.size w w' := by
  have K := Below.refl w.heap.size w
  go_enter Try.func12, Try.ntmps12
  go_wp2_with fail
  refine (rBig_any A0 n0 c0 w hn).mono ?_
  rintro e w' ⟨rfl, rfl⟩
  by_cases hbig : 65536 < n0
  · rw [decide_eq_true hbig]
    go_wp2_with fail
    go_ret
    exact ⟨rfl, K⟩
  rw [decide_eq_false hbig]
  go_wp2_with fail
  refine (drawDaysForWay_any w A0 n0 c0 hC (by omega)).mono ?_
  rintro e w1 ⟨m, A1, n1, c1, A2, n2, c2, A, k, c, xs, Y, ny, cy, ys, rfl, MA, sy, hny, b⟩
  replace hC := hC.next b
  replace K := bel_then K b
  clear b
  obtain ⟨sm, arr, -, ⟨hn12, -, hk, hcn⟩⟩ := MA
  have sx := arr.sees
  have hn' : n1 ≤ 1048576 ∧ n2 ≤ 1048576 := by omega
  have hi : ∀ x ∈ xs, x.cnt ≤ 1048576 := fun x hx => Nat.le_trans (hcn x hx) (by decide)
  clear arr hcn hn12
  have U : Below w1.heap.size w1 (w1.alloc (.cells #[.int .i64 m.width, .int .i64 m.height, .slice A1 n1 c1, .slice A2 n2 c2] 29)) := (Below.refl _ _).alloc (Nat.le_refl _) _
  have Bm : Blk (w1.alloc (.cells #[.int .i64 m.width, .int .i64 m.height, .slice A1 n1 c1, .slice A2 n2 c2] 29)) w1.heap.size 29 [.int .i64 m.width, .int .i64 m.height, .slice A1 n1 c1, .slice A2 n2 c2] := Blk.at_ rfl
  replace hC := hC.next U
  replace sm := sm.next U
  replace sx := sx.next U
  replace sy := sy.next U
  replace K := bel_then K U
  clear U
  have cm := Bm.cell
  go_wp2_with fail
  generalize (w1.alloc (.cells #[.int .i64 m.width, .int .i64 m.height, .slice A1 n1 c1, .slice A2 n2 c2] 29)) = w2 at *
  generalize w1.heap.size = gm at *
  refine (DaysForWay_any A1 A2 n1 n2 c1 c2 m A k c xs Y ny cy ys w2 sm hn' sx (by omega) hi sy (by omega)).mono ?_
  rintro e w3 ⟨rfl, b⟩
  clear cm
  replace hC := hC.next b
  replace sm := sm.next b
  replace sx := sx.next b
  replace Bm := Bm.next b
  replace sy := sy.next b
  replace K := bel_then K b
  clear b
  have HF := Lib.hid (fun (h : (daysWay m xs ys).2.2 = true) => days_first h)
  obtain ⟨⟨D, N, O⟩, hR⟩ : ∃ R, daysWay m xs ys = R := ⟨_, rfl⟩
  have HR := Lib.hid hR
  rw [hR] at HF
  rw [hR]
  clear hR
  dsimp only at HF ⊢
  have cm := Bm.cell
  go_wp2_with fail
  refine (specDaysForWay_any A1 A2 n1 n2 c1 c2 m A k c xs Y ny cy ys w3 sm hn' sx (by omega) hi sy (by omega)).mono ?_
  rw [HR.out]
  rintro e w4 ⟨rfl, b⟩
  clear cm HR
  replace hC := hC.next b
  replace sm := sm.next b
  replace sx := sx.next b
  replace Bm := Bm.next b
  replace sy := sy.next b
  replace K := bel_then K b
  clear b
  have cm := Bm.cell
  have e1 : (D != D) = false := bne_self_eq_false D
  have e2 : (N != N) = false := bne_self_eq_false N
  have e3 : (O != O) = false := bne_self_eq_false O
  go_upto_if 84 with fail
  clear e1 e2 e3
  go_cut [12, 13, 14, 15] from 84 to 124 (fun s12 s13 s14 s15 wr => CodeIn wr A0 n0 ∧ Below w.heap.size w wr)
  case first =>
    cases O
    · go_wp2_with fail
      go_meet
      exact ⟨hC, K⟩
    · obtain ⟨f1, f2, f3, f4, f5, f6⟩ := HF.out rfl
      clear HF
      obtain ⟨D1, hD1⟩ : ∃ D1, D - 1 = D1 := ⟨_, rfl⟩
      rw [hD1] at f2
      have HD1 := Lib.hid hD1
      have hw1 : ¬ N < 1 := by omega
      have hw2 : ¬ 365 - D < N := by omega
      have HF1 := Lib.hid f1
      have HF2 := Lib.hid (show ((wayErrs m xs D1 ys).isSome = false ∨ (wayErrs m xs D1 ys).isSome = true ∧ ((((wayErrs m xs D1 ys).getD []).length : Int) == 0) = false) from by
        cases hw : wayErrs m xs D1 ys with
        | none => exact .inl rfl
        | some E => rw [hw] at f2; exact .inr ⟨rfl, beq_eq_false_iff_ne.2 (by have := f2 rfl; omega)⟩)
      clear f1 f2 hD1
      go_wp2_with fail
      refine (WayErrors_any A1 A2 n1 n2 c1 c2 m A k c xs D Y ny cy ys w4 sm hn' sx (by omega) hi sy (by omega)).mono ?_
      rw [HF1.out]
      rintro e w5 ⟨AO, cO, rfl, oO, b⟩
      clear cm oO HF1
      replace hC := hC.next b
      replace sm := sm.next b
      replace sx := sx.next b
      replace Bm := Bm.next b
      replace sy := sy.next b
      replace K := bel_then K b
      clear b
      simp only [Option.getD_some, Option.isSome_some, List.length_nil]
      have cm := Bm.cell
      go_wp2_with fail
      rw [HD1.out]
      refine (WayErrors_any A1 A2 n1 n2 c1 c2 m A k c xs D1 Y ny cy ys w5 sm hn' sx (by omega) hi sy (by omega)).mono ?_
      rintro e w6 ⟨AO, cO, rfl, oO, b⟩
      clear cm oO
      replace hC := hC.next b
      replace sm := sm.next b
      replace sx := sx.next b
      replace Bm := Bm.next b
      replace sy := sy.next b
      replace K := bel_then K b
      clear b
      have hE := HF2.out
      have hEl := wayErrs_len m xs D1 ys
      clear HF2 HD1
      generalize ((wayErrs m xs D1 ys).getD []).length = E at *
      generalize (wayErrs m xs D1 ys).isSome = e0 at *
      rcases hE with rfl | ⟨rfl, hE⟩
      · go_wp2_with fail
        go_meet
        exact ⟨hC, K⟩
      · go_wp2_with fail
        go_meet
        exact ⟨hC, K⟩
  case rest =>
    clear hC K HF Bm sm sx sy cm hi hk hn' hny
    obtain ⟨hC, K⟩ := hcut
    obtain ⟨w7, rfl⟩ : ∃ w' : World, w' = wc := ⟨_, rfl⟩
    go_wp2_with fail
    refine (drawClosedDays_any w7 A0 n0 c0 hC (by omega)).mono ?_
    rintro e w8 ⟨m, A1, n1, c1, A2, n2, c2, A, k, c, xs, cl, rfl, MA, b⟩
    replace hC := hC.next b
    replace K := bel_then K b
    clear b
    obtain ⟨sm, arr, -, ⟨hn12, -, hk, hcn⟩⟩ := MA
    have sx := arr.sees
    have hn' : n1 ≤ 1048576 ∧ n2 ≤ 1048576 := by omega
    have hi : ∀ x ∈ xs, x.cnt ≤ 1048576 := fun x hx => Nat.le_trans (hcn x hx) (by decide)
    clear arr hcn hn12
    have U : Below w8.heap.size w8 (w8.alloc (.cells #[.int .i64 m.width, .int .i64 m.height, .slice A1 n1 c1, .slice A2 n2 c2] 29)) := (Below.refl _ _).alloc (Nat.le_refl _) _
    have Bm : Blk (w8.alloc (.cells #[.int .i64 m.width, .int .i64 m.height, .slice A1 n1 c1, .slice A2 n2 c2] 29)) w8.heap.size 29 [.int .i64 m.width, .int .i64 m.height, .slice A1 n1 c1, .slice A2 n2 c2] := Blk.at_ rfl
    replace hC := hC.next U
    replace sm := sm.next U
    replace sx := sx.next U
    replace K := bel_then K U
    clear U
    have cm := Bm.cell
    go_wp2_with fail
    generalize (w8.alloc (.cells #[.int .i64 m.width, .int .i64 m.height, .slice A1 n1 c1, .slice A2 n2 c2] 29)) = w9 at *
    generalize w8.heap.size = gm at *
    refine (ClosedDays_any A1 A2 n1 n2 c1 c2 m A k c xs cl w9 sm hn' sx (by omega) hi).mono ?_
    rintro e w10 ⟨AR, cR, rfl, MR, b⟩
    clear cm
    replace hC := hC.next b
    replace sm := sm.next b
    replace sx := sx.next b
    replace Bm := Bm.next b
    replace K := bel_then K b
    clear b
    have SR := MR.sees
    clear MR
    have cm := Bm.cell
    go_wp2_with fail
    refine (specClosedDays_any A1 A2 n1 n2 c1 c2 m A k c xs cl w10 sm hn' sx (by omega) hi).mono ?_
    rintro e w11 ⟨AP, cP, rfl, MP, b⟩
    clear cm
    replace hC := hC.next b
    replace sm := sm.next b
    replace sx := sx.next b
    replace Bm := Bm.next b
    replace SR := SR.next b
    replace K := bel_then K b
    clear b
    have SP := MP.sees
    clear MP
    have hRc := closedDays_cnt m xs cl
    obtain ⟨ps, hps, hpl, hp, hsum, hs0, hs1, hF⟩ := closed_all m xs cl
    have HP := Lib.hid hp
    have HSUM := Lib.hid hsum
    have HF := Lib.hid hF
    clear hp hsum hF
    obtain ⟨o0, ho0⟩ : ∃ o0, (closedDays m xs cl).isSome = o0 := ⟨_, rfl⟩
    rw [ho0] at HF
    rw [hps] at SR SP hRc
    rw [hps, ho0]
    clear hps ho0
    simp only [List.length_map] at SR SP ⊢
    have hoo : (o0 != o0) = false := bne_self_eq_false o0
    go_wp2_with fail
    refine (rTable_any AR AP _ _ cR cP 0 0 (ps.map rowP) (ps.map rowP) w11 SR SP rfl (by omega) hRc).mono ?_
    rintro e w12 ⟨rfl, qq⟩
    clear SP hoo hRc
    have b := qq.below w11.heap.size
    replace hC := hC.next b
    replace sm := sm.next b
    replace sx := sx.next b
    replace Bm := Bm.next b
    replace SR := SR.next b
    replace K := bel_then K b
    clear b
    clear qq
    go_upto_block 0 with fail
    go_cut [23, 24] from 154 to 194 (fun s23 s24 wr => s23 = .int .i64 (sumP ps) ∧ Blk wr gm 29 [.int .i64 m.width, .int .i64 m.height, .slice A1 n1 c1, .slice A2 n2 c2] ∧ SeesMap wr A1 n1 A2 n2 m ∧ SeesN areaSh wr 0 A k xs ∧ CodeIn wr A0 n0 ∧ Below w.heap.size w wr)
    case first =>
      go_wp2_with fail
      go_loopw [23, 24] (fun cv iv wr => ∃ (i : Nat) (Q : Int), i ≤ ps.length ∧ iv = .int .i64 (i : Int) ∧ cv = .int .i64 Q ∧ Hid (sumP (ps.take i) = Q) ∧ Blk wr gm 29 [.int .i64 m.width, .int .i64 m.height, .slice A1 n1 c1, .slice A2 n2 c2] ∧ SeesMap wr A1 n1 A2 n2 m ∧ SeesN areaSh wr 0 A k xs ∧ SeesN rowSh wr 0 AR ps.length (ps.map rowP) ∧ CodeIn wr A0 n0 ∧ Below w.heap.size w wr) (fun _ iv _ => ps.length - (intOf iv).toNat)
      case atStart => exact ⟨0, 0, Nat.zero_le _, rfl, rfl, Lib.hid rfl, Bm, sm, sx, SR, hC, K⟩
      case round =>
        clear Bm sm sx SR hC K
        obtain ⟨i, Q, hi0, rfl, rfl, HQ, Bm, sm, sx, SR, hC, K⟩ := hrel
        by_cases hlt : i < ps.length
        · obtain ⟨b3, o3, B0, mm, dd, rfl, hkx, x3, r3⟩ := SeesRow.elem SR hlt
          obtain ⟨⟨p, q⟩, hpq⟩ : ∃ r, ps[i] = r := ⟨_, rfl⟩
          rw [show (ps.map rowP)[i] = [p, q] by simp [hpq, rowP]] at r3
          obtain ⟨rfl, b4, o4, rfl, y0, y1⟩ := row_two r3
          have hin := HP.out (p, q) (hpq ▸ List.getElem_mem hlt)
          obtain ⟨h1, h2, h3, hOC, hHas⟩ := hin
          dsimp only at h1 h2 h3 hOC hHas
          have HOC := Lib.hid hOC
          have HHAS := Lib.hid hHas
          clear hOC hHas
          have hQ := HSUM.out i (by omega)
          have hQn := sumP_next hlt
          rw [HQ.out] at hQ hQn
          rw [hpq] at hQn
          dsimp only at hQn
          obtain ⟨v1, hv1⟩ : ∃ v1, Q + q = v1 := ⟨_, rfl⟩
          obtain ⟨v2, hv2⟩ : ∃ v2, v1 - p = v2 := ⟨_, rfl⟩
          obtain ⟨v3, hv3⟩ : ∃ v3, v2 + 1 = v3 := ⟨_, rfl⟩
          have hz1 : IntKind.i64.wrap (Q + q) = v1 := by rw [IntWalk.i64_in _ (by omega), hv1]
          have hz2 : IntKind.i64.wrap (v1 - p) = v2 := by rw [IntWalk.i64_in _ (by omega), hv2]
          have hz3 : IntKind.i64.wrap (v2 + 1) = v3 := by rw [IntWalk.i64_in _ (by omega), hv3]
          have HQ3 := Lib.hid (show sumP (ps.take (i + 1)) = v3 by rw [hQn]; omega)
          clear hQn hv1 hv2 hv3 hpq HQ HSUM HP HF hs0 hs1 hQ
          have hi365 : i ≤ 365 := by omega
          have cm := Bm.cell
          go_upto_region 24 with fail
          have b := (Quiet.one wr).below wr.heap.size
          replace hC := hC.next b
          replace sm := sm.next b
          replace sx := sx.next b
          replace Bm := Bm.next b
          replace SR := SR.next b
          replace K := bel_then K b
          clear b
          replace x3 : (wr).drew.cell? ⟨b3, o3 + i, none⟩ = some (.slice (some ⟨b4, o4, none⟩) 2 dd) := x3
          replace y0 : (wr).drew.cell? ⟨b4, o4, none⟩ = some (.int .i64 p) := y0
          replace y1 : (wr).drew.cell? ⟨b4, o4 + 1, none⟩ = some (.int .i64 q) := y1
          clear cm
          have cm := Bm.cell
          refine wp_region_still_tail 16 (by kernel_rfl) (by kernel_rfl) ?_
          simp only [List.take_succ_cons, List.take_zero, List.drop_succ_cons, List.drop_zero]
          change wpStill _ _ wr.drew _ _ _
          repeat still_step
          refine wpStill_nil ?_
          change wpList _ _ _ _ _ wr.drew
          generalize wr.drew = w12a at *
          go_wp2_with fail
          have b := (Quiet.one w12a).below w12a.heap.size
          replace hC := hC.next b
          replace sm := sm.next b
          replace sx := sx.next b
          replace Bm := Bm.next b
          replace SR := SR.next b
          replace K := bel_then K b
          clear b
          replace x3 : (w12a).drew.cell? ⟨b3, o3 + i, none⟩ = some (.slice (some ⟨b4, o4, none⟩) 2 dd) := x3
          replace y0 : (w12a).drew.cell? ⟨b4, o4, none⟩ = some (.int .i64 p) := y0
          replace y1 : (w12a).drew.cell? ⟨b4, o4 + 1, none⟩ = some (.int .i64 q) := y1
          clear cm y1
          have cm := Bm.cell
          have Kq := K
          clear K
          go_wp2_with fail
          refine wp_region_held_drew (S := fun w' => w'.cell? ⟨gm, 0, none⟩ = some (.int .i64 m.width) ∧ w'.cell? ⟨gm, 1, none⟩ = some (.int .i64 m.height) ∧ w'.cell? ⟨gm, 2, none⟩ = some (.slice A1 n1 c1) ∧ w'.cell? ⟨gm, 3, none⟩ = some (.slice A2 n2 c2) ∧ w'.cell? ⟨b3, o3 + i, none⟩ = some (.slice (some ⟨b4, o4, none⟩) 2 dd) ∧ w'.cell? ⟨b4, o4, none⟩ = some (.int .i64 p)) (by kernel_rfl) (by (try dsimp only); exact ⟨cm 0, cm 1, cm 2, cm 3, x3, y0⟩) (fun hHeld => ?_)
          refine wpAnyH_take (i := 0) (v := ?_) rfl (by kernel_rfl) (by kernel_rfl) (by kernel_rfl) (fun _ _ _ h => h) (Or.inl ⟨by rfl, ?_⟩) (by assumption) ?_
          rotate_left 1
          · (intro w hSw; (try dsimp only at hSw); go_simp; try with_reducible rfl)
          simp only [Act.put, List.setIfInBounds_toArray, List.set_cons_zero, List.set_cons_succ, List.getElem_toArray, List.getElem_cons_zero]
          refine wpAnyH_take (i := 1) (v := ?_) rfl (by kernel_rfl) (by kernel_rfl) (by kernel_rfl) (fun _ _ _ h => h) (Or.inl ⟨by rfl, ?_⟩) (by assumption) ?_
          rotate_left 1
          · (intro w hSw; (try dsimp only at hSw); go_simp; try with_reducible rfl)
          simp only [Act.put, List.setIfInBounds_toArray, List.set_cons_zero, List.set_cons_succ, List.getElem_toArray, List.getElem_cons_zero, List.getElem_cons_succ]
          refine wpAnyH_take (i := 2) (v := ?_) rfl (by kernel_rfl) (by kernel_rfl) (by kernel_rfl) (fun _ _ _ h => h) (Or.inl ⟨by rfl, ?_⟩) (by assumption) ?_
          rotate_left 1
          · (intro w hSw; (try dsimp only at hSw); go_simp; try with_reducible rfl)
          simp only [Act.put, List.setIfInBounds_toArray, List.set_cons_zero, List.set_cons_succ, List.getElem_toArray, List.getElem_cons_zero, List.getElem_cons_succ]
          refine wpAnyH_take (i := 3) (v := ?_) rfl (by kernel_rfl) (by kernel_rfl) (by kernel_rfl) (fun _ _ _ h => h) (Or.inl ⟨by rfl, ?_⟩) (by assumption) ?_
          rotate_left 1
          · (intro w hSw; (try dsimp only at hSw); go_simp; try with_reducible rfl)
          simp only [Act.put, List.setIfInBounds_toArray, List.set_cons_zero, List.set_cons_succ, List.getElem_toArray, List.getElem_cons_zero, List.getElem_cons_succ]
          refine wpAnyH_take (i := 4) (v := ?_) rfl (by kernel_rfl) (by kernel_rfl) (by kernel_rfl) (fun _ _ _ h => h) (Or.inl ⟨by rfl, ?_⟩) (by assumption) ?_
          rotate_left 1
          · (intro w hSw; (try dsimp only at hSw); go_simp; try with_reducible rfl)
          simp only [Act.put, List.setIfInBounds_toArray, List.set_cons_zero, List.set_cons_succ, List.getElem_toArray, List.getElem_cons_zero, List.getElem_cons_succ]
          refine wpAnyH_take (i := 5) (v := ?_) rfl (by kernel_rfl) (by kernel_rfl) (by kernel_rfl) (fun _ _ _ h => h) (Or.inl ⟨by rfl, ?_⟩) (by assumption) ?_
          rotate_left 1
          · (intro w hSw; (try dsimp only at hSw); go_simp; try with_reducible rfl)
          simp only [Act.put, List.setIfInBounds_toArray, List.set_cons_zero, List.set_cons_succ, List.getElem_toArray, List.getElem_cons_zero, List.getElem_cons_succ]
          refine wpAnyH_take (i := 6) (v := ?_) rfl (by kernel_rfl) (by kernel_rfl) (by kernel_rfl) (fun _ _ _ h => h) (Or.inl ⟨by rfl, ?_⟩) (by assumption) ?_
          rotate_left 1
          · (intro w hSw; (try dsimp only at hSw); go_simp; try with_reducible rfl)
          simp only [Act.put, List.setIfInBounds_toArray, List.set_cons_zero, List.set_cons_succ, List.getElem_toArray, List.getElem_cons_zero, List.getElem_cons_succ]
          refine wpAnyH_take (i := 7) (v := ?_) rfl (by kernel_rfl) (by kernel_rfl) (by kernel_rfl) (fun _ _ _ h => h) (Or.inl ⟨by rfl, ?_⟩) (by assumption) ?_
          rotate_left 1
          · (intro w hSw; (try dsimp only at hSw); go_simp; try with_reducible rfl)
          simp only [Act.put, List.setIfInBounds_toArray, List.set_cons_zero, List.set_cons_succ, List.getElem_toArray, List.getElem_cons_zero, List.getElem_cons_succ]
          refine wpAnyH_ready (rs := [8]) (by kernel_rfl) (by simp) ?_
          refine AllReadyH.cons rfl (fun K hK => ?_) AllReadyH.nil
          go_simp
          refine (OpenCells_any A1 A2 n1 n2 c1 c2 m A k c xs p _ sm hn' sx (by omega) hi).mono ?_
          rw [HOC.out]
          rintro e w14 ⟨AO, cO, rfl, oO, b⟩
          replace x3 := (b.cell (cell_lt x3)).trans x3
          replace y0 := (b.cell (cell_lt y0)).trans y0
          clear cm
          replace hC := hC.next b
          replace sm := sm.next b
          replace sx := sx.next b
          replace Bm := Bm.next b
          replace SR := SR.next b
          replace Kq := bel_then Kq b
          clear b
          have SO := (Sees.of_own oO).less (Nat.zero_le _)
          clear oO
          simp only [Option.getD_some, Option.isSome_some] at SO ⊢
          have cm := Bm.cell
          go_wp2_with fail
          refine hK.out _ _ (by (try dsimp only); exact ⟨cm 0, cm 1, cm 2, cm 3, x3, y0⟩) (fun hHeld => ?_)
          clear hK K
          refine wpAnyH_take (i := 9) (v := ?_) rfl (by kernel_rfl) (by kernel_rfl) (by kernel_rfl) (fun _ _ _ h => h) (Or.inl ⟨by rfl, ?_⟩) (by assumption) ?_
          rotate_left 1
          · (intro w hSw; (try dsimp only at hSw); go_simp; try with_reducible rfl)
          simp only [Act.put, List.setIfInBounds_toArray, List.set_cons_zero, List.set_cons_succ, List.getElem_toArray, List.getElem_cons_zero, List.getElem_cons_succ]
          refine wpAnyH_take (i := 10) (v := ?_) rfl (by kernel_rfl) (by kernel_rfl) (by kernel_rfl) (fun _ _ _ h => h) (Or.inl ⟨by rfl, ?_⟩) (by assumption) ?_
          rotate_left 1
          · (intro w hSw; (try dsimp only at hSw); go_simp; try with_reducible rfl)
          simp only [Act.put, List.setIfInBounds_toArray, List.set_cons_zero, List.set_cons_succ, List.getElem_toArray, List.getElem_cons_zero, List.getElem_cons_succ]
          refine wpAnyH_take (i := 11) (v := ?_) rfl (by kernel_rfl) (by kernel_rfl) (by kernel_rfl) (fun _ _ _ h => h) (Or.inl ⟨by rfl, ?_⟩) (by assumption) ?_
          rotate_left 1
          · (intro w hSw; (try dsimp only at hSw); go_simp; try with_reducible rfl)
          simp only [Act.put, List.setIfInBounds_toArray, List.set_cons_zero, List.set_cons_succ, List.getElem_toArray, List.getElem_cons_zero, List.getElem_cons_succ]
          refine wpAnyH_take (i := 12) (v := ?_) rfl (by kernel_rfl) (by kernel_rfl) (by kernel_rfl) (fun _ _ _ h => h) (Or.inl ⟨by rfl, ?_⟩) (by assumption) ?_
          rotate_left 1
          · (intro w hSw; (try dsimp only at hSw); go_simp; try with_reducible rfl)
          simp only [Act.put, List.setIfInBounds_toArray, List.set_cons_zero, List.set_cons_succ, List.getElem_toArray, List.getElem_cons_zero, List.getElem_cons_succ]
          refine wpAnyH_take (i := 13) (v := ?_) rfl (by kernel_rfl) (by kernel_rfl) (by kernel_rfl) (fun _ _ _ h => h) (Or.inl ⟨by rfl, ?_⟩) (by assumption) ?_
          rotate_left 1
          · (intro w hSw; (try dsimp only at hSw); go_simp; try with_reducible rfl)
          simp only [Act.put, List.setIfInBounds_toArray, List.set_cons_zero, List.set_cons_succ, List.getElem_toArray, List.getElem_cons_zero, List.getElem_cons_succ]
          refine wpAnyH_done (by kernel_rfl) ?_ _
          have K := Kq
          clear Kq
          clear hz1 hz2 hz3 x3 y0
          go_wp2_with fail
          have hlen := Nat.le_trans (openTo_len m xs p m.cost.length) (Nat.le_of_eq sm.f2.icount)
          refine (rHas_any AO _ cO (openTo m xs p m.cost.length) cl _ SO (by omega)).mono ?_
          rw [HHAS.out]
          rintro e w15 ⟨rfl, qq⟩
          clear SO HHAS HOC hlen cm
          have b := qq.below w14.heap.size
          replace hC := hC.next b
          replace sm := sm.next b
          replace sx := sx.next b
          replace Bm := Bm.next b
          replace SR := SR.next b
          replace K := bel_then K b
          clear b
          clear qq
          go_wp2_with fail
          go_roundw
          case rel => exact ⟨i + 1, v3, by omega, by go_num, rfl, HQ3, Bm, sm, sx, SR, hC, K⟩
          case measure => simp [intOf]; omega
        · obtain rfl : i = ps.length := by omega
          have hQC := HQ.out
          rw [List.take_length] at hQC
          subst hQC
          clear HQ HSUM HP
          go_wp2_with fail
          go_meet
          exact ⟨rfl, Bm, sm, sx, hC, K⟩
    case rest =>
      clear Bm sm sx SR hC K HP HSUM
      obtain ⟨rfl, Bm, sm, sx, hC, K⟩ := hcut
      obtain ⟨w13, rfl⟩ : ∃ w' : World, w' = wc := ⟨_, rfl⟩
      obtain ⟨C, hC0⟩ : ∃ C, sumP ps = C := ⟨_, rfl⟩
      rw [hC0] at HF hs0 hs1 ⊢
      clear hC0
      have cm := Bm.cell
      go_upto_if 195 with fail
      go_cut [27, 28, 29] from 195 to 222 (fun s27 s28 s29 wr => CodeIn wr A0 n0 ∧ Below w.heap.size w wr)
      case first =>
        cases o0
        · go_wp2_with fail
          go_meet
          exact ⟨hC, K⟩
        · obtain ⟨f1, f2⟩ := HF.out rfl
          clear HF
          have U : Below w13.heap.size w13 (w13.alloc (.cells #[.int .i64 cl] 3)) := (Below.refl _ _).alloc (Nat.le_refl _) _
          have sy : Sees (w13.alloc (.cells #[.int .i64 cl] 3)) 0 1 (some ⟨w13.heap.size, 0, none⟩) 1 (ints [cl]) := (show Blk (w13.alloc (.cells #[.int .i64 cl] 3)) w13.heap.size 3 [.int .i64 cl] from Blk.at_ rfl).sees (s := 1) (Nat.zero_le _) rfl
          replace hC := hC.next U
          replace sm := sm.next U
          replace sx := sx.next U
          replace Bm := Bm.next U
          replace K := bel_then K U
          obtain ⟨⟨D, N, O⟩, hR⟩ : ∃ R, daysWay m xs [cl] = R := ⟨_, rfl⟩
          rw [hR] at f1 f2
          have HR := Lib.hid hR
          clear hR U
          dsimp only at f1 f2
          have cm := Bm.cell
          go_wp2_with fail
          refine (DaysForWay_any A1 A2 n1 n2 c1 c2 m A k c xs (some ⟨w13.heap.size, 0, none⟩) 1 1 [cl] _ sm hn' sx (by omega) hi sy (by omega)).mono ?_
          rw [HR.out]
          rintro e w15 ⟨rfl, b⟩
          clear cm sy HR
          replace hC := hC.next b
          replace K := bel_then K b
          clear b
          by_cases hC365 : C < 365
          · rw [decide_eq_true hC365] at f1
            subst f1
            obtain ⟨g1, g2⟩ := f2 rfl
            have g3 : ¬ C < D := by omega
            have g4 : (N != 365 - C) = false := by rw [g1]; exact bne_self_eq_false _
            clear f2 g2 g1
            go_wp2_with fail
            go_meet
            exact ⟨hC, K⟩
          · rw [decide_eq_false hC365] at f1
            subst f1
            clear f2
            go_wp2_with fail
            go_meet
            exact ⟨hC, K⟩
      case rest =>
        clear hC K HF Bm sm sx hn' hi hk hpl hs0 hs1 cm
        obtain ⟨hC, K⟩ := hcut
        obtain ⟨w16, rfl⟩ : ∃ w' : World, w' = wc := ⟨_, rfl⟩
        go_wp2_with fail
        refine (drawAddArea_any w16 A0 n0 c0 hC (by omega)).mono ?_
        rintro e w17 ⟨m, A1, n1, c1, A2, n2, c2, A, k, c, xs, a, Y, ny, cy, rfl, MA, sy, hny, b⟩
        replace hC := hC.next b
        replace K := bel_then K b
        clear b
        obtain ⟨sm, arr, -, ⟨hn12, -, hk, hcn⟩⟩ := MA
        have hsh := arr.shape
        have sx := arr.sees
        have hn' : n1 ≤ 1048576 ∧ n2 ≤ 1048576 := by omega
        have hi : ∀ x ∈ xs, x.cnt ≤ 1048576 := fun x hx => Nat.le_trans (hcn x hx) (by decide)
        clear arr hcn hn12
        have U : Below w17.heap.size w17 ((w17.alloc (.cells #[.int .i64 m.width, .int .i64 m.height, .slice A1 n1 c1, .slice A2 n2 c2] 29)).alloc (.cells #[.int .i64 a.id, .slice Y ny cy, .int .i64 a.first, .int .i64 a.last] 62)) := ((Below.refl _ _).alloc (Nat.le_refl _) _).alloc (by simp) _
        have Bm : Blk ((w17.alloc (.cells #[.int .i64 m.width, .int .i64 m.height, .slice A1 n1 c1, .slice A2 n2 c2] 29)).alloc (.cells #[.int .i64 a.id, .slice Y ny cy, .int .i64 a.first, .int .i64 a.last] 62)) w17.heap.size 29 [.int .i64 m.width, .int .i64 m.height, .slice A1 n1 c1, .slice A2 n2 c2] := (Blk.at_ rfl).alloc _
        have Ba : Blk ((w17.alloc (.cells #[.int .i64 m.width, .int .i64 m.height, .slice A1 n1 c1, .slice A2 n2 c2] 29)).alloc (.cells #[.int .i64 a.id, .slice Y ny cy, .int .i64 a.first, .int .i64 a.last] 62)) (w17.heap.size + 1) 62 [.int .i64 a.id, .slice Y ny cy, .int .i64 a.first, .int .i64 a.last] := Blk.at_ (by simp)
        replace hC := hC.next U
        replace sm := sm.next U
        replace sx := sx.next U
        replace sy := sy.next U
        replace K := bel_then K U
        clear U
        have cm := Bm.cell
        have ca := Ba.cell
        go_wp2_with fail
        generalize ((w17.alloc (.cells #[.int .i64 m.width, .int .i64 m.height, .slice A1 n1 c1, .slice A2 n2 c2] 29)).alloc (.cells #[.int .i64 a.id, .slice Y ny cy, .int .i64 a.first, .int .i64 a.last] 62)) = w18 at *
        generalize w17.heap.size = gm at *
        refine (AddArea_any A1 A2 n1 n2 c1 c2 m A k c xs Y ny cy a w18 sm hn' sx (by omega) hi sy (by omega)).mono ?_
        rintro e w19 ⟨AR, cR, rfl, MR, b⟩
        clear cm ca
        replace hC := hC.next b
        replace sm := sm.next b
        replace sx := sx.next b
        replace Bm := Bm.next b
        replace sy := sy.next b
        replace Ba := Ba.next b
        replace K := bel_then K b
        clear b
        have SR := MR.sees
        clear MR
        have cm := Bm.cell
        have ca := Ba.cell
        go_wp2_with fail
        refine (specAddArea_any A1 A2 n1 n2 c1 c2 m A k c xs Y ny cy a w19 sm hn' sx (by omega) hi sy (by omega) hsh).mono ?_
        rintro e w20 ⟨AP, cP, rfl, MP, b⟩
        clear cm ca hsh
        replace hC := hC.next b
        replace sm := sm.next b
        replace sx := sx.next b
        replace Bm := Bm.next b
        replace sy := sy.next b
        replace Ba := Ba.next b
        replace SR := SR.next b
        replace K := bel_then K b
        clear b
        have SP := MP.sees
        clear MP
        have hRl := addArea_len m xs a
        have hRc := addArea_cnt m xs a hi (by have := sy.icount; omega)
        have HAD := Lib.hid (fun (h : (addArea m xs a).isSome = true) => added_all h)
        obtain ⟨R, hR⟩ : ∃ R, (addArea m xs a).getD [] = R := ⟨_, rfl⟩
        obtain ⟨o0, ho0⟩ : ∃ o0, (addArea m xs a).isSome = o0 := ⟨_, rfl⟩
        rw [hR] at SR SP hRl hRc HAD
        rw [ho0] at HAD
        rw [hR, ho0]
        clear hR ho0
        have hoo : (o0 != o0) = false := bne_self_eq_false o0
        go_wp2_with fail
        refine (rAreas_any AR AP _ _ cR cP 0 0 R R w20 SR SP rfl (by omega) hRc).mono ?_
        rintro e w21 ⟨rfl, qq⟩
        clear SP hoo
        have b := qq.below w20.heap.size
        replace hC := hC.next b
        replace sm := sm.next b
        replace sx := sx.next b
        replace Bm := Bm.next b
        replace sy := sy.next b
        replace Ba := Ba.next b
        replace SR := SR.next b
        replace K := bel_then K b
        clear b
        clear qq
        have cm := Bm.cell
        have ca := Ba.cell
        go_upto_if 252 with fail
        go_cut [37, 38] from 252 to 273 (fun s37 s38 wr => CodeIn wr A0 n0 ∧ Below w.heap.size w wr)
        case first =>
          cases o0
          · go_wp2_with fail
            go_meet
            exact ⟨hC, K⟩
          · obtain ⟨cc, l, hcl, hat, hhas⟩ := HAD.out rfl
            have hat6 := atL_len cc a.first R
            have HAT := Lib.hid hat
            have HHAS := Lib.hid hhas
            clear HAD hat hhas cm ca
            rw [hcl] at sy
            obtain ⟨b4, o4, rfl, h40, y0⟩ := sy.int (k := 0) (by have := sy.icount; simp at this; omega)
            replace y0 : w21.drew.cell? ⟨b4, o4, none⟩ = some (.int .i64 cc) := y0
            have hny1 : 0 < ny := by have := sy.icount; simp at this; omega
            have b := (Quiet.one w21).below w21.heap.size
            replace hC := hC.next b
            replace sm := sm.next b
            replace sx := sx.next b
            replace Bm := Bm.next b
            clear sy
            replace Ba := Ba.next b
            replace SR := SR.next b
            replace K := bel_then K b
            clear b
            have cm := Bm.cell
            have ca := Ba.cell
            have Kq := K
            clear K hcl
            go_wp2_with fail
            refine wp_region_held_drew (S := fun w' => w'.cell? ⟨gm, 0, none⟩ = some (.int .i64 m.width) ∧ w'.cell? ⟨gm, 1, none⟩ = some (.int .i64 m.height) ∧ w'.cell? ⟨gm, 2, none⟩ = some (.slice A1 n1 c1) ∧ w'.cell? ⟨gm, 3, none⟩ = some (.slice A2 n2 c2) ∧ w'.cell? ⟨gm + 1, 1, none⟩ = some (.slice (some ⟨b4, o4, none⟩) ny cy) ∧ w'.cell? ⟨gm + 1, 2, none⟩ = some (.int .i64 a.first) ∧ w'.cell? ⟨b4, o4, none⟩ = some (.int .i64 cc)) (by kernel_rfl) (by (try dsimp only); exact ⟨cm 0, cm 1, cm 2, cm 3, ca 1, ca 2, y0⟩) (fun hHeld => ?_)
            refine wpAnyH_take (i := 0) (v := ?_) rfl (by kernel_rfl) (by kernel_rfl) (by kernel_rfl) (fun _ _ _ h => h) (Or.inl ⟨by rfl, ?_⟩) (by assumption) ?_
            rotate_left 1
            · (intro w hSw; (try dsimp only at hSw); go_simp; try with_reducible rfl)
            simp only [Act.put, List.setIfInBounds_toArray, List.set_cons_zero, List.set_cons_succ, List.getElem_toArray, List.getElem_cons_zero]
            refine wpAnyH_take (i := 1) (v := ?_) rfl (by kernel_rfl) (by kernel_rfl) (by kernel_rfl) (fun _ _ _ h => h) (Or.inl ⟨by rfl, ?_⟩) (by assumption) ?_
            rotate_left 1
            · (intro w hSw; (try dsimp only at hSw); go_simp; try with_reducible rfl)
            simp only [Act.put, List.setIfInBounds_toArray, List.set_cons_zero, List.set_cons_succ, List.getElem_toArray, List.getElem_cons_zero, List.getElem_cons_succ]
            refine wpAnyH_take (i := 2) (v := ?_) rfl (by kernel_rfl) (by kernel_rfl) (by kernel_rfl) (fun _ _ _ h => h) (Or.inl ⟨by rfl, ?_⟩) (by assumption) ?_
            rotate_left 1
            · (intro w hSw; (try dsimp only at hSw); go_simp; try with_reducible rfl)
            simp only [Act.put, List.setIfInBounds_toArray, List.set_cons_zero, List.set_cons_succ, List.getElem_toArray, List.getElem_cons_zero, List.getElem_cons_succ]
            refine wpAnyH_take (i := 3) (v := ?_) rfl (by kernel_rfl) (by kernel_rfl) (by kernel_rfl) (fun _ _ _ h => h) (Or.inl ⟨by rfl, ?_⟩) (by assumption) ?_
            rotate_left 1
            · (intro w hSw; (try dsimp only at hSw); go_simp; try with_reducible rfl)
            simp only [Act.put, List.setIfInBounds_toArray, List.set_cons_zero, List.set_cons_succ, List.getElem_toArray, List.getElem_cons_zero, List.getElem_cons_succ]
            refine wpAnyH_take (i := 4) (v := ?_) rfl (by kernel_rfl) (by kernel_rfl) (by kernel_rfl) (fun _ _ _ h => h) (Or.inl ⟨by rfl, ?_⟩) (by assumption) ?_
            rotate_left 1
            · (intro w hSw; (try dsimp only at hSw); go_simp; try with_reducible rfl)
            simp only [Act.put, List.setIfInBounds_toArray, List.set_cons_zero, List.set_cons_succ, List.getElem_toArray, List.getElem_cons_zero, List.getElem_cons_succ]
            refine wpAnyH_take (i := 5) (v := ?_) rfl (by kernel_rfl) (by kernel_rfl) (by kernel_rfl) (fun _ _ _ h => h) (Or.inl ⟨by rfl, ?_⟩) (by assumption) ?_
            rotate_left 1
            · (intro w hSw; (try dsimp only at hSw); go_simp; try with_reducible rfl)
            simp only [Act.put, List.setIfInBounds_toArray, List.set_cons_zero, List.set_cons_succ, List.getElem_toArray, List.getElem_cons_zero, List.getElem_cons_succ]
            refine wpAnyH_take (i := 6) (v := ?_) rfl (by kernel_rfl) (by kernel_rfl) (by kernel_rfl) (fun _ _ _ h => h) (Or.inl ⟨by rfl, ?_⟩) (by assumption) ?_
            rotate_left 1
            · (intro w hSw; (try dsimp only at hSw); go_simp; try with_reducible rfl)
            simp only [Act.put, List.setIfInBounds_toArray, List.set_cons_zero, List.set_cons_succ, List.getElem_toArray, List.getElem_cons_zero, List.getElem_cons_succ]
            refine wpAnyH_take (i := 7) (v := ?_) rfl (by kernel_rfl) (by kernel_rfl) (by kernel_rfl) (fun _ _ _ h => h) (Or.inl ⟨by rfl, ?_⟩) (by assumption) ?_
            rotate_left 1
            · (intro w hSw; (try dsimp only at hSw); go_simp; try with_reducible rfl)
            simp only [Act.put, List.setIfInBounds_toArray, List.set_cons_zero, List.set_cons_succ, List.getElem_toArray, List.getElem_cons_zero, List.getElem_cons_succ]
            refine wpAnyH_ready (rs := [8]) (by kernel_rfl) (by simp) ?_
            refine AllReadyH.cons rfl (fun K hK => ?_) AllReadyH.nil
            go_simp
            refine (AreasAt_any A1 A2 n1 n2 c1 c2 m AR R.length cR R cc a.first _ sm hn' SR (by omega) hRc).mono ?_
            rw [HAT.out]
            rintro e w22 ⟨AI, cI, rfl, oI, b⟩
            replace y0 := (b.cell (cell_lt y0)).trans y0
            clear cm ca
            replace hC := hC.next b
            replace sm := sm.next b
            replace sx := sx.next b
            replace Bm := Bm.next b
            replace Ba := Ba.next b
            replace SR := SR.next b
            replace Kq := bel_then Kq b
            clear b
            have SI := (Sees.of_own oI).less (Nat.zero_le _)
            clear oI
            simp only [Option.getD_some, Option.isSome_some] at SI ⊢
            have cm := Bm.cell
            have ca := Ba.cell
            go_wp2_with fail
            refine hK.out _ _ (by (try dsimp only); exact ⟨cm 0, cm 1, cm 2, cm 3, ca 1, ca 2, y0⟩) (fun hHeld => ?_)
            clear hK K
            refine wpAnyH_take (i := 9) (v := ?_) rfl (by kernel_rfl) (by kernel_rfl) (by kernel_rfl) (fun _ _ _ h => h) (Or.inl ⟨by rfl, ?_⟩) (by assumption) ?_
            rotate_left 1
            · (intro w hSw; (try dsimp only at hSw); go_simp; try with_reducible rfl)
            simp only [Act.put, List.setIfInBounds_toArray, List.set_cons_zero, List.set_cons_succ, List.getElem_toArray, List.getElem_cons_zero, List.getElem_cons_succ]
            refine wpAnyH_take (i := 10) (v := ?_) rfl (by kernel_rfl) (by kernel_rfl) (by kernel_rfl) (fun _ _ _ h => h) (Or.inl ⟨by rfl, ?_⟩) (by assumption) ?_
            rotate_left 1
            · (intro w hSw; (try dsimp only at hSw); go_simp; try with_reducible rfl)
            simp only [Act.put, List.setIfInBounds_toArray, List.set_cons_zero, List.set_cons_succ, List.getElem_toArray, List.getElem_cons_zero, List.getElem_cons_succ]
            refine wpAnyH_take (i := 11) (v := ?_) rfl (by kernel_rfl) (by kernel_rfl) (by kernel_rfl) (fun _ _ _ h => h) (Or.inl ⟨by rfl, ?_⟩) (by assumption) ?_
            rotate_left 1
            · (intro w hSw; (try dsimp only at hSw); go_simp; try with_reducible rfl)
            simp only [Act.put, List.setIfInBounds_toArray, List.set_cons_zero, List.set_cons_succ, List.getElem_toArray, List.getElem_cons_zero, List.getElem_cons_succ]
            refine wpAnyH_take (i := 12) (v := ?_) rfl (by kernel_rfl) (by kernel_rfl) (by kernel_rfl) (fun _ _ _ h => h) (Or.inl ⟨by rfl, ?_⟩) (by assumption) ?_
            rotate_left 1
            · (intro w hSw; (try dsimp only at hSw); go_simp; try with_reducible rfl)
            simp only [Act.put, List.setIfInBounds_toArray, List.set_cons_zero, List.set_cons_succ, List.getElem_toArray, List.getElem_cons_zero, List.getElem_cons_succ]
            refine wpAnyH_take (i := 13) (v := ?_) rfl (by kernel_rfl) (by kernel_rfl) (by kernel_rfl) (fun _ _ _ h => h) (Or.inl ⟨by rfl, ?_⟩) (by assumption) ?_
            rotate_left 1
            · (intro w hSw; (try dsimp only at hSw); go_simp; try with_reducible rfl)
            simp only [Act.put, List.setIfInBounds_toArray, List.set_cons_zero, List.set_cons_succ, List.getElem_toArray, List.getElem_cons_zero, List.getElem_cons_succ]
            refine wpAnyH_done (by kernel_rfl) ?_ _
            have K := Kq
            clear Kq y0 cm ca
            have cm := Bm.cell
            have ca := Ba.cell
            go_wp2_with fail
            refine (rHas_any AI _ cI (atL cc a.first R) a.id _ SI (by omega)).mono ?_
            rw [HHAS.out]
            rintro e w23 ⟨rfl, qq⟩
            have b := qq.below w22.heap.size
            replace hC := hC.next b
            replace K := bel_then K b
            go_wp2_with fail
            go_meet
            exact ⟨hC, K⟩
        case rest =>
          clear hC K HAD Bm Ba sm sx sy hn' hi hk hny hRl hRc SR cm ca
          obtain ⟨hC, K⟩ := hcut
          obtain ⟨w24, rfl⟩ : ∃ w' : World, w' = wc := ⟨_, rfl⟩
          go_wp2_with fail
          refine (drawAreasAt_any w24 A0 n0 c0 hC (by omega)).mono ?_
          rintro e w25 ⟨m, A1, n1, c1, A2, n2, c2, A, k, c, xs, cv, d, rfl, MA, b⟩
          clear hC
          replace K := bel_then K b
          clear b
          obtain ⟨sm, arr, -, ⟨hn12, -, hk, hcn⟩⟩ := MA
          have sx := arr.sees
          have hn' : n1 ≤ 1048576 ∧ n2 ≤ 1048576 := by omega
          have hi : ∀ x ∈ xs, x.cnt ≤ 1048576 := fun x hx => Nat.le_trans (hcn x hx) (by decide)
          clear arr hcn hn12
          have U : Below w25.heap.size w25 (w25.alloc (.cells #[.int .i64 m.width, .int .i64 m.height, .slice A1 n1 c1, .slice A2 n2 c2] 29)) := (Below.refl _ _).alloc (Nat.le_refl _) _
          have Bm : Blk (w25.alloc (.cells #[.int .i64 m.width, .int .i64 m.height, .slice A1 n1 c1, .slice A2 n2 c2] 29)) w25.heap.size 29 [.int .i64 m.width, .int .i64 m.height, .slice A1 n1 c1, .slice A2 n2 c2] := Blk.at_ rfl
          replace sm := sm.next U
          replace sx := sx.next U
          replace K := bel_then K U
          clear U
          have cm := Bm.cell
          go_wp2_with fail
          generalize (w25.alloc (.cells #[.int .i64 m.width, .int .i64 m.height, .slice A1 n1 c1, .slice A2 n2 c2] 29)) = w26 at *
          generalize w25.heap.size = gm at *
          refine (AreasAt_any A1 A2 n1 n2 c1 c2 m A k c xs cv d w26 sm hn' sx (by omega) hi).mono ?_
          rintro e w27 ⟨AO, cO, rfl, oO, b⟩
          clear cm
          replace sm := sm.next b
          replace sx := sx.next b
          replace Bm := Bm.next b
          replace K := bel_then K b
          clear b
          have SO := (Sees.of_own oO).less (Nat.zero_le _)
          clear oO
          have cm := Bm.cell
          go_wp2_with fail
          refine (specAreasAt_any A1 A2 n1 n2 c1 c2 m A k c xs cv d w27 sm hn' sx (by omega) hi).mono ?_
          rintro e w28 ⟨AP, cP, rfl, oP, b⟩
          clear cm
          replace SO := SO.next b
          replace K := bel_then K b
          clear b
          have SP := (Sees.of_own oP).less (Nat.zero_le _)
          clear oP sm Bm
          have hOl := areasAt_len m xs cv d
          have hxl : xs.length ≤ 10 := by have := sx.count; omega
          clear sx
          generalize (areasAt m xs cv d).getD [] = E at *
          generalize (areasAt m xs cv d).isSome = e0 at *
          have hoo : (e0 == e0) = true := beq_self_eq_true e0
          go_wp2_with fail
          refine (rInts_any AO AP _ _ cO cP 0 0 E E w28 SO SP rfl (by omega)).mono ?_
          rintro e w29 ⟨rfl, qq⟩
          have b := qq.below w28.heap.size
          replace K := bel_then K b
          go_wp2_with fail
          go_ret
          exact ⟨rfl, K⟩

end Go.Proofs.Ytljiflbaknakaaa
