/- The walk of the law FnAreas; what it compares, and plain facts, ahead of it. -/
import Derived.Test.YtljiflbaknakaaaCurOw
import Derived.Test.YtljiflbaknakaaaCurOm
import Derived.Test.YtljiflbaknakaaaPartS
import Derived.Test.YtljiflbaknakaaaMove
import Derived.Test.YtljiflbaknakaaaAreaT
import Derived.Test.YtljiflbaknakaaaOwn
import Derived.Test.YtljiflbaknakaaaWay3
import Derived.Deep.CutBlock
namespace Go.Proofs.Ytljiflbaknakaaa
open Go.RowKit

theorem rBig_any (A : Option Addr) (n c : Nat) (w : World) (hn : n ≤ 9223372036854775807) : Calls Try.prog 52 #[.slice A n c] w fun e w' => e = .returned (.bool (decide (65536 < n))) ∧ w = w' := by
  go_enter Try.func52, Try.ntmps52
  go_wp2_with fail
  go_ret
  exact ⟨ret_bool (by simp; omega), rfl⟩
theorem rInts_any (A A' : Option Addr) (n n' c c' lo lo' : Nat) (xs ys : List Int) (w : World) (hx : Sees w lo 1 A n (ints xs)) (hy : Sees w lo' 1 A' n' (ints ys)) (he : xs = ys) (hn : n ≤ 140737488355328) :
    Calls Try.prog 60 #[.slice A n c, .slice A' n' c'] w fun e w' => e = .returned (.bool true) ∧ Quiet w w' := by
  subst he
  have hl := hx.icount
  have hl' := hy.icount
  obtain rfl : n = n' := by omega
  go_enter Try.func60, Try.ntmps60
  go_wp2
  go_loopw [5] (fun v wr => ∃ k : Nat, k ≤ n ∧ v = .int .i64 k ∧ Quiet w wr) (fun v _ => n - (intOf v).toNat)
  case atStart => exact ⟨0, Nat.zero_le _, rfl, Quiet.refl _⟩
  case round =>
    obtain ⟨k, hk, rfl, hq⟩ := hrel
    by_cases hlt : k < n
    · obtain ⟨b, off, rfl, hkx, hcx⟩ := (hx.quiet hq).int hlt
      obtain ⟨b', off', rfl, hky, hcy⟩ := (hy.quiet hq).int hlt
      go_wp2
      go_quiet (fail)
      go_wp2
      go_roundw
      case rel => exact ⟨k + 1, by omega, by go_num, hq.more _⟩
      case measure => simp [intOf]; omega
    · go_wp2
      go_ret
      exact ⟨rfl, hq⟩

theorem rHas_any (A : Option Addr) (n c : Nat) (xs : List Int) (v0 : Int) (w : World) (hx : Sees w 0 1 A n (ints xs)) (hn : n ≤ 140737488355328) :
    Calls Try.prog 56 #[.slice A n c, .int .i64 v0] w fun e w' => e = .returned (.bool (hasI xs v0)) ∧ Quiet w w' := by
  have hl := hx.icount
  go_enter Try.func56, Try.ntmps56
  go_wp2_with fail
  go_loopw [5] (fun v wr => ∃ k : Nat, k ≤ n ∧ v = .int .i64 k ∧ Hid ((xs.take k).any (fun x => decide (v0 = x)) = false) ∧ Quiet w wr) (fun v _ => n - (intOf v).toNat)
  case atStart => exact ⟨0, Nat.zero_le _, rfl, by simp [Hid], Quiet.refl _⟩
  case round =>
    obtain ⟨k, hk, rfl, ht, hq⟩ := hrel
    by_cases hlt : k < n
    · obtain ⟨b, off, rfl, hkx, hcx⟩ := (hx.quiet hq).int hlt
      by_cases hv : xs[k] = v0
      · have hv' : (xs[k] == v0) = true := by simp [hv]
        have HV := Lib.hid (show hasI xs v0 = true by rw [hasI, List.any_eq_true]; exact ⟨_, List.getElem_mem hkx, by simp [hv]⟩)
        clear hv
        go_wp2_with fail
        go_ret
        exact ⟨ret_bool HV.out.symm, hq⟩
      · have hv' : (xs[k] == v0) = false := by simp [hv]
        have HV := Lib.hid (any_take_succ hkx ht.out (by simp only [decide_eq_false_iff_not]; exact fun e => hv e.symm))
        clear hv
        go_wp2_with fail
        go_roundw
        case rel => exact ⟨k + 1, by omega, by go_num, HV, hq⟩
        case measure => simp [intOf]; omega
    · go_wp2_with fail
      go_ret
      have h := ht.out
      rw [List.take_of_length_le (by omega)] at h
      exact ⟨ret_bool h.symm, hq⟩


set_option maxRecDepth 100000 in
set_option maxHeartbeats 2000000 in
theorem rAreas_any (A A' : Option Addr) (n n' c c' lo lo' : Nat) (xs ys : List Area) (w : World) (hx : SeesN areaSh w lo A n xs) (hy : SeesN areaSh w lo' A' n' ys) (he : xs = ys) (hn : n ≤ 140737488355328) (hi : ∀ x ∈ xs, x.cnt ≤ 1048576) :
    Calls Try.prog 58 #[.slice A n c, .slice A' n' c'] w fun e w' => e = .returned (.bool true) ∧ Quiet w w' := by
  subst he
  have hl := hx.count
  have hl' := hy.count
  obtain rfl : n = n' := by omega
  go_enter Try.func58, Try.ntmps58
  go_wp2_with fail
  go_loopw [5] (fun v wr => ∃ k : Nat, k ≤ n ∧ v = .int .i64 k ∧ Quiet w wr) (fun v _ => n - (intOf v).toNat)
  case atStart => exact ⟨0, Nat.zero_le _, rfl, Quiet.refl _⟩
  case round =>
    obtain ⟨k, hk, rfl, hq⟩ := hrel
    by_cases hlt : k < n
    · obtain ⟨b, off, B0, mm, cc0, rfl, hkx, x0, x1, x2, x3, hxi⟩ := SeesArea.elem (hx.quiet hq) hlt
      obtain ⟨b', off', B0', mm', cc1, rfl, hky, y0, y1, y2, y3, hyi⟩ := SeesArea.elem (hy.quiet hq) hlt
      have hm : mm ≤ 1048576 := by
        have h1 := hi xs[k] (List.getElem_mem hkx)
        have h2 := hxi.icount
        unfold Area.cnt at h1
        omega
      generalize xs[k] = z at *
      have e0 : (z.id != z.id) = false := bne_self_eq_false _
      have e1 : (z.first != z.first) = false := bne_self_eq_false _
      have e2 : (z.last != z.last) = false := bne_self_eq_false _
      go_wp2_with fail
      go_quiet ((go_at_call 60; exact quiet_rightG (rInts_any _ _ _ _ cc0 cc1 _ _ z.cells z.cells _ (hxi.quiet (Quiet.mk _ _)) (hyi.quiet (Quiet.mk _ _)) rfl (by omega))))
      go_wp2_with fail
      go_roundw
      case rel => exact ⟨k + 1, by omega, by go_num, hq.more _⟩
      case measure => simp [intOf]; omega
    · go_wp2_with fail
      go_ret
      exact ⟨rfl, hq⟩


theorem hasI_open {m : MapV} {xs : List Area} {day : Int} {k N : Nat} (hk : k < N) : hasI (openTo m xs day N) (k : Int) = openB m xs day k := by
  rw [Bool.eq_iff_iff, hasI_mem, mem_openTo]
  constructor
  · rintro ⟨i, _, h, e⟩
    obtain rfl : k = i := by omega
    exact h
  · exact fun h => ⟨k, hk, h, rfl⟩
/-- a cell is open where it can be crossed and lies in no area of that day -/
theorem open_at {m : MapV} {xs : List Area} {day : Int} {k : Nat} (hM : isMapB m = true) (hk : k < m.cost.length) : openB m xs day k = ((m.cost[k] != 0) && decide ((atL (k : Int) day xs).length = 0)) := by
  have h0 := (mapB_cost hM k hk).1
  rw [atL_zero]
  unfold openB
  rw [List.getD_eq_getElem?_getD, List.getElem?_eq_getElem hk, Option.getD_some]
  congr 1
  by_cases h : m.cost[k] = 0
  · rw [h]; rfl
  · rw [show (m.cost[k] != 0) = true by simp [h]]
    exact decide_eq_true (by omega)
theorem bestOf_mem : ∀ (l : List (List Int)) (b : List Int), l.foldl longer b = b ∨ l.foldl longer b ∈ l
  | [], b => .inl rfl
  | p :: l, b => by
    rw [List.foldl_cons]
    rcases bestOf_mem l (longer b p) with h | h
    · rw [h]
      unfold longer
      split
      · exact .inr (by simp)
      · exact .inl rfl
    · exact .inr (by simp [h])
theorem partsM_from {N : Nat} {O : Int → Prop} {nx : Int → List Int} : ∀ k, ∀ p ∈ partsM N O nx k, ∃ a : Nat, a < k ∧ O (a : Int) ∧ p = partL N nx a
  | 0, p, hp => by simp [partsM] at hp
  | k + 1, p, hp => by
    rw [partsM] at hp
    split at hp
    · rename_i ht
      rcases List.mem_append.1 hp with h | h
      · obtain ⟨a, h1, h2⟩ := partsM_from k p h
        exact ⟨a, by omega, h2⟩
      · rw [List.mem_singleton.1 h]
        exact ⟨k, by omega, ht.1, rfl⟩
    · obtain ⟨a, h1, h2⟩ := partsM_from k p hp
      exact ⟨a, by omega, h2⟩
/-- the largest part's cells are open -/
theorem best_open {m : MapV} {xs : List Area} {day : Int} {P : List Int} (h : largestM m xs day = some P) : ∀ x ∈ P, hasI (openTo m xs day m.cost.length) x = true := by
  intro x hx
  unfold largestM at h
  split at h
  · injection h with h
    subst h
    rcases bestOf_mem (partsM m.cost.length (passB (shutM m xs day)) (nextL (shutM m xs day)) m.cost.length) [] with h1 | h1
    · rw [show bestOf _ = _ from h1] at hx
      simp at hx
    · obtain ⟨a, ha, hO, hp⟩ := partsM_from _ _ h1
      rw [show bestOf _ = _ from hp] at hx
      obtain ⟨hr, hR⟩ := mem_partL.1 hx
      have h2 := hR.opn (near_shut m xs day) hO
      obtain ⟨k, rfl⟩ := Int.eq_ofNat_of_zero_le hr.1
      have hk : k < m.cost.length := by omega
      rw [hasI_open hk]
      exact (pass_open hk).1 h2
  · cases h
theorem largest_some (m : MapV) (xs : List Area) (day : Int) : (largestM m xs day).isSome = (openCells m xs day).isSome := by
  unfold largestM openCells
  split <;> rfl

theorem shift_back (d : Int) (a : Area) : shiftA (-d) (shiftA d a) = a := by
  obtain ⟨i, c, f, l⟩ := a
  simp only [shiftA, Area.mk.injEq, true_and]
  omega
/-- moved back, the areas are as before -/
theorem move_back {m : MapV} {xs R : List Area} {id d : Int} (h : moveArea m xs id d = some R) : areasB m xs = true ∧ areasB m R = true ∧ R.length = xs.length ∧ moveArea m R id (-d) = some xs := by
  unfold moveArea at h
  split at h
  · rename_i hc
    simp only [Bool.and_eq_true] at hc
    split at h
    · rename_i k hf
      split at h
      · rename_i hR
        injection h with h
        subst h
        obtain ⟨hk, hp, hb⟩ := List.findIdx?_eq_some_iff_getElem.1 hf
        have hk' : k < (movedTo xs d k).length := by rw [movedTo_len]; exact hk
        have hid : ∀ (j : Nat) (hj : j < xs.length) (hj' : j < (movedTo xs d k).length), isId id (movedTo xs d k)[j] = isId id xs[j] := fun j hj hj' => by
          unfold isId
          rw [(movedTo_id xs d k j hj hj').1]
        have hf' : (movedTo xs d k).findIdx? (isId id) = some k := List.findIdx?_eq_some_iff_getElem.2 ⟨hk', by rw [hid k hk hk']; exact hp, fun j hj => by
          rw [hid j (by omega) (by omega)]
          exact hb j hj⟩
        have hg : (movedTo xs d k)[k] = shiftA d xs[k] := by
          have h := movedTo_eq (d := d) hk
          simp only [h, List.getElem_set_self]
        have hm : movedTo (movedTo xs d k) (-d) k = xs := by
          rw [movedTo_eq hk', hg, shift_back, movedTo_eq hk, List.set_set]
          exact List.set_getElem_self hk
        have hd := inB_true hc.2
        refine ⟨hc.1, hR, movedTo_len _ _ _, ?_⟩
        unfold moveArea
        rw [hR, inB_mk (show -364 ≤ -d ∧ -d ≤ 364 by omega)]
        simp only [Bool.and_self, if_true, hf', hm, hc.1]
      · cases h
    · cases h
  · cases h


set_option maxRecDepth 100000 in
set_option maxHeartbeats 20000000 in
theorem FnAreas_any (A0 : Option Addr) (n0 c0 : Nat) (w : World) (hC : CodeIn w A0 n0) (hn : n0 ≤ 9223372036854775807) :
    Calls Try.prog 13 #[.slice A0 n0 c0] w fun e w' => e = .returned (.bool true) ∧ Below w.heap.size w w' := by
  have K := Below.refl w.heap.size w
  go_enter Try.func13, Try.ntmps13
  go_wp2_with fail
  refine (rBig_any A0 n0 c0 w hn).mono ?_
  rintro e w' ⟨rfl, rfl⟩
  by_cases hbig : 65536 < n0
  · rw [decide_eq_true hbig]
    go_wp2_with fail
    go_ret
    exact ⟨rfl, K⟩
  rw [decide_eq_false hbig]
  go_wp2_with fail
  refine (drawOpenCells_any w A0 n0 c0 hC (by omega)).mono ?_
  rintro e w1 ⟨m, A1, n1, c1, A2, n2, c2, A, k, c, xs, d, rfl, MA, hd, b⟩
  replace hC := hC.next b
  replace K := bel_then K b
  clear b
  obtain ⟨sm, arr, -, ⟨hn12, -, hk, hcn⟩⟩ := MA
  have sx := arr.sees
  have hn' : n1 ≤ 1048576 ∧ n2 ≤ 1048576 := by omega
  have hi : ∀ x ∈ xs, x.cnt ≤ 1048576 := fun x hx => Nat.le_trans (hcn x hx) (by decide)
  clear arr hcn hn12
  have U : Below w1.heap.size w1 (w1.alloc (.cells #[.int .i64 m.width, .int .i64 m.height, .slice A1 n1 c1, .slice A2 n2 c2] 29)) := (Below.refl _ _).alloc (Nat.le_refl _) _
  have Bm : Blk (w1.alloc (.cells #[.int .i64 m.width, .int .i64 m.height, .slice A1 n1 c1, .slice A2 n2 c2] 29)) w1.heap.size 29 [.int .i64 m.width, .int .i64 m.height, .slice A1 n1 c1, .slice A2 n2 c2] := Blk.at_ rfl
  replace hC := hC.next U
  replace sm := sm.next U
  replace sx := sx.next U
  replace K := bel_then K U
  clear U
  have cm := Bm.cell
  go_wp2_with fail
  generalize (w1.alloc (.cells #[.int .i64 m.width, .int .i64 m.height, .slice A1 n1 c1, .slice A2 n2 c2] 29)) = w2 at *
  generalize w1.heap.size = gm at *
  refine (OpenCells_any A1 A2 n1 n2 c1 c2 m A k c xs d w2 sm hn' sx (by omega) hi).mono ?_
  rintro e w3 ⟨AO, cO, rfl, oO, b⟩
  clear cm
  replace hC := hC.next b
  replace sm := sm.next b
  replace sx := sx.next b
  replace Bm := Bm.next b
  replace K := bel_then K b
  clear b
  have SO := (Sees.of_own oO).less (Nat.zero_le _)
  clear oO
  have cm := Bm.cell
  go_wp2_with fail
  refine (specOpenCells_any A1 A2 n1 n2 c1 c2 m A k c xs d w3 sm hn' sx (by omega) hi).mono ?_
  rintro e w4 ⟨AP, cP, rfl, oP, b⟩
  clear cm
  replace hC := hC.next b
  replace sm := sm.next b
  replace sx := sx.next b
  replace Bm := Bm.next b
  replace SO := SO.next b
  replace K := bel_then K b
  clear b
  have SP := (Sees.of_own oP).less (Nat.zero_le _)
  clear oP
  have hOl := openCells_len m xs d
  have HOG := Lib.hid (fun (h : (openCells m xs d).isSome = true) => show areasB m xs = true ∧ inB d 0 364 = true ∧ (openCells m xs d).getD [] = openTo m xs d m.cost.length from by
    unfold openCells at h ⊢
    by_cases hb : (areasB m xs && inB d 0 364) = true
    · rw [if_pos hb]
      simp only [Bool.and_eq_true] at hb
      exact ⟨hb.1, hb.2, rfl⟩
    · rw [if_neg hb] at h
      cases h)
  have HLS := Lib.hid (largest_some m xs d)
  have HBO := Lib.hid (fun (Q : List Int) (h : largestM m xs d = some Q) => best_open h)
  obtain ⟨O, hO⟩ : ∃ O, (openCells m xs d).getD [] = O := ⟨_, rfl⟩
  obtain ⟨o0, ho0⟩ : ∃ o0, (openCells m xs d).isSome = o0 := ⟨_, rfl⟩
  rw [hO] at SO SP hOl HOG
  rw [ho0] at HOG HLS
  rw [hO, ho0]
  clear hO ho0
  have hoo : (o0 != o0) = false := bne_self_eq_false o0
  go_wp2_with fail
  refine (rInts_any AO AP _ _ cO cP 0 0 O O w4 SO SP rfl (by omega)).mono ?_
  rintro e w5 ⟨rfl, qq⟩
  clear SP
  have b := qq.below w4.heap.size
  replace hC := hC.next b
  replace sm := sm.next b
  replace sx := sx.next b
  replace Bm := Bm.next b
  replace SO := SO.next b
  replace K := bel_then K b
  clear b
  clear qq
  have HL2 := Lib.hid sm.f2.icount
  go_upto_block 0 with fail
  go_cut [10] (fun s10 wr => Blk wr gm 29 [.int .i64 m.width, .int .i64 m.height, .slice A1 n1 c1, .slice A2 n2 c2] ∧ SeesMap wr A1 n1 A2 n2 m ∧ SeesN areaSh wr 0 A k xs ∧ Sees wr 0 1 AO O.length (ints O) ∧ CodeIn wr A0 n0 ∧ Below w.heap.size w wr)
  case first =>
    go_wp2_with fail
    go_loopw [10] (fun jv wr => ∃ j : Nat, j ≤ n2 ∧ jv = .int .i64 (j : Int) ∧ Blk wr gm 29 [.int .i64 m.width, .int .i64 m.height, .slice A1 n1 c1, .slice A2 n2 c2] ∧ SeesMap wr A1 n1 A2 n2 m ∧ SeesN areaSh wr 0 A k xs ∧ Sees wr 0 1 AO O.length (ints O) ∧ CodeIn wr A0 n0 ∧ Below w.heap.size w wr) (fun jv _ => n2 - (intOf jv).toNat)
    case atStart => exact ⟨0, Nat.zero_le _, rfl, Bm, sm, sx, SO, hC, K⟩
    case round =>
      clear Bm sm sx SO hC K
      obtain ⟨j, hj, rfl, Bm, sm, sx, SO, hC, K⟩ := hrel
      have cm := Bm.cell
      have hn40 : n2 ≤ 1048576 := hn'.2
      by_cases hlt : j < n2
      · cases o0
        · go_wp2_with fail
          go_meet
          exact ⟨Bm, sm, sx, SO, hC, K⟩
        · obtain ⟨g1, g2, hOO⟩ := HOG.out rfl
          have g0 := (areasB_at g1).1
          have hjm : j < m.cost.length := by rw [HL2.out]; exact hlt
          have hcell : isCellB m (j : Int) = true := by
            rw [← isCellB_of g0]
            have := (mapB_size g0).2.1
            exact inB_mk ⟨by omega, by omega⟩
          have HAT := Lib.hid (show areasAt m xs (j : Int) d = some (atL (j : Int) d xs) by unfold areasAt; rw [g1, g2, hcell]; rfl)
          have HOA := Lib.hid (open_at (xs := xs) (day := d) g0 hjm)
          have HHI := Lib.hid (show hasI O (j : Int) = openB m xs d j by rw [hOO]; exact hasI_open hjm)
          have hat6 : (atL (j : Int) d xs).length ≤ 1048576 := Nat.le_trans (atL_len _ _ _) (by have := (areasB_at g1).2.1; omega)
          clear g0 g1 g2 hOO hcell
          go_wp2_with fail
          refine (AreasAt_any A1 A2 n1 n2 c1 c2 m A k c xs (j : Int) d _ sm hn' sx (by omega) hi).mono ?_
          rw [HAT.out]
          rintro e w6 ⟨AI, cI, rfl, oI, b⟩
          clear cm
          replace hC := hC.next b
          replace sm := sm.next b
          replace sx := sx.next b
          replace Bm := Bm.next b
          replace SO := SO.next b
          replace K := bel_then K b
          clear b
          have cm := Bm.cell
          obtain ⟨b2, off2, rfl, hk2, x2⟩ := sm.f2.int hlt
          have HOB := HOA.out
          rw [HHI.out.symm] at HOB
          obtain ⟨v, hv⟩ : ∃ v, m.cost[j] = v := ⟨_, rfl⟩
          rw [hv] at HOB
          rw [show m.cost[j] = v from hv] at x2
          obtain ⟨L0, hL0⟩ : ∃ L0, (atL (j : Int) d xs).length = L0 := ⟨_, rfl⟩
          have hge : (((some (atL (j : Int) d xs)).getD []).length) = L0 := hL0
          rw [hL0] at HOB hat6
          simp only [Option.getD_some, Option.isSome_some, hL0]
          clear hv hL0 hge oI HAT HOA
          obtain ⟨hh, hhh⟩ : ∃ hh, hasI O (j : Int) = hh := ⟨_, rfl⟩
          have HHH := Lib.hid hhh
          rw [hhh] at HOB
          clear hhh
          have HO2 := Lib.hid HOB
          clear HOB
          by_cases hv0 : v = 0
          · have hb0 : (v != 0) = false := by simp [hv0]
            have hh0 : hh = false := by rw [HO2.out, hb0]; rfl
            subst hh0
            subst hv0
            go_wp2_with fail
            go_quiet ((go_at_call 56; exact quiet_rightG ((rHas_any _ _ _ O _ _ (SO.quiet (Quiet.mk _ _)) (by omega)).mono fun e w' h => by rw [HHH.out] at h; exact h)))
            go_wp2_with fail
            go_roundw
            case rel => exact ⟨j + 1, by omega, by go_num, Bm.quiet (Quiet.mk _ _), sm.next ((Quiet.mk _ _).below _), sx.quiet (Quiet.mk _ _), SO.quiet (Quiet.mk _ _), hC.next ((Quiet.mk _ _).below _), bel_drewN K _⟩
            case measure => simp [intOf]; omega
          · have hb0 : (v != 0) = true := by simp [hv0]
            by_cases hL1 : L0 = 0
            · have hh0 : hh = true := by rw [HO2.out, hb0, hL1]; rfl
              subst hh0
              subst hL1
              go_wp2_with fail
              go_quiet ((go_at_call 56; exact quiet_rightG ((rHas_any _ _ _ O _ _ (SO.quiet (Quiet.mk _ _)) (by omega)).mono fun e w' h => by rw [HHH.out] at h; exact h)))
              go_wp2_with fail
              go_roundw
              case rel => exact ⟨j + 1, by omega, by go_num, Bm.quiet (Quiet.mk _ _), sm.next ((Quiet.mk _ _).below _), sx.quiet (Quiet.mk _ _), SO.quiet (Quiet.mk _ _), hC.next ((Quiet.mk _ _).below _), bel_drewN K _⟩
              case measure => simp [intOf]; omega
            · have hL2 : ((L0 : Int) == 0) = false := beq_eq_false_iff_ne.2 (by omega)
              have hh0 : hh = false := by rw [HO2.out, hb0]; simpa using hL1
              subst hh0
              go_wp2_with fail
              go_quiet ((go_at_call 56; exact quiet_rightG ((rHas_any _ _ _ O _ _ (SO.quiet (Quiet.mk _ _)) (by omega)).mono fun e w' h => by rw [HHH.out] at h; exact h)))
              go_wp2_with fail
              go_roundw
              case rel => exact ⟨j + 1, by omega, by go_num, Bm.quiet (Quiet.mk _ _), sm.next ((Quiet.mk _ _).below _), sx.quiet (Quiet.mk _ _), SO.quiet (Quiet.mk _ _), hC.next ((Quiet.mk _ _).below _), bel_drewN K _⟩
              case measure => simp [intOf]; omega
      · go_wp2_with fail
        go_meet
        exact ⟨Bm, sm, sx, SO, hC, K⟩
  case rest =>
    clear Bm sm sx SO hC K
    obtain ⟨Bm, sm, sx, SO, hC, K⟩ := hcut
    obtain ⟨w7, rfl⟩ : ∃ w' : World, w' = wc := ⟨_, rfl⟩
    have cm := Bm.cell
    go_wp2_with fail
    refine (LargestPart_any A1 A2 n1 n2 c1 c2 m A k c xs d w7 sm hn' sx (by omega) hi).mono ?_
    rintro e w8 ⟨AQ, cQ, rfl, oQ, b⟩
    clear cm
    replace hC := hC.next b
    replace sm := sm.next b
    replace sx := sx.next b
    replace Bm := Bm.next b
    replace SO := SO.next b
    replace K := bel_then K b
    clear b
    have SQ := (Sees.of_own oQ).less (Nat.zero_le _)
    clear oQ
    have cm := Bm.cell
    go_wp2_with fail
    refine (specLargestPart_any A1 A2 n1 n2 c1 c2 m A k c xs d w8 sm hn' sx (by omega) hi).mono ?_
    rintro e w9 ⟨AR, cR, rfl, oR, b⟩
    clear cm
    replace hC := hC.next b
    replace sm := sm.next b
    replace sx := sx.next b
    replace Bm := Bm.next b
    replace SO := SO.next b
    replace SQ := SQ.next b
    replace K := bel_then K b
    clear b
    have SR := (Sees.of_own oR).less (Nat.zero_le _)
    clear oR
    have hQl := largestM_len m xs d
    have HQO := Lib.hid (show ∀ x ∈ (largestM m xs d).getD [], hasI O x = true from fun x hx => by
      cases hL : largestM m xs d with
      | none => rw [hL] at hx; simp at hx
      | some Q =>
        rw [hL] at hx
        have h1 : o0 = true := by
          have h2 := HLS.out
          rw [hL] at h2
          exact h2.symm
        rw [(HOG.out h1).2.2]
        exact HBO.out Q hL x hx)
    have HLS2 := HLS.out
    obtain ⟨Q, hQ⟩ : ∃ Q, (largestM m xs d).getD [] = Q := ⟨_, rfl⟩
    rw [hQ] at SQ SR hQl HQO
    rw [hQ, HLS2]
    clear hQ HLS2
    go_wp2_with fail
    refine (rInts_any AQ AR _ _ cQ cR 0 0 Q Q w9 SQ SR rfl (by omega)).mono ?_
    rintro e w10 ⟨rfl, qq⟩
    clear SR
    have b := qq.below w9.heap.size
    replace hC := hC.next b
    replace sm := sm.next b
    replace sx := sx.next b
    replace Bm := Bm.next b
    replace SO := SO.next b
    replace SQ := SQ.next b
    replace K := bel_then K b
    clear b
    clear qq
    clear Bm sm sx HLS HBO HOG hoo HL2
    go_wp2_with fail
    go_loopw [17] (fun iv wr => ∃ i : Nat, i ≤ Q.length ∧ iv = .int .i64 (i : Int) ∧ Sees wr 0 1 AO O.length (ints O) ∧ Sees wr 0 1 AQ Q.length (ints Q) ∧ CodeIn wr A0 n0 ∧ Below w.heap.size w wr) (fun iv _ => Q.length - (intOf iv).toNat)
    case atStart => exact ⟨0, Nat.zero_le _, rfl, SO, SQ, hC, K⟩
    case round =>
      clear SO SQ hC K
      obtain ⟨i, hi0, rfl, SO, SQ, hC, K⟩ := hrel
      by_cases hlt : i < Q.length
      · obtain ⟨b3, o3, rfl, hx3, x3⟩ := SQ.int hlt
        have HX := Lib.hid (HQO.out Q[i] (List.getElem_mem hx3))
        have hi36 : i ≤ 36 := by omega
        obtain ⟨y, hy⟩ : ∃ y, Q[i] = y := ⟨_, rfl⟩
        rw [hy] at HX
        rw [show Q[i] = y from hy] at x3
        clear hy
        go_wp2_with fail
        refine (rHas_any AO _ cO O y _ SO (by omega)).mono ?_
        rw [HX.out]
        rintro e w11 ⟨rfl, qq⟩
        clear x3
        have b := qq.below wr.heap.size
        replace hC := hC.next b
        replace SO := SO.next b
        replace SQ := SQ.next b
        replace K := bel_then K b
        clear b
        clear qq
        go_wp2_with fail
        go_roundw
        case rel => exact ⟨i + 1, by omega, by go_num, SO, SQ, hC, K⟩
        case measure => simp [intOf]; omega

      · clear SO SQ HQO hd hi hn' hOl hQl
        go_wp2_with fail
        refine (drawWayErrors_any wr A0 n0 c0 hC (by omega)).mono ?_
        rintro e w12 ⟨m, A1, n1, c1, A2, n2, c2, A, k, c, xs, d, Y, ny, cy, ys, rfl, MA, hd, sy, hny, b⟩
        replace hC := hC.next b
        replace K := bel_then K b
        clear b
        obtain ⟨sm, arr, -, ⟨hn12, -, hk, hcn⟩⟩ := MA
        have sx := arr.sees
        have hn' : n1 ≤ 1048576 ∧ n2 ≤ 1048576 := by omega
        have hi : ∀ x ∈ xs, x.cnt ≤ 1048576 := fun x hx => Nat.le_trans (hcn x hx) (by decide)
        clear arr hcn hn12
        have U : Below w12.heap.size w12 (w12.alloc (.cells #[.int .i64 m.width, .int .i64 m.height, .slice A1 n1 c1, .slice A2 n2 c2] 29)) := (Below.refl _ _).alloc (Nat.le_refl _) _
        have Bm : Blk (w12.alloc (.cells #[.int .i64 m.width, .int .i64 m.height, .slice A1 n1 c1, .slice A2 n2 c2] 29)) w12.heap.size 29 [.int .i64 m.width, .int .i64 m.height, .slice A1 n1 c1, .slice A2 n2 c2] := Blk.at_ rfl
        replace hC := hC.next U
        replace sm := sm.next U
        replace sx := sx.next U
        replace sy := sy.next U
        replace K := bel_then K U
        clear U
        have cm := Bm.cell
        go_wp2_with fail
        generalize (w12.alloc (.cells #[.int .i64 m.width, .int .i64 m.height, .slice A1 n1 c1, .slice A2 n2 c2] 29)) = w13 at *
        generalize w12.heap.size = gm at *
        refine (WayErrors_any A1 A2 n1 n2 c1 c2 m A k c xs d Y ny cy ys w13 sm hn' sx (by omega) hi sy (by omega)).mono ?_
        rintro e w14 ⟨AO, cO, rfl, oO, b⟩
        clear cm
        replace hC := hC.next b
        replace sm := sm.next b
        replace sx := sx.next b
        replace Bm := Bm.next b
        replace sy := sy.next b
        replace K := bel_then K b
        clear b
        have SO := (Sees.of_own oO).less (Nat.zero_le _)
        clear oO
        have cm := Bm.cell
        go_wp2_with fail
        refine (specWayErrors_any A1 A2 n1 n2 c1 c2 m A k c xs d Y ny cy ys w14 sm hn' sx (by omega) hi sy (by omega)).mono ?_
        rintro e w15 ⟨AP, cP, rfl, oP, b⟩
        clear cm
        replace hC := hC.next b
        replace sm := sm.next b
        replace sx := sx.next b
        replace Bm := Bm.next b
        replace SO := SO.next b
        replace K := bel_then K b
        clear b
        have SP := (Sees.of_own oP).less (Nat.zero_le _)
        clear oP sy
        have hOl := wayErrs_len m xs d ys
        generalize (wayErrs m xs d ys).getD [] = E at *
        generalize (wayErrs m xs d ys).isSome = e0 at *
        have hoo : (e0 != e0) = false := bne_self_eq_false e0
        go_wp2_with fail
        refine (rInts_any AO AP _ _ cO cP 0 0 E E w15 SO SP rfl (by omega)).mono ?_
        rintro e w16 ⟨rfl, qq⟩
        clear SP SO Bm sm sx
        have b := qq.below w15.heap.size
        replace hC := hC.next b
        replace K := bel_then K b
        clear b
        clear qq
        clear hOl hoo hd hi hn' hny
        go_wp2_with fail
        refine (drawMoveArea_any w16 A0 n0 c0 hC (by omega)).mono ?_
        rintro e w17 ⟨m, A1, n1, c1, A2, n2, c2, A, k, c, xs, id, d, rfl, MA, hd, b⟩
        clear hC
        replace K := bel_then K b
        clear b
        obtain ⟨sm, arr, -, ⟨hn12, -, hk, hcn⟩⟩ := MA
        have sx := arr.sees
        have hn' : n1 ≤ 1048576 ∧ n2 ≤ 1048576 := by omega
        have hi : ∀ x ∈ xs, x.cnt ≤ 1048576 := fun x hx => Nat.le_trans (hcn x hx) (by decide)
        clear arr hcn hn12
        have U : Below w17.heap.size w17 (w17.alloc (.cells #[.int .i64 m.width, .int .i64 m.height, .slice A1 n1 c1, .slice A2 n2 c2] 29)) := (Below.refl _ _).alloc (Nat.le_refl _) _
        have Bm : Blk (w17.alloc (.cells #[.int .i64 m.width, .int .i64 m.height, .slice A1 n1 c1, .slice A2 n2 c2] 29)) w17.heap.size 29 [.int .i64 m.width, .int .i64 m.height, .slice A1 n1 c1, .slice A2 n2 c2] := Blk.at_ rfl
        replace sm := sm.next U
        replace sx := sx.next U
        replace K := bel_then K U
        clear U
        have cm := Bm.cell
        go_wp2_with fail
        generalize (w17.alloc (.cells #[.int .i64 m.width, .int .i64 m.height, .slice A1 n1 c1, .slice A2 n2 c2] 29)) = w18 at *
        generalize w17.heap.size = gm at *
        refine (MoveArea_any A1 A2 n1 n2 c1 c2 m A k c xs id d w18 sm hn' sx (by omega) hi).mono ?_
        rintro e w19 ⟨AM, cM, rfl, MM, b⟩
        clear cm
        replace sm := sm.next b
        replace sx := sx.next b
        replace Bm := Bm.next b
        replace K := bel_then K b
        clear b
        have SM := MM.sees
        clear MM
        have cm := Bm.cell
        go_wp2_with fail
        refine (specMoveArea_any A1 A2 n1 n2 c1 c2 m A k c xs id d w19 sm hn' sx (by omega) hi).mono ?_
        rintro e w20 ⟨AN, cN, rfl, MN, b⟩
        clear cm
        replace sm := sm.next b
        replace sx := sx.next b
        replace Bm := Bm.next b
        replace SM := SM.next b
        replace K := bel_then K b
        clear b
        have SN := MN.sees
        clear MN
        have hRl : ((moveArea m xs id d).getD []).length ≤ 10 := by
          have h1 := moveArea_len m xs id d
          have h2 := sx.count
          omega
        have hRi := moveArea_cnt m xs id d hi
        cases hR : moveArea m xs id d with
        | none =>
          rw [hR] at SM SN hRl hRi
          simp only [Option.getD_none, Option.isSome_none] at SM SN hRl hRi ⊢
          go_wp2_with fail
          refine (rAreas_any AM AN _ _ cM cN 0 0 [] [] w20 SM SN rfl (by simp) (by simp)).mono ?_
          rintro e w21 ⟨rfl, qq⟩
          have b := qq.below w20.heap.size
          replace K := bel_then K b
          go_wp2_with fail
          go_ret
          exact ⟨rfl, K⟩
        | some R =>
          obtain ⟨hB1, hB2, hB3, hB4⟩ := move_back hR
          rw [hR] at SM SN hRl hRi
          simp only [Option.getD_some, Option.isSome_some] at SM SN hRl hRi ⊢
          have HB2 := Lib.hid hB2
          have HB4 := Lib.hid hB4
          clear hR hB1 hB2 hB3 hB4
          go_wp2_with fail
          refine (rAreas_any AM AN _ _ cM cN 0 0 R R w20 SM SN rfl (by omega) hRi).mono ?_
          rintro e w21 ⟨rfl, qq⟩
          have b := qq.below w20.heap.size
          replace sm := sm.next b
          replace sx := sx.next b
          replace Bm := Bm.next b
          replace SM := SM.next b
          replace K := bel_then K b
          clear b
          clear qq
          have cm := Bm.cell
          have hwd : IntKind.i64.wrap (-d) = -d := IntWalk.i64_in _ (by omega)
          go_wp2_with fail
          refine (MoveArea_any A1 A2 n1 n2 c1 c2 m AM R.length cM R id (-d) w21 sm hn' SM (by omega) hRi).mono ?_
          rw [HB4.out]
          rintro e w22 ⟨AX, cX, rfl, MX, b⟩
          clear cm hwd
          replace sm := sm.next b
          replace sx := sx.next b
          replace Bm := Bm.next b
          replace SM := SM.next b
          replace K := bel_then K b
          clear b
          have SX := MX.sees
          clear MX
          simp only [Option.getD_some, Option.isSome_some] at SX ⊢
          have cm := Bm.cell
          go_wp2_with fail
          refine (rAreas_any AX A _ _ cX c 0 0 xs xs w22 SX sx rfl (by have := sx.count; omega) hi).mono ?_
          rintro e w23 ⟨rfl, qq⟩
          clear cm
          have b := qq.below w22.heap.size
          replace sm := sm.next b
          replace Bm := Bm.next b
          replace SM := SM.next b
          replace K := bel_then K b
          clear b
          clear qq
          have cm := Bm.cell
          go_wp2_with fail
          refine (AreAreas_any A1 A2 n1 n2 c1 c2 m AM R.length cM R w23 sm hn' SM (by omega) hRi).mono ?_
          rw [HB2.out]
          rintro e w24 ⟨rfl, b⟩
          replace K := bel_then K b
          go_wp2_with fail
          go_ret
          exact ⟨rfl, K⟩

end Go.Proofs.Ytljiflbaknakaaa
