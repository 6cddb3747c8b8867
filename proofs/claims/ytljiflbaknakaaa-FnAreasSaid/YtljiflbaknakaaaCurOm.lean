/- What the laws of permits draw, further: an area and how far it is moved. -/
import Derived.Test.YtljiflbaknakaaaCurOp
namespace Go.Proofs.Ytljiflbaknakaaa
open Go.RowKit

/-- A map, areas, a number and days, drawn. -/
def DrawnMo (w : World) (e : Ending) (w' : World) : Prop := ∃ (m : MapV) (A1 : Option Addr) (n1 c1 : Nat) (A2 : Option Addr) (n2 c2 : Nat) (A : Option Addr) (k c : Nat) (xs : List Area) (id d : Int), e = .returned (.tuple #[.agg #[.int .i64 m.width, .int .i64 m.height, .slice A1 n1 c1, .slice A2 n2 c2], .slice A k c, .int .i64 id, .int .i64 d]) ∧ MapAr w' (w.heap.size + 1) m A1 n1 c1 A2 n2 c2 A k c xs ∧ (-365 ≤ d ∧ d ≤ 365) ∧ Below w.heap.size w w'

set_option maxRecDepth 100000 in
set_option maxHeartbeats 8000000 in
theorem drawMoveArea_any (w : World) (A0 : Option Addr) (m0 c0 : Nat) (h : CodeIn w A0 m0) (hm0 : m0 ≤ 1000000) : Calls Try.prog 63 #[.slice A0 m0 c0] w (DrawnMo w) := by
  have U0 : Below w.heap.size w ((w.alloc (.cells #[.int .i64 0, .int .i64 0, .slice none 0 0, .slice none 0 0] 29)).alloc (.cells #[.slice A0 m0 c0, .int .i64 0, .int .u64 0] 101)) := ((Below.refl _ _).alloc (Nat.le_refl _) _).alloc (by simp) _
  have rm : Blk ((w.alloc (.cells #[.int .i64 0, .int .i64 0, .slice none 0 0, .slice none 0 0] 29)).alloc (.cells #[.slice A0 m0 c0, .int .i64 0, .int .u64 0] 101)) w.heap.size 29 [.int .i64 0, .int .i64 0, .slice none 0 0, .slice none 0 0] := (Blk.at_ rfl).alloc _
  have bc : Blk ((w.alloc (.cells #[.int .i64 0, .int .i64 0, .slice none 0 0, .slice none 0 0] 29)).alloc (.cells #[.slice A0 m0 c0, .int .i64 0, .int .u64 0] 101)) (w.heap.size + 1) 101 [.slice A0 m0 c0, .int .i64 0, .int .u64 0] := Blk.at_ (by simp)
  have hc0 := cur_new h hm0 U0 (Nat.le_succ _) bc
  clear bc h
  go_enter Try.func63, Try.ntmps63
  go_wp2_with fail
  generalize ((w.alloc (.cells #[.int .i64 0, .int .i64 0, .slice none 0 0, .slice none 0 0] 29)).alloc (.cells #[.slice A0 m0 c0, .int .i64 0, .int .u64 0] 101)) = w0 at *
  refine (mapOf_any (w.heap.size + 1) 0 w0 hc0 (by decide)).mono ?_
  rintro e w1 ⟨m, A1, n1, c1, A2, n2, c2, rfl, s1, hn, hs, far1, hc1, o1⟩
  have K1 : Below w.heap.size w w1 := U0.trans (o1.below (fun b (hb : b = _) => by omega) (by have := U0.size; omega))
  have hrl := rm.lt
  have hcl := hc0.lt
  replace rm := rm.only o1 (fun (e : _ = _) => by omega)
  have far : ∀ b, OwnB A1 b ∨ OwnB A2 b → w.heap.size + 1 < b ∨ b = w.heap.size + 1 := fun b hb => by have := far1 b hb; omega
  clear o1 hc0 U0
  have hg1 := hc1.lt
  have hsz := K1.size
  have U1 : Below w1.heap.size w1 (w1.alloc (.cells #[.int .i64 m.width, .int .i64 m.height, .slice A1 n1 c1, .slice A2 n2 c2] 29)) := (Below.refl _ _).alloc (Nat.le_refl _) _
  have gm0 : Blk (w1.alloc (.cells #[.int .i64 m.width, .int .i64 m.height, .slice A1 n1 c1, .slice A2 n2 c2] 29)) w1.heap.size 29 [.int .i64 m.width, .int .i64 m.height, .slice A1 n1 c1, .slice A2 n2 c2] := Blk.at_ rfl
  have hcA := hc1.next U1
  have sA := s1.next U1
  have rA := rm.next U1
  have KA := bel_then K1 U1
  clear rm s1 K1 hc1
  have cA := gm0.cell
  go_wp2_with fail
  generalize (w1.alloc (.cells #[.int .i64 m.width, .int .i64 m.height, .slice A1 n1 c1, .slice A2 n2 c2] 29)) = w2 at *
  have U2 := U1.size
  refine (areas_any _ _ m A1 A2 n1 n2 c1 c2 w2 hcA (by omega) hs).mono ?_
  rintro e w3 ⟨A, k, c, xs, rfl, arr, hk, hcn, hc3, o3⟩
  have D0 : DrB w w3 (w.heap.size + 1) w1.heap.size m A1 n1 c1 A2 n2 c2 A k c xs [.int .i64 0, .int .i64 0, .slice none 0 0, .slice none 0 0] := ⟨rA.only o3 (fun (e : _ = _) => by omega), gm0.only o3 (fun (e : _ = _) => by omega), ⟨sA.f1.only o3 (fun b off e _ (hb : b = _) => by have := far1 b (.inl (by rw [e]; rfl)); omega), sA.f2.only o3 (fun b off e _ (hb : b = _) => by have := far1 b (.inr (by rw [e]; rfl)); omega)⟩, arr.wide (fun b (hb : w2.heap.size + 1 ≤ b) => show w1.heap.size + 1 ≤ b by omega), fun b hb => by have := far1 b hb; omega, ⟨by omega, hg1⟩, ⟨hn, hs, hk, hcn⟩, KA.trans (o3.below (fun b (hb : b = _) => by omega) (by omega))⟩
  clear rA gm0 sA arr far far1 KA o3 hcA U1 U2 cA
  generalize w1.heap.size = gm at *
  have hl3 := hc3.lt
  have UA : Below w3.heap.size w3 (w3.alloc (.cells #[.int .i64 0, .int .i64 1, .int .i64 50] 3)) := (Below.refl _ _).alloc (Nat.le_refl _) _
  go_wp2_with fail
  refine (among_any _ _ w3.heap.size 3 _ [0, 1, 50] _ (Blk.at_ rfl : Blk (w3.alloc (.cells #[.int .i64 0, .int .i64 1, .int .i64 50] 3)) w3.heap.size 3 (ints [0, 1, 50])) (by omega) (hc3.next UA) (by omega) rfl (by decide) (by decide)).mono ?_
  rintro e w4 ⟨v0, rfl, -, hc, o4⟩
  replace D0 := (D0.below UA).drawn o4
  clear UA o4 hc3 hl3
  by_cases hk0 : 0 < k
  · have hki : (0 : Int) < (k : Int) := by omega
    go_wp2_with fail
    refine (one_any 6 _ _ _ hc (by omega) (by decide) (by decide)).mono ?_
    rintro e w5 ⟨bb, rfl, kc, oc⟩
    replace D0 := D0.drawn oc
    replace hc := kc
    clear kc oc
    cases bb
    · go_wp2_with fail
      refine (pick_any (k : Int) _ _ _ hc (by omega) (by omega) (by omega)).mono ?_
      rintro e w6 ⟨r, rfl, hr, kc, oc⟩
      have hrk : r < k := by omega
      replace D0 := D0.drawn oc
      replace hc := kc
      clear kc oc hr
      obtain ⟨b, off, B0, mc, d0, hA, hkx, x0, x1, x2, x3, hxi⟩ := SeesArea.elem D0.arr.sees hrk
      subst hA
      obtain ⟨idv, hid⟩ : ∃ y, xs[r].id = y := ⟨_, rfl⟩
      rw [hid] at x0
      clear x1 x2 x3 hxi hid
      have hwr : IntKind.i64.wrap (r : Int) = (r : Int) := IntWalk.i64_in _ (by have := D0.num.2.2.1; omega)
      go_wp2_with fail
      clear x0 hwr
      obtain ⟨wi0, rfl⟩ : ∃ w' : World, w' = w6 := ⟨_, rfl⟩
      have cb := D0.bm.cell
      clear cb
      have D := D0.below ((Quiet.one wi0).below _)
      refine wp_region_held_drew (S := fun w' => w'.cell? ⟨gm, 0, none⟩ = some (.int .i64 m.width) ∧ w'.cell? ⟨gm, 1, none⟩ = some (.int .i64 m.height) ∧ w'.cell? ⟨gm, 2, none⟩ = some (.slice A1 n1 c1) ∧ w'.cell? ⟨gm, 3, none⟩ = some (.slice A2 n2 c2)) (by kernel_rfl) (⟨D.bm.cell 0, D.bm.cell 1, D.bm.cell 2, D.bm.cell 3⟩) (fun hHeld => ?_)
      try replace hc := hc.next ((Quiet.one wi0).below _)
      generalize wi0.drew = wi1 at *
      refine wpAnyH_take (i := 0) (v := ?_) rfl (by kernel_rfl) (by kernel_rfl) (by kernel_rfl) (fun _ _ _ h => h) (Or.inl ⟨by rfl, ?_⟩) (by assumption) ?_
      rotate_left 1
      · (intro w hSw; (try dsimp only at hSw); go_simp; try with_reducible rfl)
      (try simp only [Act.put, List.setIfInBounds_toArray, List.set_cons_zero, List.set_cons_succ, List.getElem_toArray, List.getElem_cons_zero])
      refine wpAnyH_take (i := 1) (v := ?_) rfl (by kernel_rfl) (by kernel_rfl) (by kernel_rfl) (fun _ _ _ h => h) (Or.inl ⟨by rfl, ?_⟩) (by assumption) ?_
      rotate_left 1
      · (intro w hSw; (try dsimp only at hSw); go_simp; try with_reducible rfl)
      (try simp only [Act.put, List.setIfInBounds_toArray, List.set_cons_zero, List.set_cons_succ, List.getElem_toArray, List.getElem_cons_zero, List.getElem_cons_succ])
      refine wpAnyH_take (i := 2) (v := ?_) rfl (by kernel_rfl) (by kernel_rfl) (by kernel_rfl) (fun _ _ _ h => h) (Or.inl ⟨by rfl, ?_⟩) (by assumption) ?_
      rotate_left 1
      · (intro w hSw; (try dsimp only at hSw); go_simp; try with_reducible rfl)
      (try simp only [Act.put, List.setIfInBounds_toArray, List.set_cons_zero, List.set_cons_succ, List.getElem_toArray, List.getElem_cons_zero, List.getElem_cons_succ])
      refine wpAnyH_take (i := 3) (v := ?_) rfl (by kernel_rfl) (by kernel_rfl) (by kernel_rfl) (fun _ _ _ h => h) (Or.inl ⟨by rfl, ?_⟩) (by assumption) ?_
      rotate_left 1
      · (intro w hSw; (try dsimp only at hSw); go_simp; try with_reducible rfl)
      (try simp only [Act.put, List.setIfInBounds_toArray, List.set_cons_zero, List.set_cons_succ, List.getElem_toArray, List.getElem_cons_zero, List.getElem_cons_succ])
      refine wpAnyH_take (i := 5) (v := ?_) rfl (by kernel_rfl) (by kernel_rfl) (by kernel_rfl) (fun _ _ _ h => h) (Or.inl ⟨by rfl, ?_⟩) (by assumption) ?_
      rotate_left 1
      · (intro w hSw; (try dsimp only at hSw); go_simp; try with_reducible rfl)
      (try simp only [Act.put, List.setIfInBounds_toArray, List.set_cons_zero, List.set_cons_succ, List.getElem_toArray, List.getElem_cons_zero, List.getElem_cons_succ])
      refine wpAnyH_ready (rs := [4, 6]) (by kernel_rfl) (by simp) ?_
      refine AllReadyH.cons rfl (fun K hK => ?_) ?_
      · go_simp
        have hgl : wi1.heap.size ≠ w.heap.size + 1 := Nat.ne_of_gt hc.lt
        have U := (Below.refl wi1.heap.size wi1).alloc (Nat.le_refl _) (.cells #[.int .i64 0, .int .i64 1, .int .i64 (-10), .int .i64 60, .int .i64 (-364), .int .i64 364, .int .i64 (-365), .int .i64 365] 3)
        replace D := D.below U
        replace hc := hc.next U
        have BL : Blk (wi1.alloc (.cells #[.int .i64 0, .int .i64 1, .int .i64 (-10), .int .i64 60, .int .i64 (-364), .int .i64 364, .int .i64 (-365), .int .i64 365] 3)) wi1.heap.size 3 (ints [0, 1, -10, 60, -364, 364, -365, 365]) := Blk.at_ rfl
        clear U
        refine hK.out _ _ (⟨D.bm.cell 0, D.bm.cell 1, D.bm.cell 2, D.bm.cell 3⟩) (fun hHeld => ?_)
        clear hK K
        (try simp only [Act.put, List.setIfInBounds_toArray, List.set_cons_zero, List.set_cons_succ, List.getElem_toArray, List.getElem_cons_zero, List.getElem_cons_succ])
        generalize wi1.alloc (.cells #[.int .i64 0, .int .i64 1, .int .i64 (-10), .int .i64 60, .int .i64 (-364), .int .i64 364, .int .i64 (-365), .int .i64 365] 3) = wi2 at *
        generalize wi1.heap.size = gl at *
        refine wpAnyH_ready (rs := [6]) (by kernel_rfl) (by simp) ?_
        refine AllReadyH.cons rfl (fun K hK => ?_) AllReadyH.nil
        go_simp
        refine (pick_any 24 _ _ wi2 hc (by omega) (by decide) (by decide)).mono ?_
        rintro e wi3 ⟨r, rfl, hr, kc, oc⟩
        replace D := D.drawn oc
        replace hc := kc
        try replace BL := BL.only oc (fun (e : _ = _) => hgl e)
        clear kc oc
        have hr23 : r ≤ 23 := hr
        have hq1 : IntKind.i64.wrap ((r : Int) / 11) = ((r / 11 : Nat) : Int) := by rw [IntWalk.i64_in _ (by omega)]; omega
        have hq2 : IntKind.i64.wrap (6 + ((r / 11 : Nat) : Int)) = ((6 + r / 11 : Nat) : Int) := by rw [IntWalk.i64_in _ (by omega)]; omega
        have hm8 : 6 + r / 11 ≤ 8 := by omega
        have hm1 : 1 ≤ 6 + r / 11 := by omega
        obtain ⟨dq, hdq⟩ : ∃ dq : Nat, r / 11 = dq := ⟨_, rfl⟩
        rw [hdq] at hq1 hq2 hm8 hm1
        obtain ⟨lm, hlm⟩ : ∃ lm : Nat, 6 + dq = lm := ⟨_, rfl⟩
        rw [hlm] at hq2 hm8 hm1
        clear hdq hlm hr
        have hm9 : (0 : Int) ≤ (lm : Int) := by omega
        have hm10 : (lm : Int) ≤ (8 : Int) := by omega
        go_wp2_with fail
        refine hK.out _ _ (⟨D.bm.cell 0, D.bm.cell 1, D.bm.cell 2, D.bm.cell 3⟩) (fun hHeld => ?_)
        clear hK K
        (try simp only [Act.put, List.setIfInBounds_toArray, List.set_cons_zero, List.set_cons_succ, List.getElem_toArray, List.getElem_cons_zero, List.getElem_cons_succ])
        refine wpAnyH_take (i := 7) (v := ?_) rfl (by kernel_rfl) (by kernel_rfl) (by kernel_rfl) (fun _ _ _ h => h) (Or.inl ⟨by rfl, ?_⟩) (by assumption) ?_
        rotate_left 1
        · (intro w hSw; (try dsimp only at hSw); go_simp; try with_reducible rfl)
        (try simp only [Act.put, List.setIfInBounds_toArray, List.set_cons_zero, List.set_cons_succ, List.getElem_toArray, List.getElem_cons_zero, List.getElem_cons_succ])
        refine wpAnyH_take (i := 8) (v := ?_) rfl (by kernel_rfl) (by kernel_rfl) (by kernel_rfl) (fun _ _ _ h => h) (Or.inl ⟨by rfl, ?_⟩) (by assumption) ?_
        rotate_left 1
        · (intro w hSw; (try dsimp only at hSw); go_simp; try with_reducible rfl)
        (try simp only [Act.put, List.setIfInBounds_toArray, List.set_cons_zero, List.set_cons_succ, List.getElem_toArray, List.getElem_cons_zero, List.getElem_cons_succ])
        refine wpAnyH_take (i := 9) (v := ?_) rfl (by kernel_rfl) (by kernel_rfl) (by kernel_rfl) (fun _ _ _ h => h) (Or.inl ⟨by rfl, ?_⟩) (by assumption) ?_
        rotate_left 1
        · (intro w hSw; (try dsimp only at hSw); go_simp; try with_reducible rfl)
        (try simp only [Act.put, List.setIfInBounds_toArray, List.set_cons_zero, List.set_cons_succ, List.getElem_toArray, List.getElem_cons_zero, List.getElem_cons_succ])
        refine wpAnyH_ready (rs := [10]) (by kernel_rfl) (by simp) ?_
        refine AllReadyH.cons rfl (fun K hK => ?_) AllReadyH.nil
        go_simp
        refine (among_cut _ _ gl lm 8 _ [0, 1, -10, 60, -364, 364, -365, 365] _ BL hgl hc (by omega) (by simpa using hm8) (by omega) (by omega)).mono ?_
        rintro e wi4 ⟨tv, rfl, htm, kc, oc⟩
        replace D := D.drawn oc
        replace hc := kc
        try replace BL := BL.only oc (fun (e : _ = _) => hgl e)
        clear kc oc
        have htv : -365 ≤ tv ∧ tv ≤ 365 := by simp at htm; omega
        clear htm
        go_wp2_with fail
        refine hK.out _ _ (⟨D.bm.cell 0, D.bm.cell 1, D.bm.cell 2, D.bm.cell 3⟩) (fun hHeld => ?_)
        clear hK K
        (try simp only [Act.put, List.setIfInBounds_toArray, List.set_cons_zero, List.set_cons_succ, List.getElem_toArray, List.getElem_cons_zero, List.getElem_cons_succ])
        refine wpAnyH_ready (rs := [11]) (by kernel_rfl) (by simp) ?_
        refine AllReadyH.cons rfl (fun K hK => ?_) AllReadyH.nil
        go_simp
        have cr := D.rm.cell
        have fr := D.rm.frozen
        go_simp
        replace D := D.st1
        clear cr fr
        refine hK.out _ (setManyW wi4 w.heap.size 0 [.int .i64 m.width, .int .i64 m.height, .slice A1 n1 c1, .slice A2 n2 c2]) (⟨D.bm.cell 0, D.bm.cell 1, D.bm.cell 2, D.bm.cell 3⟩) (fun hHeld => ?_)
        clear hK K
        (try simp only [Act.put, List.setIfInBounds_toArray, List.set_cons_zero, List.set_cons_succ, List.getElem_toArray, List.getElem_cons_zero, List.getElem_cons_succ])
        generalize setManyW wi4 w.heap.size 0 [.int .i64 m.width, .int .i64 m.height, .slice A1 n1 c1, .slice A2 n2 c2] = wi5 at *
        refine wpAnyH_take (i := 12) (v := ?_) rfl (by kernel_rfl) (by kernel_rfl) (by kernel_rfl) (fun _ _ _ h => h) (Or.inl ⟨by rfl, ?_⟩) (by assumption) ?_
        rotate_left 1
        · (intro w hSw; (try dsimp only at hSw); go_simp; try with_reducible rfl)
        (try simp only [Act.put, List.setIfInBounds_toArray, List.set_cons_zero, List.set_cons_succ, List.getElem_toArray, List.getElem_cons_zero, List.getElem_cons_succ])
        refine wpAnyH_take (i := 13) (v := ?_) rfl (by kernel_rfl) (by kernel_rfl) (by kernel_rfl) (fun _ _ _ h => h) (Or.inl ⟨by rfl, ?_⟩) (by assumption) ?_
        rotate_left 1
        · (intro w hSw; (try dsimp only at hSw); go_simp; try with_reducible rfl)
        (try simp only [Act.put, List.setIfInBounds_toArray, List.set_cons_zero, List.set_cons_succ, List.getElem_toArray, List.getElem_cons_zero, List.getElem_cons_succ])
        refine wpAnyH_take (i := 14) (v := ?_) rfl (by kernel_rfl) (by kernel_rfl) (by kernel_rfl) (fun _ _ _ h => h) (Or.inl ⟨by rfl, ?_⟩) (by assumption) ?_
        rotate_left 1
        · (intro w hSw; (try dsimp only at hSw); go_simp; try with_reducible rfl)
        (try simp only [Act.put, List.setIfInBounds_toArray, List.set_cons_zero, List.set_cons_succ, List.getElem_toArray, List.getElem_cons_zero, List.getElem_cons_succ])
        refine wpAnyH_done (by kernel_rfl) ?_ _
        clear hHeld
        have cm := D.rm.cell
        go_wp2_with fail
        refine bodyPost_ret (v := .tuple #[.agg #[.int .i64 m.width, .int .i64 m.height, .slice A1 n1 c1, .slice A2 n2 c2], .slice (some ⟨b, off, none⟩) k c, .int .i64 idv, .int .i64 tv]) (by simp [results, Try.results63, go_sem, cm]) rfl ?_
        obtain ⟨h1, h2⟩ := D.made
        exact ⟨m, A1, n1, c1, A2, n2, c2, _, k, c, xs, _, tv, rfl, h1, htv, h2⟩
      refine AllReadyH.cons rfl (fun K hK => ?_) AllReadyH.nil
      · go_simp
        refine (pick_any 24 _ _ wi1 hc (by omega) (by decide) (by decide)).mono ?_
        rintro e wi2 ⟨r, rfl, hr, kc, oc⟩
        replace D := D.drawn oc
        replace hc := kc
        try replace BL := BL.only oc (fun (e : _ = _) => hgl e)
        clear kc oc
        have hr23 : r ≤ 23 := hr
        have hq1 : IntKind.i64.wrap ((r : Int) / 11) = ((r / 11 : Nat) : Int) := by rw [IntWalk.i64_in _ (by omega)]; omega
        have hq2 : IntKind.i64.wrap (6 + ((r / 11 : Nat) : Int)) = ((6 + r / 11 : Nat) : Int) := by rw [IntWalk.i64_in _ (by omega)]; omega
        have hm8 : 6 + r / 11 ≤ 8 := by omega
        have hm1 : 1 ≤ 6 + r / 11 := by omega
        obtain ⟨dq, hdq⟩ : ∃ dq : Nat, r / 11 = dq := ⟨_, rfl⟩
        rw [hdq] at hq1 hq2 hm8 hm1
        obtain ⟨lm, hlm⟩ : ∃ lm : Nat, 6 + dq = lm := ⟨_, rfl⟩
        rw [hlm] at hq2 hm8 hm1
        clear hdq hlm hr
        have hm9 : (0 : Int) ≤ (lm : Int) := by omega
        have hm10 : (lm : Int) ≤ (8 : Int) := by omega
        go_wp2_with fail
        refine hK.out _ _ (⟨D.bm.cell 0, D.bm.cell 1, D.bm.cell 2, D.bm.cell 3⟩) (fun hHeld => ?_)
        clear hK K
        (try simp only [Act.put, List.setIfInBounds_toArray, List.set_cons_zero, List.set_cons_succ, List.getElem_toArray, List.getElem_cons_zero, List.getElem_cons_succ])
        refine wpAnyH_take (i := 7) (v := ?_) rfl (by kernel_rfl) (by kernel_rfl) (by kernel_rfl) (fun _ _ _ h => h) (Or.inl ⟨by rfl, ?_⟩) (by assumption) ?_
        rotate_left 1
        · (intro w hSw; (try dsimp only at hSw); go_simp; try with_reducible rfl)
        (try simp only [Act.put, List.setIfInBounds_toArray, List.set_cons_zero, List.set_cons_succ, List.getElem_toArray, List.getElem_cons_zero, List.getElem_cons_succ])
        refine wpAnyH_take (i := 8) (v := ?_) rfl (by kernel_rfl) (by kernel_rfl) (by kernel_rfl) (fun _ _ _ h => h) (Or.inl ⟨by rfl, ?_⟩) (by assumption) ?_
        rotate_left 1
        · (intro w hSw; (try dsimp only at hSw); go_simp; try with_reducible rfl)
        (try simp only [Act.put, List.setIfInBounds_toArray, List.set_cons_zero, List.set_cons_succ, List.getElem_toArray, List.getElem_cons_zero, List.getElem_cons_succ])
        refine wpAnyH_ready (rs := [4]) (by kernel_rfl) (by simp) ?_
        refine AllReadyH.cons rfl (fun K hK => ?_) AllReadyH.nil
        go_simp
        have hgl : wi2.heap.size ≠ w.heap.size + 1 := Nat.ne_of_gt hc.lt
        have U := (Below.refl wi2.heap.size wi2).alloc (Nat.le_refl _) (.cells #[.int .i64 0, .int .i64 1, .int .i64 (-10), .int .i64 60, .int .i64 (-364), .int .i64 364, .int .i64 (-365), .int .i64 365] 3)
        replace D := D.below U
        replace hc := hc.next U
        have BL : Blk (wi2.alloc (.cells #[.int .i64 0, .int .i64 1, .int .i64 (-10), .int .i64 60, .int .i64 (-364), .int .i64 364, .int .i64 (-365), .int .i64 365] 3)) wi2.heap.size 3 (ints [0, 1, -10, 60, -364, 364, -365, 365]) := Blk.at_ rfl
        clear U
        refine hK.out _ _ (⟨D.bm.cell 0, D.bm.cell 1, D.bm.cell 2, D.bm.cell 3⟩) (fun hHeld => ?_)
        clear hK K
        (try simp only [Act.put, List.setIfInBounds_toArray, List.set_cons_zero, List.set_cons_succ, List.getElem_toArray, List.getElem_cons_zero, List.getElem_cons_succ])
        generalize wi2.alloc (.cells #[.int .i64 0, .int .i64 1, .int .i64 (-10), .int .i64 60, .int .i64 (-364), .int .i64 364, .int .i64 (-365), .int .i64 365] 3) = wi3 at *
        generalize wi2.heap.size = gl at *
        refine wpAnyH_take (i := 9) (v := ?_) rfl (by kernel_rfl) (by kernel_rfl) (by kernel_rfl) (fun _ _ _ h => h) (Or.inl ⟨by rfl, ?_⟩) (by assumption) ?_
        rotate_left 1
        · (intro w hSw; (try dsimp only at hSw); go_simp; try with_reducible rfl)
        (try simp only [Act.put, List.setIfInBounds_toArray, List.set_cons_zero, List.set_cons_succ, List.getElem_toArray, List.getElem_cons_zero, List.getElem_cons_succ])
        refine wpAnyH_ready (rs := [10]) (by kernel_rfl) (by simp) ?_
        refine AllReadyH.cons rfl (fun K hK => ?_) AllReadyH.nil
        go_simp
        refine (among_cut _ _ gl lm 8 _ [0, 1, -10, 60, -364, 364, -365, 365] _ BL hgl hc (by omega) (by simpa using hm8) (by omega) (by omega)).mono ?_
        rintro e wi4 ⟨tv, rfl, htm, kc, oc⟩
        replace D := D.drawn oc
        replace hc := kc
        try replace BL := BL.only oc (fun (e : _ = _) => hgl e)
        clear kc oc
        have htv : -365 ≤ tv ∧ tv ≤ 365 := by simp at htm; omega
        clear htm
        go_wp2_with fail
        refine hK.out _ _ (⟨D.bm.cell 0, D.bm.cell 1, D.bm.cell 2, D.bm.cell 3⟩) (fun hHeld => ?_)
        clear hK K
        (try simp only [Act.put, List.setIfInBounds_toArray, List.set_cons_zero, List.set_cons_succ, List.getElem_toArray, List.getElem_cons_zero, List.getElem_cons_succ])
        refine wpAnyH_ready (rs := [11]) (by kernel_rfl) (by simp) ?_
        refine AllReadyH.cons rfl (fun K hK => ?_) AllReadyH.nil
        go_simp
        have cr := D.rm.cell
        have fr := D.rm.frozen
        go_simp
        replace D := D.st1
        clear cr fr
        refine hK.out _ (setManyW wi4 w.heap.size 0 [.int .i64 m.width, .int .i64 m.height, .slice A1 n1 c1, .slice A2 n2 c2]) (⟨D.bm.cell 0, D.bm.cell 1, D.bm.cell 2, D.bm.cell 3⟩) (fun hHeld => ?_)
        clear hK K
        (try simp only [Act.put, List.setIfInBounds_toArray, List.set_cons_zero, List.set_cons_succ, List.getElem_toArray, List.getElem_cons_zero, List.getElem_cons_succ])
        generalize setManyW wi4 w.heap.size 0 [.int .i64 m.width, .int .i64 m.height, .slice A1 n1 c1, .slice A2 n2 c2] = wi5 at *
        refine wpAnyH_take (i := 12) (v := ?_) rfl (by kernel_rfl) (by kernel_rfl) (by kernel_rfl) (fun _ _ _ h => h) (Or.inl ⟨by rfl, ?_⟩) (by assumption) ?_
        rotate_left 1
        · (intro w hSw; (try dsimp only at hSw); go_simp; try with_reducible rfl)
        (try simp only [Act.put, List.setIfInBounds_toArray, List.set_cons_zero, List.set_cons_succ, List.getElem_toArray, List.getElem_cons_zero, List.getElem_cons_succ])
        refine wpAnyH_take (i := 13) (v := ?_) rfl (by kernel_rfl) (by kernel_rfl) (by kernel_rfl) (fun _ _ _ h => h) (Or.inl ⟨by rfl, ?_⟩) (by assumption) ?_
        rotate_left 1
        · (intro w hSw; (try dsimp only at hSw); go_simp; try with_reducible rfl)
        (try simp only [Act.put, List.setIfInBounds_toArray, List.set_cons_zero, List.set_cons_succ, List.getElem_toArray, List.getElem_cons_zero, List.getElem_cons_succ])
        refine wpAnyH_take (i := 14) (v := ?_) rfl (by kernel_rfl) (by kernel_rfl) (by kernel_rfl) (fun _ _ _ h => h) (Or.inl ⟨by rfl, ?_⟩) (by assumption) ?_
        rotate_left 1
        · (intro w hSw; (try dsimp only at hSw); go_simp; try with_reducible rfl)
        (try simp only [Act.put, List.setIfInBounds_toArray, List.set_cons_zero, List.set_cons_succ, List.getElem_toArray, List.getElem_cons_zero, List.getElem_cons_succ])
        refine wpAnyH_done (by kernel_rfl) ?_ _
        clear hHeld
        have cm := D.rm.cell
        go_wp2_with fail
        refine bodyPost_ret (v := .tuple #[.agg #[.int .i64 m.width, .int .i64 m.height, .slice A1 n1 c1, .slice A2 n2 c2], .slice (some ⟨b, off, none⟩) k c, .int .i64 idv, .int .i64 tv]) (by simp [results, Try.results63, go_sem, cm]) rfl ?_
        obtain ⟨h1, h2⟩ := D.made
        exact ⟨m, A1, n1, c1, A2, n2, c2, _, k, c, xs, _, tv, rfl, h1, htv, h2⟩
    · go_wp2_with fail
      obtain ⟨wi0, rfl⟩ : ∃ w' : World, w' = w5 := ⟨_, rfl⟩
      have cb := D0.bm.cell
      clear cb
      have D := D0.below ((Quiet.one wi0).below _)
      refine wp_region_held_drew (S := fun w' => w'.cell? ⟨gm, 0, none⟩ = some (.int .i64 m.width) ∧ w'.cell? ⟨gm, 1, none⟩ = some (.int .i64 m.height) ∧ w'.cell? ⟨gm, 2, none⟩ = some (.slice A1 n1 c1) ∧ w'.cell? ⟨gm, 3, none⟩ = some (.slice A2 n2 c2)) (by kernel_rfl) (⟨D.bm.cell 0, D.bm.cell 1, D.bm.cell 2, D.bm.cell 3⟩) (fun hHeld => ?_)
      try replace hc := hc.next ((Quiet.one wi0).below _)
      generalize wi0.drew = wi1 at *
      refine wpAnyH_take (i := 0) (v := ?_) rfl (by kernel_rfl) (by kernel_rfl) (by kernel_rfl) (fun _ _ _ h => h) (Or.inl ⟨by rfl, ?_⟩) (by assumption) ?_
      rotate_left 1
      · (intro w hSw; (try dsimp only at hSw); go_simp; try with_reducible rfl)
      (try simp only [Act.put, List.setIfInBounds_toArray, List.set_cons_zero, List.set_cons_succ, List.getElem_toArray, List.getElem_cons_zero])
      refine wpAnyH_take (i := 1) (v := ?_) rfl (by kernel_rfl) (by kernel_rfl) (by kernel_rfl) (fun _ _ _ h => h) (Or.inl ⟨by rfl, ?_⟩) (by assumption) ?_
      rotate_left 1
      · (intro w hSw; (try dsimp only at hSw); go_simp; try with_reducible rfl)
      (try simp only [Act.put, List.setIfInBounds_toArray, List.set_cons_zero, List.set_cons_succ, List.getElem_toArray, List.getElem_cons_zero, List.getElem_cons_succ])
      refine wpAnyH_take (i := 2) (v := ?_) rfl (by kernel_rfl) (by kernel_rfl) (by kernel_rfl) (fun _ _ _ h => h) (Or.inl ⟨by rfl, ?_⟩) (by assumption) ?_
      rotate_left 1
      · (intro w hSw; (try dsimp only at hSw); go_simp; try with_reducible rfl)
      (try simp only [Act.put, List.setIfInBounds_toArray, List.set_cons_zero, List.set_cons_succ, List.getElem_toArray, List.getElem_cons_zero, List.getElem_cons_succ])
      refine wpAnyH_take (i := 3) (v := ?_) rfl (by kernel_rfl) (by kernel_rfl) (by kernel_rfl) (fun _ _ _ h => h) (Or.inl ⟨by rfl, ?_⟩) (by assumption) ?_
      rotate_left 1
      · (intro w hSw; (try dsimp only at hSw); go_simp; try with_reducible rfl)
      (try simp only [Act.put, List.setIfInBounds_toArray, List.set_cons_zero, List.set_cons_succ, List.getElem_toArray, List.getElem_cons_zero, List.getElem_cons_succ])
      refine wpAnyH_take (i := 5) (v := ?_) rfl (by kernel_rfl) (by kernel_rfl) (by kernel_rfl) (fun _ _ _ h => h) (Or.inl ⟨by rfl, ?_⟩) (by assumption) ?_
      rotate_left 1
      · (intro w hSw; (try dsimp only at hSw); go_simp; try with_reducible rfl)
      (try simp only [Act.put, List.setIfInBounds_toArray, List.set_cons_zero, List.set_cons_succ, List.getElem_toArray, List.getElem_cons_zero, List.getElem_cons_succ])
      refine wpAnyH_ready (rs := [4, 6]) (by kernel_rfl) (by simp) ?_
      refine AllReadyH.cons rfl (fun K hK => ?_) ?_
      · go_simp
        have hgl : wi1.heap.size ≠ w.heap.size + 1 := Nat.ne_of_gt hc.lt
        have U := (Below.refl wi1.heap.size wi1).alloc (Nat.le_refl _) (.cells #[.int .i64 0, .int .i64 1, .int .i64 (-10), .int .i64 60, .int .i64 (-364), .int .i64 364, .int .i64 (-365), .int .i64 365] 3)
        replace D := D.below U
        replace hc := hc.next U
        have BL : Blk (wi1.alloc (.cells #[.int .i64 0, .int .i64 1, .int .i64 (-10), .int .i64 60, .int .i64 (-364), .int .i64 364, .int .i64 (-365), .int .i64 365] 3)) wi1.heap.size 3 (ints [0, 1, -10, 60, -364, 364, -365, 365]) := Blk.at_ rfl
        clear U
        refine hK.out _ _ (⟨D.bm.cell 0, D.bm.cell 1, D.bm.cell 2, D.bm.cell 3⟩) (fun hHeld => ?_)
        clear hK K
        (try simp only [Act.put, List.setIfInBounds_toArray, List.set_cons_zero, List.set_cons_succ, List.getElem_toArray, List.getElem_cons_zero, List.getElem_cons_succ])
        generalize wi1.alloc (.cells #[.int .i64 0, .int .i64 1, .int .i64 (-10), .int .i64 60, .int .i64 (-364), .int .i64 364, .int .i64 (-365), .int .i64 365] 3) = wi2 at *
        generalize wi1.heap.size = gl at *
        refine wpAnyH_ready (rs := [6]) (by kernel_rfl) (by simp) ?_
        refine AllReadyH.cons rfl (fun K hK => ?_) AllReadyH.nil
        go_simp
        refine (pick_any 24 _ _ wi2 hc (by omega) (by decide) (by decide)).mono ?_
        rintro e wi3 ⟨r, rfl, hr, kc, oc⟩
        replace D := D.drawn oc
        replace hc := kc
        try replace BL := BL.only oc (fun (e : _ = _) => hgl e)
        clear kc oc
        have hr23 : r ≤ 23 := hr
        have hq1 : IntKind.i64.wrap ((r : Int) / 11) = ((r / 11 : Nat) : Int) := by rw [IntWalk.i64_in _ (by omega)]; omega
        have hq2 : IntKind.i64.wrap (6 + ((r / 11 : Nat) : Int)) = ((6 + r / 11 : Nat) : Int) := by rw [IntWalk.i64_in _ (by omega)]; omega
        have hm8 : 6 + r / 11 ≤ 8 := by omega
        have hm1 : 1 ≤ 6 + r / 11 := by omega
        obtain ⟨dq, hdq⟩ : ∃ dq : Nat, r / 11 = dq := ⟨_, rfl⟩
        rw [hdq] at hq1 hq2 hm8 hm1
        obtain ⟨lm, hlm⟩ : ∃ lm : Nat, 6 + dq = lm := ⟨_, rfl⟩
        rw [hlm] at hq2 hm8 hm1
        clear hdq hlm hr
        have hm9 : (0 : Int) ≤ (lm : Int) := by omega
        have hm10 : (lm : Int) ≤ (8 : Int) := by omega
        go_wp2_with fail
        refine hK.out _ _ (⟨D.bm.cell 0, D.bm.cell 1, D.bm.cell 2, D.bm.cell 3⟩) (fun hHeld => ?_)
        clear hK K
        (try simp only [Act.put, List.setIfInBounds_toArray, List.set_cons_zero, List.set_cons_succ, List.getElem_toArray, List.getElem_cons_zero, List.getElem_cons_succ])
        refine wpAnyH_take (i := 7) (v := ?_) rfl (by kernel_rfl) (by kernel_rfl) (by kernel_rfl) (fun _ _ _ h => h) (Or.inl ⟨by rfl, ?_⟩) (by assumption) ?_
        rotate_left 1
        · (intro w hSw; (try dsimp only at hSw); go_simp; try with_reducible rfl)
        (try simp only [Act.put, List.setIfInBounds_toArray, List.set_cons_zero, List.set_cons_succ, List.getElem_toArray, List.getElem_cons_zero, List.getElem_cons_succ])
        refine wpAnyH_take (i := 8) (v := ?_) rfl (by kernel_rfl) (by kernel_rfl) (by kernel_rfl) (fun _ _ _ h => h) (Or.inl ⟨by rfl, ?_⟩) (by assumption) ?_
        rotate_left 1
        · (intro w hSw; (try dsimp only at hSw); go_simp; try with_reducible rfl)
        (try simp only [Act.put, List.setIfInBounds_toArray, List.set_cons_zero, List.set_cons_succ, List.getElem_toArray, List.getElem_cons_zero, List.getElem_cons_succ])
        refine wpAnyH_take (i := 9) (v := ?_) rfl (by kernel_rfl) (by kernel_rfl) (by kernel_rfl) (fun _ _ _ h => h) (Or.inl ⟨by rfl, ?_⟩) (by assumption) ?_
        rotate_left 1
        · (intro w hSw; (try dsimp only at hSw); go_simp; try with_reducible rfl)
        (try simp only [Act.put, List.setIfInBounds_toArray, List.set_cons_zero, List.set_cons_succ, List.getElem_toArray, List.getElem_cons_zero, List.getElem_cons_succ])
        refine wpAnyH_ready (rs := [10]) (by kernel_rfl) (by simp) ?_
        refine AllReadyH.cons rfl (fun K hK => ?_) AllReadyH.nil
        go_simp
        refine (among_cut _ _ gl lm 8 _ [0, 1, -10, 60, -364, 364, -365, 365] _ BL hgl hc (by omega) (by simpa using hm8) (by omega) (by omega)).mono ?_
        rintro e wi4 ⟨tv, rfl, htm, kc, oc⟩
        replace D := D.drawn oc
        replace hc := kc
        try replace BL := BL.only oc (fun (e : _ = _) => hgl e)
        clear kc oc
        have htv : -365 ≤ tv ∧ tv ≤ 365 := by simp at htm; omega
        clear htm
        go_wp2_with fail
        refine hK.out _ _ (⟨D.bm.cell 0, D.bm.cell 1, D.bm.cell 2, D.bm.cell 3⟩) (fun hHeld => ?_)
        clear hK K
        (try simp only [Act.put, List.setIfInBounds_toArray, List.set_cons_zero, List.set_cons_succ, List.getElem_toArray, List.getElem_cons_zero, List.getElem_cons_succ])
        refine wpAnyH_ready (rs := [11]) (by kernel_rfl) (by simp) ?_
        refine AllReadyH.cons rfl (fun K hK => ?_) AllReadyH.nil
        go_simp
        have cr := D.rm.cell
        have fr := D.rm.frozen
        go_simp
        replace D := D.st1
        clear cr fr
        refine hK.out _ (setManyW wi4 w.heap.size 0 [.int .i64 m.width, .int .i64 m.height, .slice A1 n1 c1, .slice A2 n2 c2]) (⟨D.bm.cell 0, D.bm.cell 1, D.bm.cell 2, D.bm.cell 3⟩) (fun hHeld => ?_)
        clear hK K
        (try simp only [Act.put, List.setIfInBounds_toArray, List.set_cons_zero, List.set_cons_succ, List.getElem_toArray, List.getElem_cons_zero, List.getElem_cons_succ])
        generalize setManyW wi4 w.heap.size 0 [.int .i64 m.width, .int .i64 m.height, .slice A1 n1 c1, .slice A2 n2 c2] = wi5 at *
        refine wpAnyH_take (i := 12) (v := ?_) rfl (by kernel_rfl) (by kernel_rfl) (by kernel_rfl) (fun _ _ _ h => h) (Or.inl ⟨by rfl, ?_⟩) (by assumption) ?_
        rotate_left 1
        · (intro w hSw; (try dsimp only at hSw); go_simp; try with_reducible rfl)
        (try simp only [Act.put, List.setIfInBounds_toArray, List.set_cons_zero, List.set_cons_succ, List.getElem_toArray, List.getElem_cons_zero, List.getElem_cons_succ])
        refine wpAnyH_take (i := 13) (v := ?_) rfl (by kernel_rfl) (by kernel_rfl) (by kernel_rfl) (fun _ _ _ h => h) (Or.inl ⟨by rfl, ?_⟩) (by assumption) ?_
        rotate_left 1
        · (intro w hSw; (try dsimp only at hSw); go_simp; try with_reducible rfl)
        (try simp only [Act.put, List.setIfInBounds_toArray, List.set_cons_zero, List.set_cons_succ, List.getElem_toArray, List.getElem_cons_zero, List.getElem_cons_succ])
        refine wpAnyH_take (i := 14) (v := ?_) rfl (by kernel_rfl) (by kernel_rfl) (by kernel_rfl) (fun _ _ _ h => h) (Or.inl ⟨by rfl, ?_⟩) (by assumption) ?_
        rotate_left 1
        · (intro w hSw; (try dsimp only at hSw); go_simp; try with_reducible rfl)
        (try simp only [Act.put, List.setIfInBounds_toArray, List.set_cons_zero, List.set_cons_succ, List.getElem_toArray, List.getElem_cons_zero, List.getElem_cons_succ])
        refine wpAnyH_done (by kernel_rfl) ?_ _
        clear hHeld
        have cm := D.rm.cell
        go_wp2_with fail
        refine bodyPost_ret (v := .tuple #[.agg #[.int .i64 m.width, .int .i64 m.height, .slice A1 n1 c1, .slice A2 n2 c2], .slice A k c, .int .i64 v0, .int .i64 tv]) (by simp [results, Try.results63, go_sem, cm]) rfl ?_
        obtain ⟨h1, h2⟩ := D.made
        exact ⟨m, A1, n1, c1, A2, n2, c2, _, k, c, xs, _, tv, rfl, h1, htv, h2⟩
      refine AllReadyH.cons rfl (fun K hK => ?_) AllReadyH.nil
      · go_simp
        refine (pick_any 24 _ _ wi1 hc (by omega) (by decide) (by decide)).mono ?_
        rintro e wi2 ⟨r, rfl, hr, kc, oc⟩
        replace D := D.drawn oc
        replace hc := kc
        try replace BL := BL.only oc (fun (e : _ = _) => hgl e)
        clear kc oc
        have hr23 : r ≤ 23 := hr
        have hq1 : IntKind.i64.wrap ((r : Int) / 11) = ((r / 11 : Nat) : Int) := by rw [IntWalk.i64_in _ (by omega)]; omega
        have hq2 : IntKind.i64.wrap (6 + ((r / 11 : Nat) : Int)) = ((6 + r / 11 : Nat) : Int) := by rw [IntWalk.i64_in _ (by omega)]; omega
        have hm8 : 6 + r / 11 ≤ 8 := by omega
        have hm1 : 1 ≤ 6 + r / 11 := by omega
        obtain ⟨dq, hdq⟩ : ∃ dq : Nat, r / 11 = dq := ⟨_, rfl⟩
        rw [hdq] at hq1 hq2 hm8 hm1
        obtain ⟨lm, hlm⟩ : ∃ lm : Nat, 6 + dq = lm := ⟨_, rfl⟩
        rw [hlm] at hq2 hm8 hm1
        clear hdq hlm hr
        have hm9 : (0 : Int) ≤ (lm : Int) := by omega
        have hm10 : (lm : Int) ≤ (8 : Int) := by omega
        go_wp2_with fail
        refine hK.out _ _ (⟨D.bm.cell 0, D.bm.cell 1, D.bm.cell 2, D.bm.cell 3⟩) (fun hHeld => ?_)
        clear hK K
        (try simp only [Act.put, List.setIfInBounds_toArray, List.set_cons_zero, List.set_cons_succ, List.getElem_toArray, List.getElem_cons_zero, List.getElem_cons_succ])
        refine wpAnyH_take (i := 7) (v := ?_) rfl (by kernel_rfl) (by kernel_rfl) (by kernel_rfl) (fun _ _ _ h => h) (Or.inl ⟨by rfl, ?_⟩) (by assumption) ?_
        rotate_left 1
        · (intro w hSw; (try dsimp only at hSw); go_simp; try with_reducible rfl)
        (try simp only [Act.put, List.setIfInBounds_toArray, List.set_cons_zero, List.set_cons_succ, List.getElem_toArray, List.getElem_cons_zero, List.getElem_cons_succ])
        refine wpAnyH_take (i := 8) (v := ?_) rfl (by kernel_rfl) (by kernel_rfl) (by kernel_rfl) (fun _ _ _ h => h) (Or.inl ⟨by rfl, ?_⟩) (by assumption) ?_
        rotate_left 1
        · (intro w hSw; (try dsimp only at hSw); go_simp; try with_reducible rfl)
        (try simp only [Act.put, List.setIfInBounds_toArray, List.set_cons_zero, List.set_cons_succ, List.getElem_toArray, List.getElem_cons_zero, List.getElem_cons_succ])
        refine wpAnyH_ready (rs := [4]) (by kernel_rfl) (by simp) ?_
        refine AllReadyH.cons rfl (fun K hK => ?_) AllReadyH.nil
        go_simp
        have hgl : wi2.heap.size ≠ w.heap.size + 1 := Nat.ne_of_gt hc.lt
        have U := (Below.refl wi2.heap.size wi2).alloc (Nat.le_refl _) (.cells #[.int .i64 0, .int .i64 1, .int .i64 (-10), .int .i64 60, .int .i64 (-364), .int .i64 364, .int .i64 (-365), .int .i64 365] 3)
        replace D := D.below U
        replace hc := hc.next U
        have BL : Blk (wi2.alloc (.cells #[.int .i64 0, .int .i64 1, .int .i64 (-10), .int .i64 60, .int .i64 (-364), .int .i64 364, .int .i64 (-365), .int .i64 365] 3)) wi2.heap.size 3 (ints [0, 1, -10, 60, -364, 364, -365, 365]) := Blk.at_ rfl
        clear U
        refine hK.out _ _ (⟨D.bm.cell 0, D.bm.cell 1, D.bm.cell 2, D.bm.cell 3⟩) (fun hHeld => ?_)
        clear hK K
        (try simp only [Act.put, List.setIfInBounds_toArray, List.set_cons_zero, List.set_cons_succ, List.getElem_toArray, List.getElem_cons_zero, List.getElem_cons_succ])
        generalize wi2.alloc (.cells #[.int .i64 0, .int .i64 1, .int .i64 (-10), .int .i64 60, .int .i64 (-364), .int .i64 364, .int .i64 (-365), .int .i64 365] 3) = wi3 at *
        generalize wi2.heap.size = gl at *
        refine wpAnyH_take (i := 9) (v := ?_) rfl (by kernel_rfl) (by kernel_rfl) (by kernel_rfl) (fun _ _ _ h => h) (Or.inl ⟨by rfl, ?_⟩) (by assumption) ?_
        rotate_left 1
        · (intro w hSw; (try dsimp only at hSw); go_simp; try with_reducible rfl)
        (try simp only [Act.put, List.setIfInBounds_toArray, List.set_cons_zero, List.set_cons_succ, List.getElem_toArray, List.getElem_cons_zero, List.getElem_cons_succ])
        refine wpAnyH_ready (rs := [10]) (by kernel_rfl) (by simp) ?_
        refine AllReadyH.cons rfl (fun K hK => ?_) AllReadyH.nil
        go_simp
        refine (among_cut _ _ gl lm 8 _ [0, 1, -10, 60, -364, 364, -365, 365] _ BL hgl hc (by omega) (by simpa using hm8) (by omega) (by omega)).mono ?_
        rintro e wi4 ⟨tv, rfl, htm, kc, oc⟩
        replace D := D.drawn oc
        replace hc := kc
        try replace BL := BL.only oc (fun (e : _ = _) => hgl e)
        clear kc oc
        have htv : -365 ≤ tv ∧ tv ≤ 365 := by simp at htm; omega
        clear htm
        go_wp2_with fail
        refine hK.out _ _ (⟨D.bm.cell 0, D.bm.cell 1, D.bm.cell 2, D.bm.cell 3⟩) (fun hHeld => ?_)
        clear hK K
        (try simp only [Act.put, List.setIfInBounds_toArray, List.set_cons_zero, List.set_cons_succ, List.getElem_toArray, List.getElem_cons_zero, List.getElem_cons_succ])
        refine wpAnyH_ready (rs := [11]) (by kernel_rfl) (by simp) ?_
        refine AllReadyH.cons rfl (fun K hK => ?_) AllReadyH.nil
        go_simp
        have cr := D.rm.cell
        have fr := D.rm.frozen
        go_simp
        replace D := D.st1
        clear cr fr
        refine hK.out _ (setManyW wi4 w.heap.size 0 [.int .i64 m.width, .int .i64 m.height, .slice A1 n1 c1, .slice A2 n2 c2]) (⟨D.bm.cell 0, D.bm.cell 1, D.bm.cell 2, D.bm.cell 3⟩) (fun hHeld => ?_)
        clear hK K
        (try simp only [Act.put, List.setIfInBounds_toArray, List.set_cons_zero, List.set_cons_succ, List.getElem_toArray, List.getElem_cons_zero, List.getElem_cons_succ])
        generalize setManyW wi4 w.heap.size 0 [.int .i64 m.width, .int .i64 m.height, .slice A1 n1 c1, .slice A2 n2 c2] = wi5 at *
        refine wpAnyH_take (i := 12) (v := ?_) rfl (by kernel_rfl) (by kernel_rfl) (by kernel_rfl) (fun _ _ _ h => h) (Or.inl ⟨by rfl, ?_⟩) (by assumption) ?_
        rotate_left 1
        · (intro w hSw; (try dsimp only at hSw); go_simp; try with_reducible rfl)
        (try simp only [Act.put, List.setIfInBounds_toArray, List.set_cons_zero, List.set_cons_succ, List.getElem_toArray, List.getElem_cons_zero, List.getElem_cons_succ])
        refine wpAnyH_take (i := 13) (v := ?_) rfl (by kernel_rfl) (by kernel_rfl) (by kernel_rfl) (fun _ _ _ h => h) (Or.inl ⟨by rfl, ?_⟩) (by assumption) ?_
        rotate_left 1
        · (intro w hSw; (try dsimp only at hSw); go_simp; try with_reducible rfl)
        (try simp only [Act.put, List.setIfInBounds_toArray, List.set_cons_zero, List.set_cons_succ, List.getElem_toArray, List.getElem_cons_zero, List.getElem_cons_succ])
        refine wpAnyH_take (i := 14) (v := ?_) rfl (by kernel_rfl) (by kernel_rfl) (by kernel_rfl) (fun _ _ _ h => h) (Or.inl ⟨by rfl, ?_⟩) (by assumption) ?_
        rotate_left 1
        · (intro w hSw; (try dsimp only at hSw); go_simp; try with_reducible rfl)
        (try simp only [Act.put, List.setIfInBounds_toArray, List.set_cons_zero, List.set_cons_succ, List.getElem_toArray, List.getElem_cons_zero, List.getElem_cons_succ])
        refine wpAnyH_done (by kernel_rfl) ?_ _
        clear hHeld
        have cm := D.rm.cell
        go_wp2_with fail
        refine bodyPost_ret (v := .tuple #[.agg #[.int .i64 m.width, .int .i64 m.height, .slice A1 n1 c1, .slice A2 n2 c2], .slice A k c, .int .i64 v0, .int .i64 tv]) (by simp [results, Try.results63, go_sem, cm]) rfl ?_
        obtain ⟨h1, h2⟩ := D.made
        exact ⟨m, A1, n1, c1, A2, n2, c2, _, k, c, xs, _, tv, rfl, h1, htv, h2⟩
  · have hki : ¬ (0 : Int) < (k : Int) := by omega
    go_wp2_with fail
    obtain ⟨wi0, rfl⟩ : ∃ w' : World, w' = w4 := ⟨_, rfl⟩
    have cb := D0.bm.cell
    clear cb
    have D := D0.below ((Quiet.one wi0).below _)
    refine wp_region_held_drew (S := fun w' => w'.cell? ⟨gm, 0, none⟩ = some (.int .i64 m.width) ∧ w'.cell? ⟨gm, 1, none⟩ = some (.int .i64 m.height) ∧ w'.cell? ⟨gm, 2, none⟩ = some (.slice A1 n1 c1) ∧ w'.cell? ⟨gm, 3, none⟩ = some (.slice A2 n2 c2)) (by kernel_rfl) (⟨D.bm.cell 0, D.bm.cell 1, D.bm.cell 2, D.bm.cell 3⟩) (fun hHeld => ?_)
    try replace hc := hc.next ((Quiet.one wi0).below _)
    generalize wi0.drew = wi1 at *
    refine wpAnyH_take (i := 0) (v := ?_) rfl (by kernel_rfl) (by kernel_rfl) (by kernel_rfl) (fun _ _ _ h => h) (Or.inl ⟨by rfl, ?_⟩) (by assumption) ?_
    rotate_left 1
    · (intro w hSw; (try dsimp only at hSw); go_simp; try with_reducible rfl)
    (try simp only [Act.put, List.setIfInBounds_toArray, List.set_cons_zero, List.set_cons_succ, List.getElem_toArray, List.getElem_cons_zero])
    refine wpAnyH_take (i := 1) (v := ?_) rfl (by kernel_rfl) (by kernel_rfl) (by kernel_rfl) (fun _ _ _ h => h) (Or.inl ⟨by rfl, ?_⟩) (by assumption) ?_
    rotate_left 1
    · (intro w hSw; (try dsimp only at hSw); go_simp; try with_reducible rfl)
    (try simp only [Act.put, List.setIfInBounds_toArray, List.set_cons_zero, List.set_cons_succ, List.getElem_toArray, List.getElem_cons_zero, List.getElem_cons_succ])
    refine wpAnyH_take (i := 2) (v := ?_) rfl (by kernel_rfl) (by kernel_rfl) (by kernel_rfl) (fun _ _ _ h => h) (Or.inl ⟨by rfl, ?_⟩) (by assumption) ?_
    rotate_left 1
    · (intro w hSw; (try dsimp only at hSw); go_simp; try with_reducible rfl)
    (try simp only [Act.put, List.setIfInBounds_toArray, List.set_cons_zero, List.set_cons_succ, List.getElem_toArray, List.getElem_cons_zero, List.getElem_cons_succ])
    refine wpAnyH_take (i := 3) (v := ?_) rfl (by kernel_rfl) (by kernel_rfl) (by kernel_rfl) (fun _ _ _ h => h) (Or.inl ⟨by rfl, ?_⟩) (by assumption) ?_
    rotate_left 1
    · (intro w hSw; (try dsimp only at hSw); go_simp; try with_reducible rfl)
    (try simp only [Act.put, List.setIfInBounds_toArray, List.set_cons_zero, List.set_cons_succ, List.getElem_toArray, List.getElem_cons_zero, List.getElem_cons_succ])
    refine wpAnyH_take (i := 5) (v := ?_) rfl (by kernel_rfl) (by kernel_rfl) (by kernel_rfl) (fun _ _ _ h => h) (Or.inl ⟨by rfl, ?_⟩) (by assumption) ?_
    rotate_left 1
    · (intro w hSw; (try dsimp only at hSw); go_simp; try with_reducible rfl)
    (try simp only [Act.put, List.setIfInBounds_toArray, List.set_cons_zero, List.set_cons_succ, List.getElem_toArray, List.getElem_cons_zero, List.getElem_cons_succ])
    refine wpAnyH_ready (rs := [4, 6]) (by kernel_rfl) (by simp) ?_
    refine AllReadyH.cons rfl (fun K hK => ?_) ?_
    · go_simp
      have hgl : wi1.heap.size ≠ w.heap.size + 1 := Nat.ne_of_gt hc.lt
      have U := (Below.refl wi1.heap.size wi1).alloc (Nat.le_refl _) (.cells #[.int .i64 0, .int .i64 1, .int .i64 (-10), .int .i64 60, .int .i64 (-364), .int .i64 364, .int .i64 (-365), .int .i64 365] 3)
      replace D := D.below U
      replace hc := hc.next U
      have BL : Blk (wi1.alloc (.cells #[.int .i64 0, .int .i64 1, .int .i64 (-10), .int .i64 60, .int .i64 (-364), .int .i64 364, .int .i64 (-365), .int .i64 365] 3)) wi1.heap.size 3 (ints [0, 1, -10, 60, -364, 364, -365, 365]) := Blk.at_ rfl
      clear U
      refine hK.out _ _ (⟨D.bm.cell 0, D.bm.cell 1, D.bm.cell 2, D.bm.cell 3⟩) (fun hHeld => ?_)
      clear hK K
      (try simp only [Act.put, List.setIfInBounds_toArray, List.set_cons_zero, List.set_cons_succ, List.getElem_toArray, List.getElem_cons_zero, List.getElem_cons_succ])
      generalize wi1.alloc (.cells #[.int .i64 0, .int .i64 1, .int .i64 (-10), .int .i64 60, .int .i64 (-364), .int .i64 364, .int .i64 (-365), .int .i64 365] 3) = wi2 at *
      generalize wi1.heap.size = gl at *
      refine wpAnyH_ready (rs := [6]) (by kernel_rfl) (by simp) ?_
      refine AllReadyH.cons rfl (fun K hK => ?_) AllReadyH.nil
      go_simp
      refine (pick_any 24 _ _ wi2 hc (by omega) (by decide) (by decide)).mono ?_
      rintro e wi3 ⟨r, rfl, hr, kc, oc⟩
      replace D := D.drawn oc
      replace hc := kc
      try replace BL := BL.only oc (fun (e : _ = _) => hgl e)
      clear kc oc
      have hr23 : r ≤ 23 := hr
      have hq1 : IntKind.i64.wrap ((r : Int) / 11) = ((r / 11 : Nat) : Int) := by rw [IntWalk.i64_in _ (by omega)]; omega
      have hq2 : IntKind.i64.wrap (6 + ((r / 11 : Nat) : Int)) = ((6 + r / 11 : Nat) : Int) := by rw [IntWalk.i64_in _ (by omega)]; omega
      have hm8 : 6 + r / 11 ≤ 8 := by omega
      have hm1 : 1 ≤ 6 + r / 11 := by omega
      obtain ⟨dq, hdq⟩ : ∃ dq : Nat, r / 11 = dq := ⟨_, rfl⟩
      rw [hdq] at hq1 hq2 hm8 hm1
      obtain ⟨lm, hlm⟩ : ∃ lm : Nat, 6 + dq = lm := ⟨_, rfl⟩
      rw [hlm] at hq2 hm8 hm1
      clear hdq hlm hr
      have hm9 : (0 : Int) ≤ (lm : Int) := by omega
      have hm10 : (lm : Int) ≤ (8 : Int) := by omega
      go_wp2_with fail
      refine hK.out _ _ (⟨D.bm.cell 0, D.bm.cell 1, D.bm.cell 2, D.bm.cell 3⟩) (fun hHeld => ?_)
      clear hK K
      (try simp only [Act.put, List.setIfInBounds_toArray, List.set_cons_zero, List.set_cons_succ, List.getElem_toArray, List.getElem_cons_zero, List.getElem_cons_succ])
      refine wpAnyH_take (i := 7) (v := ?_) rfl (by kernel_rfl) (by kernel_rfl) (by kernel_rfl) (fun _ _ _ h => h) (Or.inl ⟨by rfl, ?_⟩) (by assumption) ?_
      rotate_left 1
      · (intro w hSw; (try dsimp only at hSw); go_simp; try with_reducible rfl)
      (try simp only [Act.put, List.setIfInBounds_toArray, List.set_cons_zero, List.set_cons_succ, List.getElem_toArray, List.getElem_cons_zero, List.getElem_cons_succ])
      refine wpAnyH_take (i := 8) (v := ?_) rfl (by kernel_rfl) (by kernel_rfl) (by kernel_rfl) (fun _ _ _ h => h) (Or.inl ⟨by rfl, ?_⟩) (by assumption) ?_
      rotate_left 1
      · (intro w hSw; (try dsimp only at hSw); go_simp; try with_reducible rfl)
      (try simp only [Act.put, List.setIfInBounds_toArray, List.set_cons_zero, List.set_cons_succ, List.getElem_toArray, List.getElem_cons_zero, List.getElem_cons_succ])
      refine wpAnyH_take (i := 9) (v := ?_) rfl (by kernel_rfl) (by kernel_rfl) (by kernel_rfl) (fun _ _ _ h => h) (Or.inl ⟨by rfl, ?_⟩) (by assumption) ?_
      rotate_left 1
      · (intro w hSw; (try dsimp only at hSw); go_simp; try with_reducible rfl)
      (try simp only [Act.put, List.setIfInBounds_toArray, List.set_cons_zero, List.set_cons_succ, List.getElem_toArray, List.getElem_cons_zero, List.getElem_cons_succ])
      refine wpAnyH_ready (rs := [10]) (by kernel_rfl) (by simp) ?_
      refine AllReadyH.cons rfl (fun K hK => ?_) AllReadyH.nil
      go_simp
      refine (among_cut _ _ gl lm 8 _ [0, 1, -10, 60, -364, 364, -365, 365] _ BL hgl hc (by omega) (by simpa using hm8) (by omega) (by omega)).mono ?_
      rintro e wi4 ⟨tv, rfl, htm, kc, oc⟩
      replace D := D.drawn oc
      replace hc := kc
      try replace BL := BL.only oc (fun (e : _ = _) => hgl e)
      clear kc oc
      have htv : -365 ≤ tv ∧ tv ≤ 365 := by simp at htm; omega
      clear htm
      go_wp2_with fail
      refine hK.out _ _ (⟨D.bm.cell 0, D.bm.cell 1, D.bm.cell 2, D.bm.cell 3⟩) (fun hHeld => ?_)
      clear hK K
      (try simp only [Act.put, List.setIfInBounds_toArray, List.set_cons_zero, List.set_cons_succ, List.getElem_toArray, List.getElem_cons_zero, List.getElem_cons_succ])
      refine wpAnyH_ready (rs := [11]) (by kernel_rfl) (by simp) ?_
      refine AllReadyH.cons rfl (fun K hK => ?_) AllReadyH.nil
      go_simp
      have cr := D.rm.cell
      have fr := D.rm.frozen
      go_simp
      replace D := D.st1
      clear cr fr
      refine hK.out _ (setManyW wi4 w.heap.size 0 [.int .i64 m.width, .int .i64 m.height, .slice A1 n1 c1, .slice A2 n2 c2]) (⟨D.bm.cell 0, D.bm.cell 1, D.bm.cell 2, D.bm.cell 3⟩) (fun hHeld => ?_)
      clear hK K
      (try simp only [Act.put, List.setIfInBounds_toArray, List.set_cons_zero, List.set_cons_succ, List.getElem_toArray, List.getElem_cons_zero, List.getElem_cons_succ])
      generalize setManyW wi4 w.heap.size 0 [.int .i64 m.width, .int .i64 m.height, .slice A1 n1 c1, .slice A2 n2 c2] = wi5 at *
      refine wpAnyH_take (i := 12) (v := ?_) rfl (by kernel_rfl) (by kernel_rfl) (by kernel_rfl) (fun _ _ _ h => h) (Or.inl ⟨by rfl, ?_⟩) (by assumption) ?_
      rotate_left 1
      · (intro w hSw; (try dsimp only at hSw); go_simp; try with_reducible rfl)
      (try simp only [Act.put, List.setIfInBounds_toArray, List.set_cons_zero, List.set_cons_succ, List.getElem_toArray, List.getElem_cons_zero, List.getElem_cons_succ])
      refine wpAnyH_take (i := 13) (v := ?_) rfl (by kernel_rfl) (by kernel_rfl) (by kernel_rfl) (fun _ _ _ h => h) (Or.inl ⟨by rfl, ?_⟩) (by assumption) ?_
      rotate_left 1
      · (intro w hSw; (try dsimp only at hSw); go_simp; try with_reducible rfl)
      (try simp only [Act.put, List.setIfInBounds_toArray, List.set_cons_zero, List.set_cons_succ, List.getElem_toArray, List.getElem_cons_zero, List.getElem_cons_succ])
      refine wpAnyH_take (i := 14) (v := ?_) rfl (by kernel_rfl) (by kernel_rfl) (by kernel_rfl) (fun _ _ _ h => h) (Or.inl ⟨by rfl, ?_⟩) (by assumption) ?_
      rotate_left 1
      · (intro w hSw; (try dsimp only at hSw); go_simp; try with_reducible rfl)
      (try simp only [Act.put, List.setIfInBounds_toArray, List.set_cons_zero, List.set_cons_succ, List.getElem_toArray, List.getElem_cons_zero, List.getElem_cons_succ])
      refine wpAnyH_done (by kernel_rfl) ?_ _
      clear hHeld
      have cm := D.rm.cell
      go_wp2_with fail
      refine bodyPost_ret (v := .tuple #[.agg #[.int .i64 m.width, .int .i64 m.height, .slice A1 n1 c1, .slice A2 n2 c2], .slice A k c, .int .i64 v0, .int .i64 tv]) (by simp [results, Try.results63, go_sem, cm]) rfl ?_
      obtain ⟨h1, h2⟩ := D.made
      exact ⟨m, A1, n1, c1, A2, n2, c2, _, k, c, xs, _, tv, rfl, h1, htv, h2⟩
    refine AllReadyH.cons rfl (fun K hK => ?_) AllReadyH.nil
    · go_simp
      refine (pick_any 24 _ _ wi1 hc (by omega) (by decide) (by decide)).mono ?_
      rintro e wi2 ⟨r, rfl, hr, kc, oc⟩
      replace D := D.drawn oc
      replace hc := kc
      try replace BL := BL.only oc (fun (e : _ = _) => hgl e)
      clear kc oc
      have hr23 : r ≤ 23 := hr
      have hq1 : IntKind.i64.wrap ((r : Int) / 11) = ((r / 11 : Nat) : Int) := by rw [IntWalk.i64_in _ (by omega)]; omega
      have hq2 : IntKind.i64.wrap (6 + ((r / 11 : Nat) : Int)) = ((6 + r / 11 : Nat) : Int) := by rw [IntWalk.i64_in _ (by omega)]; omega
      have hm8 : 6 + r / 11 ≤ 8 := by omega
      have hm1 : 1 ≤ 6 + r / 11 := by omega
      obtain ⟨dq, hdq⟩ : ∃ dq : Nat, r / 11 = dq := ⟨_, rfl⟩
      rw [hdq] at hq1 hq2 hm8 hm1
      obtain ⟨lm, hlm⟩ : ∃ lm : Nat, 6 + dq = lm := ⟨_, rfl⟩
      rw [hlm] at hq2 hm8 hm1
      clear hdq hlm hr
      have hm9 : (0 : Int) ≤ (lm : Int) := by omega
      have hm10 : (lm : Int) ≤ (8 : Int) := by omega
      go_wp2_with fail
      refine hK.out _ _ (⟨D.bm.cell 0, D.bm.cell 1, D.bm.cell 2, D.bm.cell 3⟩) (fun hHeld => ?_)
      clear hK K
      (try simp only [Act.put, List.setIfInBounds_toArray, List.set_cons_zero, List.set_cons_succ, List.getElem_toArray, List.getElem_cons_zero, List.getElem_cons_succ])
      refine wpAnyH_take (i := 7) (v := ?_) rfl (by kernel_rfl) (by kernel_rfl) (by kernel_rfl) (fun _ _ _ h => h) (Or.inl ⟨by rfl, ?_⟩) (by assumption) ?_
      rotate_left 1
      · (intro w hSw; (try dsimp only at hSw); go_simp; try with_reducible rfl)
      (try simp only [Act.put, List.setIfInBounds_toArray, List.set_cons_zero, List.set_cons_succ, List.getElem_toArray, List.getElem_cons_zero, List.getElem_cons_succ])
      refine wpAnyH_take (i := 8) (v := ?_) rfl (by kernel_rfl) (by kernel_rfl) (by kernel_rfl) (fun _ _ _ h => h) (Or.inl ⟨by rfl, ?_⟩) (by assumption) ?_
      rotate_left 1
      · (intro w hSw; (try dsimp only at hSw); go_simp; try with_reducible rfl)
      (try simp only [Act.put, List.setIfInBounds_toArray, List.set_cons_zero, List.set_cons_succ, List.getElem_toArray, List.getElem_cons_zero, List.getElem_cons_succ])
      refine wpAnyH_ready (rs := [4]) (by kernel_rfl) (by simp) ?_
      refine AllReadyH.cons rfl (fun K hK => ?_) AllReadyH.nil
      go_simp
      have hgl : wi2.heap.size ≠ w.heap.size + 1 := Nat.ne_of_gt hc.lt
      have U := (Below.refl wi2.heap.size wi2).alloc (Nat.le_refl _) (.cells #[.int .i64 0, .int .i64 1, .int .i64 (-10), .int .i64 60, .int .i64 (-364), .int .i64 364, .int .i64 (-365), .int .i64 365] 3)
      replace D := D.below U
      replace hc := hc.next U
      have BL : Blk (wi2.alloc (.cells #[.int .i64 0, .int .i64 1, .int .i64 (-10), .int .i64 60, .int .i64 (-364), .int .i64 364, .int .i64 (-365), .int .i64 365] 3)) wi2.heap.size 3 (ints [0, 1, -10, 60, -364, 364, -365, 365]) := Blk.at_ rfl
      clear U
      refine hK.out _ _ (⟨D.bm.cell 0, D.bm.cell 1, D.bm.cell 2, D.bm.cell 3⟩) (fun hHeld => ?_)
      clear hK K
      (try simp only [Act.put, List.setIfInBounds_toArray, List.set_cons_zero, List.set_cons_succ, List.getElem_toArray, List.getElem_cons_zero, List.getElem_cons_succ])
      generalize wi2.alloc (.cells #[.int .i64 0, .int .i64 1, .int .i64 (-10), .int .i64 60, .int .i64 (-364), .int .i64 364, .int .i64 (-365), .int .i64 365] 3) = wi3 at *
      generalize wi2.heap.size = gl at *
      refine wpAnyH_take (i := 9) (v := ?_) rfl (by kernel_rfl) (by kernel_rfl) (by kernel_rfl) (fun _ _ _ h => h) (Or.inl ⟨by rfl, ?_⟩) (by assumption) ?_
      rotate_left 1
      · (intro w hSw; (try dsimp only at hSw); go_simp; try with_reducible rfl)
      (try simp only [Act.put, List.setIfInBounds_toArray, List.set_cons_zero, List.set_cons_succ, List.getElem_toArray, List.getElem_cons_zero, List.getElem_cons_succ])
      refine wpAnyH_ready (rs := [10]) (by kernel_rfl) (by simp) ?_
      refine AllReadyH.cons rfl (fun K hK => ?_) AllReadyH.nil
      go_simp
      refine (among_cut _ _ gl lm 8 _ [0, 1, -10, 60, -364, 364, -365, 365] _ BL hgl hc (by omega) (by simpa using hm8) (by omega) (by omega)).mono ?_
      rintro e wi4 ⟨tv, rfl, htm, kc, oc⟩
      replace D := D.drawn oc
      replace hc := kc
      try replace BL := BL.only oc (fun (e : _ = _) => hgl e)
      clear kc oc
      have htv : -365 ≤ tv ∧ tv ≤ 365 := by simp at htm; omega
      clear htm
      go_wp2_with fail
      refine hK.out _ _ (⟨D.bm.cell 0, D.bm.cell 1, D.bm.cell 2, D.bm.cell 3⟩) (fun hHeld => ?_)
      clear hK K
      (try simp only [Act.put, List.setIfInBounds_toArray, List.set_cons_zero, List.set_cons_succ, List.getElem_toArray, List.getElem_cons_zero, List.getElem_cons_succ])
      refine wpAnyH_ready (rs := [11]) (by kernel_rfl) (by simp) ?_
      refine AllReadyH.cons rfl (fun K hK => ?_) AllReadyH.nil
      go_simp
      have cr := D.rm.cell
      have fr := D.rm.frozen
      go_simp
      replace D := D.st1
      clear cr fr
      refine hK.out _ (setManyW wi4 w.heap.size 0 [.int .i64 m.width, .int .i64 m.height, .slice A1 n1 c1, .slice A2 n2 c2]) (⟨D.bm.cell 0, D.bm.cell 1, D.bm.cell 2, D.bm.cell 3⟩) (fun hHeld => ?_)
      clear hK K
      (try simp only [Act.put, List.setIfInBounds_toArray, List.set_cons_zero, List.set_cons_succ, List.getElem_toArray, List.getElem_cons_zero, List.getElem_cons_succ])
      generalize setManyW wi4 w.heap.size 0 [.int .i64 m.width, .int .i64 m.height, .slice A1 n1 c1, .slice A2 n2 c2] = wi5 at *
      refine wpAnyH_take (i := 12) (v := ?_) rfl (by kernel_rfl) (by kernel_rfl) (by kernel_rfl) (fun _ _ _ h => h) (Or.inl ⟨by rfl, ?_⟩) (by assumption) ?_
      rotate_left 1
      · (intro w hSw; (try dsimp only at hSw); go_simp; try with_reducible rfl)
      (try simp only [Act.put, List.setIfInBounds_toArray, List.set_cons_zero, List.set_cons_succ, List.getElem_toArray, List.getElem_cons_zero, List.getElem_cons_succ])
      refine wpAnyH_take (i := 13) (v := ?_) rfl (by kernel_rfl) (by kernel_rfl) (by kernel_rfl) (fun _ _ _ h => h) (Or.inl ⟨by rfl, ?_⟩) (by assumption) ?_
      rotate_left 1
      · (intro w hSw; (try dsimp only at hSw); go_simp; try with_reducible rfl)
      (try simp only [Act.put, List.setIfInBounds_toArray, List.set_cons_zero, List.set_cons_succ, List.getElem_toArray, List.getElem_cons_zero, List.getElem_cons_succ])
      refine wpAnyH_take (i := 14) (v := ?_) rfl (by kernel_rfl) (by kernel_rfl) (by kernel_rfl) (fun _ _ _ h => h) (Or.inl ⟨by rfl, ?_⟩) (by assumption) ?_
      rotate_left 1
      · (intro w hSw; (try dsimp only at hSw); go_simp; try with_reducible rfl)
      (try simp only [Act.put, List.setIfInBounds_toArray, List.set_cons_zero, List.set_cons_succ, List.getElem_toArray, List.getElem_cons_zero, List.getElem_cons_succ])
      refine wpAnyH_done (by kernel_rfl) ?_ _
      clear hHeld
      have cm := D.rm.cell
      go_wp2_with fail
      refine bodyPost_ret (v := .tuple #[.agg #[.int .i64 m.width, .int .i64 m.height, .slice A1 n1 c1, .slice A2 n2 c2], .slice A k c, .int .i64 v0, .int .i64 tv]) (by simp [results, Try.results63, go_sem, cm]) rfl ?_
      obtain ⟨h1, h2⟩ := D.made
      exact ⟨m, A1, n1, c1, A2, n2, c2, _, k, c, xs, _, tv, rfl, h1, htv, h2⟩
end Go.Proofs.Ytljiflbaknakaaa
