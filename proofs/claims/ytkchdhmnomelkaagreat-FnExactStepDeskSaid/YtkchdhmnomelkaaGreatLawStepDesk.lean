/- The walk of the law FnExactStepDesk. -/
import Derived.Test.YtkchdhmnomelkaaGreatDeskM
import Derived.Test.YtkchdhmnomelkaaGreatStepDD
import Derived.Test.YtkchdhmnomelkaaGreatStepKK
import Derived.Deep.CutRange
import Derived.Deep.CutBlock
namespace Go.Proofs.YtkchdhmnomelkaaGreat
open Go.RowKit

set_option maxRecDepth 100000 in
set_option maxHeartbeats 2000000 in
theorem FnExactStepDesk_any (Hd : DeskH) (d : DeskV) (As : Option Addr) (ns cs : Nat) (s : DeskStep) (w : World) (hd : SeesDesk w 0 Hd d) (hnd : DeskFit 9223372036854775807 Hd d) (hs : Sees w 0 2 As ns (s.punches.flatMap Punch.enc)) (hns : ns ≤ 9223372036854775807) :
    Calls Tryz.prog 3 #[.agg #[.slice Hd.A0 Hd.n0 Hd.c0, .slice Hd.A1 Hd.n1 Hd.c1, .slice Hd.A2 Hd.n2 Hd.c2, .slice Hd.A3 Hd.n3 Hd.c3, .slice Hd.A4 Hd.n4 Hd.c4], .agg #[.int .i64 s.kind, .int .i64 s.number, .int .i64 s.cnumber, .int .i64 s.cstart, .int .i64 s.cfinish, .slice As ns cs]] w fun e w' => e = .returned (.bool true) ∧ Below w.heap.size w w' := by
  have hR := stepM_wt d s
  have K0 := Below.refl w.heap.size w
  go_enter Tryz.func3, Tryz.ntmps3
  go_wp2_with fail
  replace K0 : Below w.heap.size w ((w.alloc (.cells #[.slice Hd.A0 Hd.n0 Hd.c0, .slice Hd.A1 Hd.n1 Hd.c1, .slice Hd.A2 Hd.n2 Hd.c2, .slice Hd.A3 Hd.n3 Hd.c3, .slice Hd.A4 Hd.n4 Hd.c4] 26)).alloc (.cells #[.int .i64 s.kind, .int .i64 s.number, .int .i64 s.cnumber, .int .i64 s.cstart, .int .i64 s.cfinish, .slice As ns cs] 31)) := (((Below.refl w.heap.size w).alloc (by simp) (.cells #[.slice Hd.A0 Hd.n0 Hd.c0, .slice Hd.A1 Hd.n1 Hd.c1, .slice Hd.A2 Hd.n2 Hd.c2, .slice Hd.A3 Hd.n3 Hd.c3, .slice Hd.A4 Hd.n4 Hd.c4] 26)).alloc (by simp) (.cells #[.int .i64 s.kind, .int .i64 s.number, .int .i64 s.cnumber, .int .i64 s.cstart, .int .i64 s.cfinish, .slice As ns cs] 31))
  have Bd : Blk ((w.alloc (.cells #[.slice Hd.A0 Hd.n0 Hd.c0, .slice Hd.A1 Hd.n1 Hd.c1, .slice Hd.A2 Hd.n2 Hd.c2, .slice Hd.A3 Hd.n3 Hd.c3, .slice Hd.A4 Hd.n4 Hd.c4] 26)).alloc (.cells #[.int .i64 s.kind, .int .i64 s.number, .int .i64 s.cnumber, .int .i64 s.cstart, .int .i64 s.cfinish, .slice As ns cs] 31)) (w.heap.size) 26 [.slice Hd.A0 Hd.n0 Hd.c0, .slice Hd.A1 Hd.n1 Hd.c1, .slice Hd.A2 Hd.n2 Hd.c2, .slice Hd.A3 Hd.n3 Hd.c3, .slice Hd.A4 Hd.n4 Hd.c4] := ((Blk.at_ (by simp)).alloc _)
  have Bs : Blk ((w.alloc (.cells #[.slice Hd.A0 Hd.n0 Hd.c0, .slice Hd.A1 Hd.n1 Hd.c1, .slice Hd.A2 Hd.n2 Hd.c2, .slice Hd.A3 Hd.n3 Hd.c3, .slice Hd.A4 Hd.n4 Hd.c4] 26)).alloc (.cells #[.int .i64 s.kind, .int .i64 s.number, .int .i64 s.cnumber, .int .i64 s.cstart, .int .i64 s.cfinish, .slice As ns cs] 31)) (w.heap.size + 1) 31 [.int .i64 s.kind, .int .i64 s.number, .int .i64 s.cnumber, .int .i64 s.cstart, .int .i64 s.cfinish, .slice As ns cs] := (Blk.at_ (by simp))
  have Y0 : w.heap.size + 2 ≤ ((w.alloc (.cells #[.slice Hd.A0 Hd.n0 Hd.c0, .slice Hd.A1 Hd.n1 Hd.c1, .slice Hd.A2 Hd.n2 Hd.c2, .slice Hd.A3 Hd.n3 Hd.c3, .slice Hd.A4 Hd.n4 Hd.c4] 26)).alloc (.cells #[.int .i64 s.kind, .int .i64 s.number, .int .i64 s.cnumber, .int .i64 s.cstart, .int .i64 s.cfinish, .slice As ns cs] 31)).heap.size := by simp
  generalize ((w.alloc (.cells #[.slice Hd.A0 Hd.n0 Hd.c0, .slice Hd.A1 Hd.n1 Hd.c1, .slice Hd.A2 Hd.n2 Hd.c2, .slice Hd.A3 Hd.n3 Hd.c3, .slice Hd.A4 Hd.n4 Hd.c4] 26)).alloc (.cells #[.int .i64 s.kind, .int .i64 s.number, .int .i64 s.cnumber, .int .i64 s.cstart, .int .i64 s.cfinish, .slice As ns cs] 31)) = w0 at *
  have Cd := Bd.cell
  have Cs := Bs.cell
  go_wp2_with fail
  refine (szDesk_any _ d _ _ (hd.below K0 (Nat.le_refl _)) hnd (by omega) (by omega)).mono ?_
  rintro e w1 ⟨ld, rfl, b1, rfl | hld⟩
  · go_wp2_with fail
    go_ret
    exact ⟨rfl, bel_then K0 b1⟩
  have K1 := bel_then K0 b1
  have Z1 := b1.size
  have Y1 := K1.size
  clear Cd Cs
  replace Bd := Bd.next b1
  replace Bs := Bs.next b1
  clear b1
  have Cd := Bd.cell
  have Cs := Bs.cell
  go_wp2_with fail
  refine (szDeskStep_any _ _ _ s _ _ hns (by omega) (by omega)).mono ?_
  rintro e w2 ⟨ls, rfl, b2, rfl | hls⟩
  · go_wp2_with fail
    go_ret
    exact ⟨rfl, bel_then K1 b2⟩
  have K2 := bel_then K1 b2
  have Z2 := b2.size
  have Y2 := K2.size
  clear Cd Cs
  replace Bd := Bd.next b2
  replace Bs := Bs.next b2
  clear b2
  have Cd := Bd.cell
  have Cs := Bs.cell
  obtain ⟨hld0, hld1, hnd', htd2, htd4⟩ := hld
  have hmd : Hd.n0 ≤ 1048576 ∧ Hd.n1 ≤ 1048576 ∧ Hd.n2 ≤ 1048576 ∧ Hd.n3 ≤ 1048576 ∧ Hd.n4 ≤ 1048576 := ⟨hnd'.n0, hnd'.n1, hnd'.n2, hnd'.n3, hnd'.n4⟩
  have hwd2 : wtN Card.wt d.queue ≤ 100000000 := by
    have h1 := hd.f2.count
    rw [Card.wt_total]; omega
  have hwd4 : wtN Card.wt d.trouble ≤ 100000000 := by
    have h1 := hd.f4.count
    rw [Card.wt_total]; omega
  have hns' : ns ≤ 1048576 := by omega
  obtain ⟨R, hRe⟩ : ∃ R, stepM d s = R := ⟨_, rfl⟩
  rw [hRe] at hR
  have HR := Lib.hid hRe
  clear hRe
  go_upto_region 8 with fail
  go_cut [6, 7] from 27 to 34 (fun s6 s7 wx => ∃ (g lo hi : Nat) (H : DeskH), s6 = .pointer (some ⟨g, 0, none⟩) ∧ s7 = .bool R.isSome ∧ Blk wx g 37 [.slice H.A0 H.n0 H.c0, .slice H.A1 H.n1 H.c1, .slice H.A2 H.n2 H.c2, .slice H.A3 H.n3 H.c3, .slice H.A4 H.n4 H.c4] ∧ MineDesk wx (In lo hi) H (R.getD deskZ) ∧ DeskFit 1048576 H (R.getD deskZ) ∧ H.n3 ≤ H.c3 ∧ (w2.heap.size ≤ lo ∧ hi ≤ wx.heap.size ∧ w2.heap.size ≤ g ∧ g < wx.heap.size ∧ (g < lo ∨ hi ≤ g)) ∧ Below w2.heap.size w2 wx)
  case first =>
    have b := (Quiet.one w2).below w2.heap.size
    have Kt := Below.refl w2.heap.size w2
    have Kw := K2
    clear Cd Cs
    replace Bd := Bd.next b
    replace Bs := Bs.next b
    try (replace RB := RB.next b)
    replace Kw := bel_then Kw b
    replace Kt := bel_then Kt b
    have Cd := Bd.cell
    have Cs := Bs.cell
    try (have RBc := RB.cell)
    try (have RBf := RB.frozen)
    clear b
    go_wp2_with fail
    refine wp_region_held_drew (S := fun w' => w'.cell? ⟨w.heap.size, 0, none⟩ = some (.slice Hd.A0 Hd.n0 Hd.c0) ∧ w'.cell? ⟨w.heap.size, 1, none⟩ = some (.slice Hd.A1 Hd.n1 Hd.c1) ∧ w'.cell? ⟨w.heap.size, 2, none⟩ = some (.slice Hd.A2 Hd.n2 Hd.c2) ∧ w'.cell? ⟨w.heap.size, 3, none⟩ = some (.slice Hd.A3 Hd.n3 Hd.c3) ∧ w'.cell? ⟨w.heap.size, 4, none⟩ = some (.slice Hd.A4 Hd.n4 Hd.c4) ∧ w'.cell? ⟨w.heap.size + 1, 0, none⟩ = some (.int .i64 s.kind) ∧ w'.cell? ⟨w.heap.size + 1, 1, none⟩ = some (.int .i64 s.number) ∧ w'.cell? ⟨w.heap.size + 1, 2, none⟩ = some (.int .i64 s.cnumber) ∧ w'.cell? ⟨w.heap.size + 1, 3, none⟩ = some (.int .i64 s.cstart) ∧ w'.cell? ⟨w.heap.size + 1, 4, none⟩ = some (.int .i64 s.cfinish) ∧ w'.cell? ⟨w.heap.size + 1, 5, none⟩ = some (.slice As ns cs)) (by kernel_rfl) (by (try dsimp only); exact ⟨Cd 0, Cd 1, Cd 2, Cd 3, Cd 4, Cs 0, Cs 1, Cs 2, Cs 3, Cs 4, Cs 5⟩) (fun hHeld => ?_)
    generalize w2.drew = wz at *
    refine wpAnyH_take (i := 0) (v := ?_) rfl (by kernel_rfl) (by kernel_rfl) (by kernel_rfl) (fun _ _ _ h => h) (Or.inl ⟨by rfl, ?_⟩) (by assumption) ?_
    rotate_left 1
    · (intro w hSw; (try dsimp only at hSw); go_simp; try with_reducible rfl)
    simp only [Act.put, List.setIfInBounds_toArray, List.set_cons_zero, List.set_cons_succ, List.getElem_toArray, List.getElem_cons_zero]
    refine wpAnyH_take (i := 2) (v := ?_) rfl (by kernel_rfl) (by kernel_rfl) (by kernel_rfl) (fun _ _ _ h => h) (Or.inl ⟨by rfl, ?_⟩) (by assumption) ?_
    rotate_left 1
    · (intro w hSw; (try dsimp only at hSw); go_simp; try with_reducible rfl)
    simp only [Act.put, List.setIfInBounds_toArray, List.set_cons_zero, List.set_cons_succ, List.getElem_toArray, List.getElem_cons_zero, List.getElem_cons_succ]
    refine wpAnyH_ready (rs := [1, 8]) (by kernel_rfl) (by simp) ?_
    refine AllReadyH.cons rfl (fun K hK => ?_) ?_
    · go_simp
      refine (toDesk_any _ d _ (hd.below Kw (Nat.le_refl _)) hnd').mono ?_
      rintro e wz ⟨AP0a, AP0b, AP0c, AP0d, AP0e, rfl, MP0, b⟩
      clear Cd Cs
      replace Bd := Bd.next b
      replace Bs := Bs.next b
      try (replace RB := RB.next b)
      replace Kw := bel_then Kw b
      replace Kt := bel_then Kt b
      have Cd := Bd.cell
      have Cs := Bs.cell
      try (have RBc := RB.cell)
      try (have RBf := RB.frozen)
      clear b
      go_wp2_with fail
      refine hK.out _ _ (by (try dsimp only); exact ⟨Cd 0, Cd 1, Cd 2, Cd 3, Cd 4, Cs 0, Cs 1, Cs 2, Cs 3, Cs 4, Cs 5⟩) (fun hHeld => ?_)
      clear hK K
      refine wpAnyH_ready (rs := [3, 8]) (by kernel_rfl) (by simp) ?_
      refine AllReadyH.cons rfl (fun K hK => ?_) ?_
      · go_simp
        refine (toDeskStep_any _ _ _ _ s _ (hs.below Kw (Nat.le_refl _)) hns').mono ?_
        rintro e wz ⟨AP1a, rfl, MP1, b⟩
        clear Cd Cs
        replace Bd := Bd.next b
        replace Bs := Bs.next b
        replace MP0 := MP0.next b
        try (replace RB := RB.next b)
        replace Kw := bel_then Kw b
        replace Kt := bel_then Kt b
        have Cd := Bd.cell
        have Cs := Bs.cell
        try (have RBc := RB.cell)
        try (have RBf := RB.frozen)
        clear b
        go_wp2_with fail
        refine hK.out _ _ (by (try dsimp only); exact ⟨Cd 0, Cd 1, Cd 2, Cd 3, Cd 4, Cs 0, Cs 1, Cs 2, Cs 3, Cs 4, Cs 5⟩) (fun hHeld => ?_)
        clear hK K
        refine wpAnyH_ready (rs := [4, 8]) (by kernel_rfl) (by simp) ?_
        refine AllReadyH.cons rfl (fun K hK => ?_) ?_
        · go_simp
          try (have RLc := RB.lt)
          have zlo := Kt.size
          refine (specStepDesk_any _ d _ _ _ s _ MP0.sees (DeskFit.at_ hnd') (Nat.le_refl _) MP1.sees hns').mono ?_
          rw [HR.out]
          rintro e wz ⟨HRr, rfl, MR, FR, GR, b⟩
          clear Cd Cs
          replace Bd := Bd.next b
          replace Bs := Bs.next b
          try (replace RB := RB.next b)
          replace Kw := bel_then Kw b
          replace Kt := bel_then Kt b
          have Cd := Bd.cell
          have Cs := Bs.cell
          try (have RBc := RB.cell)
          try (have RBf := RB.frozen)
          have zhi := b.size
          clear b
          go_wp2_with fail
          refine hK.out _ _ (by (try dsimp only); exact ⟨Cd 0, Cd 1, Cd 2, Cd 3, Cd 4, Cs 0, Cs 1, Cs 2, Cs 3, Cs 4, Cs 5⟩) (fun hHeld => ?_)
          clear hK K
          refine wpAnyH_take (i := 5) (v := ?_) rfl (by kernel_rfl) (by kernel_rfl) (by kernel_rfl) (fun _ _ _ h => h) (Or.inl ⟨by rfl, ?_⟩) (by assumption) ?_
          rotate_left 1
          · (intro w hSw; (try dsimp only at hSw); go_simp; try with_reducible rfl)
          simp only [Act.put, List.setIfInBounds_toArray, List.set_cons_zero, List.set_cons_succ, List.getElem_toArray, List.getElem_cons_zero, List.getElem_cons_succ]
          refine wpAnyH_take (i := 6) (v := ?_) rfl (by kernel_rfl) (by kernel_rfl) (by kernel_rfl) (fun _ _ _ h => h) (Or.inl ⟨by rfl, ?_⟩) (by assumption) ?_
          rotate_left 1
          · (intro w hSw; (try dsimp only at hSw); go_simp; try with_reducible rfl)
          simp only [Act.put, List.setIfInBounds_toArray, List.set_cons_zero, List.set_cons_succ, List.getElem_toArray, List.getElem_cons_zero, List.getElem_cons_succ]
          refine wpAnyH_take (i := 7) (v := ?_) rfl (by kernel_rfl) (by kernel_rfl) (by kernel_rfl) (fun _ _ _ h => h) (Or.inl ⟨by rfl, ?_⟩) (by assumption) ?_
          rotate_left 1
          · (intro w hSw; (try dsimp only at hSw); go_simp; try with_reducible rfl)
          simp only [Act.put, List.setIfInBounds_toArray, List.set_cons_zero, List.set_cons_succ, List.getElem_toArray, List.getElem_cons_zero, List.getElem_cons_succ]
          refine wpAnyH_ready (rs := [8]) (by kernel_rfl) (by simp) ?_
          refine AllReadyH.cons rfl (fun K hK => ?_) AllReadyH.nil
          go_simp
          have zg := Kt.size
          have b : Below wz.heap.size wz (wz.alloc (.cells #[.slice none 0 0, .slice none 0 0, .slice none 0 0, .slice none 0 0, .slice none 0 0] 37)) := (Below.refl _ _).alloc (Nat.le_refl _) _
          try (replace MP0 := MP0.next b)
          try (replace MP1 := MP1.next b)
          try (replace MR := MR.next b)
          clear Cd Cs
          replace Bd := Bd.next b
          replace Bs := Bs.next b
          try (replace RB := RB.next b)
          replace Kw := bel_then Kw b
          replace Kt := bel_then Kt b
          have Cd := Bd.cell
          have Cs := Bs.cell
          try (have RBc := RB.cell)
          try (have RBf := RB.frozen)
          have RB : Blk (wz.alloc (.cells #[.slice none 0 0, .slice none 0 0, .slice none 0 0, .slice none 0 0, .slice none 0 0] 37)) wz.heap.size 37 [.slice none 0 0, .slice none 0 0, .slice none 0 0, .slice none 0 0, .slice none 0 0] := Blk.at_ rfl
          have RBc := RB.cell
          have RBf := RB.frozen
          have RL := RB.lt
          clear b
          generalize wz.heap.size = gR at *
          generalize wz.alloc (.cells #[.slice none 0 0, .slice none 0 0, .slice none 0 0, .slice none 0 0, .slice none 0 0] 37) = wz at *
          refine hK.out _ _ (by (try dsimp only); exact ⟨Cd 0, Cd 1, Cd 2, Cd 3, Cd 4, Cs 0, Cs 1, Cs 2, Cs 3, Cs 4, Cs 5⟩) (fun hHeld => ?_)
          clear hK K
          try simp only [Act.put, List.setIfInBounds_toArray, List.set_cons_zero, List.set_cons_succ, List.getElem_toArray, List.getElem_cons_zero, List.getElem_cons_succ]
          refine wpAnyH_ready (rs := [9]) (by kernel_rfl) (by simp) ?_
          refine AllReadyH.cons rfl (fun K hK => ?_) AllReadyH.nil
          go_simp
          refine hK.out _ _ (by (try dsimp only); have E := ((((((Only.refl (fun b => b = gR) wz).setCell (p := ⟨gR, 0, none⟩) rfl (.slice HRr.A0 HRr.n0 HRr.c0)).setCell (p := ⟨gR, 1, none⟩) rfl (.slice HRr.A1 HRr.n1 HRr.c1)).setCell (p := ⟨gR, 2, none⟩) rfl (.slice HRr.A2 HRr.n2 HRr.c2)).setCell (p := ⟨gR, 3, none⟩) rfl (.slice HRr.A3 HRr.n3 HRr.c3)).setCell (p := ⟨gR, 4, none⟩) rfl (.slice HRr.A4 HRr.n4 HRr.c4)); exact ⟨(Bd.only E (fun h => by omega)).cell 0, (Bd.only E (fun h => by omega)).cell 1, (Bd.only E (fun h => by omega)).cell 2, (Bd.only E (fun h => by omega)).cell 3, (Bd.only E (fun h => by omega)).cell 4, (Bs.only E (fun h => by omega)).cell 0, (Bs.only E (fun h => by omega)).cell 1, (Bs.only E (fun h => by omega)).cell 2, (Bs.only E (fun h => by omega)).cell 3, (Bs.only E (fun h => by omega)).cell 4, (Bs.only E (fun h => by omega)).cell 5⟩) (fun hHeld => ?_)
          clear hK K
          try simp only [Act.put, List.setIfInBounds_toArray, List.set_cons_zero, List.set_cons_succ, List.getElem_toArray, List.getElem_cons_zero, List.getElem_cons_succ]
          refine wpAnyH_take (i := 10) (v := ?_) rfl (by kernel_rfl) (by kernel_rfl) (by kernel_rfl) (fun _ _ _ h => h) (Or.inl ⟨by rfl, ?_⟩) (by assumption) ?_
          rotate_left 1
          · (intro w hSw; (try dsimp only at hSw); go_simp; try with_reducible rfl)
          simp only [Act.put, List.setIfInBounds_toArray, List.set_cons_zero, List.set_cons_succ, List.getElem_toArray, List.getElem_cons_zero, List.getElem_cons_succ]
          refine wpAnyH_done (by kernel_rfl) ?_ _
          have E := ((((((Only.refl (fun b => b = gR) wz).setCell (p := ⟨gR, 0, none⟩) rfl (.slice HRr.A0 HRr.n0 HRr.c0)).setCell (p := ⟨gR, 1, none⟩) rfl (.slice HRr.A1 HRr.n1 HRr.c1)).setCell (p := ⟨gR, 2, none⟩) rfl (.slice HRr.A2 HRr.n2 HRr.c2)).setCell (p := ⟨gR, 3, none⟩) rfl (.slice HRr.A3 HRr.n3 HRr.c3)).setCell (p := ⟨gR, 4, none⟩) rfl (.slice HRr.A4 HRr.n4 HRr.c4))
          have zE := E.size
          have RLz := RB.lt
          go_wp2_with fail
          go_meet
          exact ⟨gR, _, _, HRr, rfl, rfl, (((((RB.set_ 0 (.slice HRr.A0 HRr.n0 HRr.c0)).set_ 1 (.slice HRr.A1 HRr.n1 HRr.c1)).set_ 2 (.slice HRr.A2 HRr.n2 HRr.c2)).set_ 3 (.slice HRr.A3 HRr.n3 HRr.c3)).set_ 4 (.slice HRr.A4 HRr.n4 HRr.c4)), MR.only E (fun b h1 h2 => by have := h1.1; have := h1.2; omega), FR, GR, ⟨by omega, by omega, by omega, by omega, by omega⟩, Kt.trans (E.below (fun b hb => by omega) Kt.size)⟩
        refine AllReadyH.cons rfl (fun K hK => ?_) AllReadyH.nil
        · go_simp
          have zg := Kt.size
          have b : Below wz.heap.size wz (wz.alloc (.cells #[.slice none 0 0, .slice none 0 0, .slice none 0 0, .slice none 0 0, .slice none 0 0] 37)) := (Below.refl _ _).alloc (Nat.le_refl _) _
          try (replace MP0 := MP0.next b)
          try (replace MP1 := MP1.next b)
          try (replace MR := MR.next b)
          clear Cd Cs
          replace Bd := Bd.next b
          replace Bs := Bs.next b
          try (replace RB := RB.next b)
          replace Kw := bel_then Kw b
          replace Kt := bel_then Kt b
          have Cd := Bd.cell
          have Cs := Bs.cell
          try (have RBc := RB.cell)
          try (have RBf := RB.frozen)
          have RB : Blk (wz.alloc (.cells #[.slice none 0 0, .slice none 0 0, .slice none 0 0, .slice none 0 0, .slice none 0 0] 37)) wz.heap.size 37 [.slice none 0 0, .slice none 0 0, .slice none 0 0, .slice none 0 0, .slice none 0 0] := Blk.at_ rfl
          have RBc := RB.cell
          have RBf := RB.frozen
          have RL := RB.lt
          clear b
          generalize wz.heap.size = gR at *
          generalize wz.alloc (.cells #[.slice none 0 0, .slice none 0 0, .slice none 0 0, .slice none 0 0, .slice none 0 0] 37) = wz at *
          refine hK.out _ _ (by (try dsimp only); exact ⟨Cd 0, Cd 1, Cd 2, Cd 3, Cd 4, Cs 0, Cs 1, Cs 2, Cs 3, Cs 4, Cs 5⟩) (fun hHeld => ?_)
          clear hK K
          try simp only [Act.put, List.setIfInBounds_toArray, List.set_cons_zero, List.set_cons_succ, List.getElem_toArray, List.getElem_cons_zero, List.getElem_cons_succ]
          refine wpAnyH_ready (rs := [4]) (by kernel_rfl) (by simp) ?_
          refine AllReadyH.cons rfl (fun K hK => ?_) AllReadyH.nil
          go_simp
          try (have RLc := RB.lt)
          have zlo := Kt.size
          refine (specStepDesk_any _ d _ _ _ s _ MP0.sees (DeskFit.at_ hnd') (Nat.le_refl _) MP1.sees hns').mono ?_
          rw [HR.out]
          rintro e wz ⟨HRr, rfl, MR, FR, GR, b⟩
          clear Cd Cs
          replace Bd := Bd.next b
          replace Bs := Bs.next b
          try (replace RB := RB.next b)
          replace Kw := bel_then Kw b
          replace Kt := bel_then Kt b
          have Cd := Bd.cell
          have Cs := Bs.cell
          try (have RBc := RB.cell)
          try (have RBf := RB.frozen)
          have zhi := b.size
          clear b
          go_wp2_with fail
          refine hK.out _ _ (by (try dsimp only); exact ⟨Cd 0, Cd 1, Cd 2, Cd 3, Cd 4, Cs 0, Cs 1, Cs 2, Cs 3, Cs 4, Cs 5⟩) (fun hHeld => ?_)
          clear hK K
          refine wpAnyH_take (i := 5) (v := ?_) rfl (by kernel_rfl) (by kernel_rfl) (by kernel_rfl) (fun _ _ _ h => h) (Or.inl ⟨by rfl, ?_⟩) (by assumption) ?_
          rotate_left 1
          · (intro w hSw; (try dsimp only at hSw); go_simp; try with_reducible rfl)
          simp only [Act.put, List.setIfInBounds_toArray, List.set_cons_zero, List.set_cons_succ, List.getElem_toArray, List.getElem_cons_zero, List.getElem_cons_succ]
          refine wpAnyH_take (i := 6) (v := ?_) rfl (by kernel_rfl) (by kernel_rfl) (by kernel_rfl) (fun _ _ _ h => h) (Or.inl ⟨by rfl, ?_⟩) (by assumption) ?_
          rotate_left 1
          · (intro w hSw; (try dsimp only at hSw); go_simp; try with_reducible rfl)
          simp only [Act.put, List.setIfInBounds_toArray, List.set_cons_zero, List.set_cons_succ, List.getElem_toArray, List.getElem_cons_zero, List.getElem_cons_succ]
          refine wpAnyH_take (i := 7) (v := ?_) rfl (by kernel_rfl) (by kernel_rfl) (by kernel_rfl) (fun _ _ _ h => h) (Or.inl ⟨by rfl, ?_⟩) (by assumption) ?_
          rotate_left 1
          · (intro w hSw; (try dsimp only at hSw); go_simp; try with_reducible rfl)
          simp only [Act.put, List.setIfInBounds_toArray, List.set_cons_zero, List.set_cons_succ, List.getElem_toArray, List.getElem_cons_zero, List.getElem_cons_succ]
          refine wpAnyH_ready (rs := [9]) (by kernel_rfl) (by simp) ?_
          refine AllReadyH.cons rfl (fun K hK => ?_) AllReadyH.nil
          go_simp
          refine hK.out _ _ (by (try dsimp only); have E := ((((((Only.refl (fun b => b = gR) wz).setCell (p := ⟨gR, 0, none⟩) rfl (.slice HRr.A0 HRr.n0 HRr.c0)).setCell (p := ⟨gR, 1, none⟩) rfl (.slice HRr.A1 HRr.n1 HRr.c1)).setCell (p := ⟨gR, 2, none⟩) rfl (.slice HRr.A2 HRr.n2 HRr.c2)).setCell (p := ⟨gR, 3, none⟩) rfl (.slice HRr.A3 HRr.n3 HRr.c3)).setCell (p := ⟨gR, 4, none⟩) rfl (.slice HRr.A4 HRr.n4 HRr.c4)); exact ⟨(Bd.only E (fun h => by omega)).cell 0, (Bd.only E (fun h => by omega)).cell 1, (Bd.only E (fun h => by omega)).cell 2, (Bd.only E (fun h => by omega)).cell 3, (Bd.only E (fun h => by omega)).cell 4, (Bs.only E (fun h => by omega)).cell 0, (Bs.only E (fun h => by omega)).cell 1, (Bs.only E (fun h => by omega)).cell 2, (Bs.only E (fun h => by omega)).cell 3, (Bs.only E (fun h => by omega)).cell 4, (Bs.only E (fun h => by omega)).cell 5⟩) (fun hHeld => ?_)
          clear hK K
          try simp only [Act.put, List.setIfInBounds_toArray, List.set_cons_zero, List.set_cons_succ, List.getElem_toArray, List.getElem_cons_zero, List.getElem_cons_succ]
          refine wpAnyH_take (i := 10) (v := ?_) rfl (by kernel_rfl) (by kernel_rfl) (by kernel_rfl) (fun _ _ _ h => h) (Or.inl ⟨by rfl, ?_⟩) (by assumption) ?_
          rotate_left 1
          · (intro w hSw; (try dsimp only at hSw); go_simp; try with_reducible rfl)
          simp only [Act.put, List.setIfInBounds_toArray, List.set_cons_zero, List.set_cons_succ, List.getElem_toArray, List.getElem_cons_zero, List.getElem_cons_succ]
          refine wpAnyH_done (by kernel_rfl) ?_ _
          have E := ((((((Only.refl (fun b => b = gR) wz).setCell (p := ⟨gR, 0, none⟩) rfl (.slice HRr.A0 HRr.n0 HRr.c0)).setCell (p := ⟨gR, 1, none⟩) rfl (.slice HRr.A1 HRr.n1 HRr.c1)).setCell (p := ⟨gR, 2, none⟩) rfl (.slice HRr.A2 HRr.n2 HRr.c2)).setCell (p := ⟨gR, 3, none⟩) rfl (.slice HRr.A3 HRr.n3 HRr.c3)).setCell (p := ⟨gR, 4, none⟩) rfl (.slice HRr.A4 HRr.n4 HRr.c4))
          have zE := E.size
          have RLz := RB.lt
          go_wp2_with fail
          go_meet
          exact ⟨gR, _, _, HRr, rfl, rfl, (((((RB.set_ 0 (.slice HRr.A0 HRr.n0 HRr.c0)).set_ 1 (.slice HRr.A1 HRr.n1 HRr.c1)).set_ 2 (.slice HRr.A2 HRr.n2 HRr.c2)).set_ 3 (.slice HRr.A3 HRr.n3 HRr.c3)).set_ 4 (.slice HRr.A4 HRr.n4 HRr.c4)), MR.only E (fun b h1 h2 => by have := h1.1; have := h1.2; omega), FR, GR, ⟨by omega, by omega, by omega, by omega, by omega⟩, Kt.trans (E.below (fun b hb => by omega) Kt.size)⟩
      refine AllReadyH.cons rfl (fun K hK => ?_) AllReadyH.nil
      · go_simp
        have zg := Kt.size
        have b : Below wz.heap.size wz (wz.alloc (.cells #[.slice none 0 0, .slice none 0 0, .slice none 0 0, .slice none 0 0, .slice none 0 0] 37)) := (Below.refl _ _).alloc (Nat.le_refl _) _
        try (replace MP0 := MP0.next b)
        try (replace MP1 := MP1.next b)
        try (replace MR := MR.next b)
        clear Cd Cs
        replace Bd := Bd.next b
        replace Bs := Bs.next b
        try (replace RB := RB.next b)
        replace Kw := bel_then Kw b
        replace Kt := bel_then Kt b
        have Cd := Bd.cell
        have Cs := Bs.cell
        try (have RBc := RB.cell)
        try (have RBf := RB.frozen)
        have RB : Blk (wz.alloc (.cells #[.slice none 0 0, .slice none 0 0, .slice none 0 0, .slice none 0 0, .slice none 0 0] 37)) wz.heap.size 37 [.slice none 0 0, .slice none 0 0, .slice none 0 0, .slice none 0 0, .slice none 0 0] := Blk.at_ rfl
        have RBc := RB.cell
        have RBf := RB.frozen
        have RL := RB.lt
        clear b
        generalize wz.heap.size = gR at *
        generalize wz.alloc (.cells #[.slice none 0 0, .slice none 0 0, .slice none 0 0, .slice none 0 0, .slice none 0 0] 37) = wz at *
        refine hK.out _ _ (by (try dsimp only); exact ⟨Cd 0, Cd 1, Cd 2, Cd 3, Cd 4, Cs 0, Cs 1, Cs 2, Cs 3, Cs 4, Cs 5⟩) (fun hHeld => ?_)
        clear hK K
        try simp only [Act.put, List.setIfInBounds_toArray, List.set_cons_zero, List.set_cons_succ, List.getElem_toArray, List.getElem_cons_zero, List.getElem_cons_succ]
        refine wpAnyH_ready (rs := [3]) (by kernel_rfl) (by simp) ?_
        refine AllReadyH.cons rfl (fun K hK => ?_) AllReadyH.nil
        go_simp
        refine (toDeskStep_any _ _ _ _ s _ (hs.below Kw (Nat.le_refl _)) hns').mono ?_
        rintro e wz ⟨AP1a, rfl, MP1, b⟩
        clear Cd Cs
        replace Bd := Bd.next b
        replace Bs := Bs.next b
        replace MP0 := MP0.next b
        try (replace RB := RB.next b)
        replace Kw := bel_then Kw b
        replace Kt := bel_then Kt b
        have Cd := Bd.cell
        have Cs := Bs.cell
        try (have RBc := RB.cell)
        try (have RBf := RB.frozen)
        clear b
        go_wp2_with fail
        refine hK.out _ _ (by (try dsimp only); exact ⟨Cd 0, Cd 1, Cd 2, Cd 3, Cd 4, Cs 0, Cs 1, Cs 2, Cs 3, Cs 4, Cs 5⟩) (fun hHeld => ?_)
        clear hK K
        refine wpAnyH_ready (rs := [4]) (by kernel_rfl) (by simp) ?_
        refine AllReadyH.cons rfl (fun K hK => ?_) AllReadyH.nil
        go_simp
        try (have RLc := RB.lt)
        have zlo := Kt.size
        refine (specStepDesk_any _ d _ _ _ s _ MP0.sees (DeskFit.at_ hnd') (Nat.le_refl _) MP1.sees hns').mono ?_
        rw [HR.out]
        rintro e wz ⟨HRr, rfl, MR, FR, GR, b⟩
        clear Cd Cs
        replace Bd := Bd.next b
        replace Bs := Bs.next b
        try (replace RB := RB.next b)
        replace Kw := bel_then Kw b
        replace Kt := bel_then Kt b
        have Cd := Bd.cell
        have Cs := Bs.cell
        try (have RBc := RB.cell)
        try (have RBf := RB.frozen)
        have zhi := b.size
        clear b
        go_wp2_with fail
        refine hK.out _ _ (by (try dsimp only); exact ⟨Cd 0, Cd 1, Cd 2, Cd 3, Cd 4, Cs 0, Cs 1, Cs 2, Cs 3, Cs 4, Cs 5⟩) (fun hHeld => ?_)
        clear hK K
        refine wpAnyH_take (i := 5) (v := ?_) rfl (by kernel_rfl) (by kernel_rfl) (by kernel_rfl) (fun _ _ _ h => h) (Or.inl ⟨by rfl, ?_⟩) (by assumption) ?_
        rotate_left 1
        · (intro w hSw; (try dsimp only at hSw); go_simp; try with_reducible rfl)
        simp only [Act.put, List.setIfInBounds_toArray, List.set_cons_zero, List.set_cons_succ, List.getElem_toArray, List.getElem_cons_zero, List.getElem_cons_succ]
        refine wpAnyH_take (i := 6) (v := ?_) rfl (by kernel_rfl) (by kernel_rfl) (by kernel_rfl) (fun _ _ _ h => h) (Or.inl ⟨by rfl, ?_⟩) (by assumption) ?_
        rotate_left 1
        · (intro w hSw; (try dsimp only at hSw); go_simp; try with_reducible rfl)
        simp only [Act.put, List.setIfInBounds_toArray, List.set_cons_zero, List.set_cons_succ, List.getElem_toArray, List.getElem_cons_zero, List.getElem_cons_succ]
        refine wpAnyH_take (i := 7) (v := ?_) rfl (by kernel_rfl) (by kernel_rfl) (by kernel_rfl) (fun _ _ _ h => h) (Or.inl ⟨by rfl, ?_⟩) (by assumption) ?_
        rotate_left 1
        · (intro w hSw; (try dsimp only at hSw); go_simp; try with_reducible rfl)
        simp only [Act.put, List.setIfInBounds_toArray, List.set_cons_zero, List.set_cons_succ, List.getElem_toArray, List.getElem_cons_zero, List.getElem_cons_succ]
        refine wpAnyH_ready (rs := [9]) (by kernel_rfl) (by simp) ?_
        refine AllReadyH.cons rfl (fun K hK => ?_) AllReadyH.nil
        go_simp
        refine hK.out _ _ (by (try dsimp only); have E := ((((((Only.refl (fun b => b = gR) wz).setCell (p := ⟨gR, 0, none⟩) rfl (.slice HRr.A0 HRr.n0 HRr.c0)).setCell (p := ⟨gR, 1, none⟩) rfl (.slice HRr.A1 HRr.n1 HRr.c1)).setCell (p := ⟨gR, 2, none⟩) rfl (.slice HRr.A2 HRr.n2 HRr.c2)).setCell (p := ⟨gR, 3, none⟩) rfl (.slice HRr.A3 HRr.n3 HRr.c3)).setCell (p := ⟨gR, 4, none⟩) rfl (.slice HRr.A4 HRr.n4 HRr.c4)); exact ⟨(Bd.only E (fun h => by omega)).cell 0, (Bd.only E (fun h => by omega)).cell 1, (Bd.only E (fun h => by omega)).cell 2, (Bd.only E (fun h => by omega)).cell 3, (Bd.only E (fun h => by omega)).cell 4, (Bs.only E (fun h => by omega)).cell 0, (Bs.only E (fun h => by omega)).cell 1, (Bs.only E (fun h => by omega)).cell 2, (Bs.only E (fun h => by omega)).cell 3, (Bs.only E (fun h => by omega)).cell 4, (Bs.only E (fun h => by omega)).cell 5⟩) (fun hHeld => ?_)
        clear hK K
        try simp only [Act.put, List.setIfInBounds_toArray, List.set_cons_zero, List.set_cons_succ, List.getElem_toArray, List.getElem_cons_zero, List.getElem_cons_succ]
        refine wpAnyH_take (i := 10) (v := ?_) rfl (by kernel_rfl) (by kernel_rfl) (by kernel_rfl) (fun _ _ _ h => h) (Or.inl ⟨by rfl, ?_⟩) (by assumption) ?_
        rotate_left 1
        · (intro w hSw; (try dsimp only at hSw); go_simp; try with_reducible rfl)
        simp only [Act.put, List.setIfInBounds_toArray, List.set_cons_zero, List.set_cons_succ, List.getElem_toArray, List.getElem_cons_zero, List.getElem_cons_succ]
        refine wpAnyH_done (by kernel_rfl) ?_ _
        have E := ((((((Only.refl (fun b => b = gR) wz).setCell (p := ⟨gR, 0, none⟩) rfl (.slice HRr.A0 HRr.n0 HRr.c0)).setCell (p := ⟨gR, 1, none⟩) rfl (.slice HRr.A1 HRr.n1 HRr.c1)).setCell (p := ⟨gR, 2, none⟩) rfl (.slice HRr.A2 HRr.n2 HRr.c2)).setCell (p := ⟨gR, 3, none⟩) rfl (.slice HRr.A3 HRr.n3 HRr.c3)).setCell (p := ⟨gR, 4, none⟩) rfl (.slice HRr.A4 HRr.n4 HRr.c4))
        have zE := E.size
        have RLz := RB.lt
        go_wp2_with fail
        go_meet
        exact ⟨gR, _, _, HRr, rfl, rfl, (((((RB.set_ 0 (.slice HRr.A0 HRr.n0 HRr.c0)).set_ 1 (.slice HRr.A1 HRr.n1 HRr.c1)).set_ 2 (.slice HRr.A2 HRr.n2 HRr.c2)).set_ 3 (.slice HRr.A3 HRr.n3 HRr.c3)).set_ 4 (.slice HRr.A4 HRr.n4 HRr.c4)), MR.only E (fun b h1 h2 => by have := h1.1; have := h1.2; omega), FR, GR, ⟨by omega, by omega, by omega, by omega, by omega⟩, Kt.trans (E.below (fun b hb => by omega) Kt.size)⟩
    refine AllReadyH.cons rfl (fun K hK => ?_) AllReadyH.nil
    · go_simp
      have zg := Kt.size
      have b : Below wz.heap.size wz (wz.alloc (.cells #[.slice none 0 0, .slice none 0 0, .slice none 0 0, .slice none 0 0, .slice none 0 0] 37)) := (Below.refl _ _).alloc (Nat.le_refl _) _
      try (replace MP0 := MP0.next b)
      try (replace MP1 := MP1.next b)
      try (replace MR := MR.next b)
      clear Cd Cs
      replace Bd := Bd.next b
      replace Bs := Bs.next b
      try (replace RB := RB.next b)
      replace Kw := bel_then Kw b
      replace Kt := bel_then Kt b
      have Cd := Bd.cell
      have Cs := Bs.cell
      try (have RBc := RB.cell)
      try (have RBf := RB.frozen)
      have RB : Blk (wz.alloc (.cells #[.slice none 0 0, .slice none 0 0, .slice none 0 0, .slice none 0 0, .slice none 0 0] 37)) wz.heap.size 37 [.slice none 0 0, .slice none 0 0, .slice none 0 0, .slice none 0 0, .slice none 0 0] := Blk.at_ rfl
      have RBc := RB.cell
      have RBf := RB.frozen
      have RL := RB.lt
      clear b
      generalize wz.heap.size = gR at *
      generalize wz.alloc (.cells #[.slice none 0 0, .slice none 0 0, .slice none 0 0, .slice none 0 0, .slice none 0 0] 37) = wz at *
      refine hK.out _ _ (by (try dsimp only); exact ⟨Cd 0, Cd 1, Cd 2, Cd 3, Cd 4, Cs 0, Cs 1, Cs 2, Cs 3, Cs 4, Cs 5⟩) (fun hHeld => ?_)
      clear hK K
      try simp only [Act.put, List.setIfInBounds_toArray, List.set_cons_zero, List.set_cons_succ, List.getElem_toArray, List.getElem_cons_zero, List.getElem_cons_succ]
      refine wpAnyH_ready (rs := [1]) (by kernel_rfl) (by simp) ?_
      refine AllReadyH.cons rfl (fun K hK => ?_) AllReadyH.nil
      go_simp
      refine (toDesk_any _ d _ (hd.below Kw (Nat.le_refl _)) hnd').mono ?_
      rintro e wz ⟨AP0a, AP0b, AP0c, AP0d, AP0e, rfl, MP0, b⟩
      clear Cd Cs
      replace Bd := Bd.next b
      replace Bs := Bs.next b
      try (replace RB := RB.next b)
      replace Kw := bel_then Kw b
      replace Kt := bel_then Kt b
      have Cd := Bd.cell
      have Cs := Bs.cell
      try (have RBc := RB.cell)
      try (have RBf := RB.frozen)
      clear b
      go_wp2_with fail
      refine hK.out _ _ (by (try dsimp only); exact ⟨Cd 0, Cd 1, Cd 2, Cd 3, Cd 4, Cs 0, Cs 1, Cs 2, Cs 3, Cs 4, Cs 5⟩) (fun hHeld => ?_)
      clear hK K
      refine wpAnyH_ready (rs := [3]) (by kernel_rfl) (by simp) ?_
      refine AllReadyH.cons rfl (fun K hK => ?_) AllReadyH.nil
      go_simp
      refine (toDeskStep_any _ _ _ _ s _ (hs.below Kw (Nat.le_refl _)) hns').mono ?_
      rintro e wz ⟨AP1a, rfl, MP1, b⟩
      clear Cd Cs
      replace Bd := Bd.next b
      replace Bs := Bs.next b
      replace MP0 := MP0.next b
      try (replace RB := RB.next b)
      replace Kw := bel_then Kw b
      replace Kt := bel_then Kt b
      have Cd := Bd.cell
      have Cs := Bs.cell
      try (have RBc := RB.cell)
      try (have RBf := RB.frozen)
      clear b
      go_wp2_with fail
      refine hK.out _ _ (by (try dsimp only); exact ⟨Cd 0, Cd 1, Cd 2, Cd 3, Cd 4, Cs 0, Cs 1, Cs 2, Cs 3, Cs 4, Cs 5⟩) (fun hHeld => ?_)
      clear hK K
      refine wpAnyH_ready (rs := [4]) (by kernel_rfl) (by simp) ?_
      refine AllReadyH.cons rfl (fun K hK => ?_) AllReadyH.nil
      go_simp
      try (have RLc := RB.lt)
      have zlo := Kt.size
      refine (specStepDesk_any _ d _ _ _ s _ MP0.sees (DeskFit.at_ hnd') (Nat.le_refl _) MP1.sees hns').mono ?_
      rw [HR.out]
      rintro e wz ⟨HRr, rfl, MR, FR, GR, b⟩
      clear Cd Cs
      replace Bd := Bd.next b
      replace Bs := Bs.next b
      try (replace RB := RB.next b)
      replace Kw := bel_then Kw b
      replace Kt := bel_then Kt b
      have Cd := Bd.cell
      have Cs := Bs.cell
      try (have RBc := RB.cell)
      try (have RBf := RB.frozen)
      have zhi := b.size
      clear b
      go_wp2_with fail
      refine hK.out _ _ (by (try dsimp only); exact ⟨Cd 0, Cd 1, Cd 2, Cd 3, Cd 4, Cs 0, Cs 1, Cs 2, Cs 3, Cs 4, Cs 5⟩) (fun hHeld => ?_)
      clear hK K
      refine wpAnyH_take (i := 5) (v := ?_) rfl (by kernel_rfl) (by kernel_rfl) (by kernel_rfl) (fun _ _ _ h => h) (Or.inl ⟨by rfl, ?_⟩) (by assumption) ?_
      rotate_left 1
      · (intro w hSw; (try dsimp only at hSw); go_simp; try with_reducible rfl)
      simp only [Act.put, List.setIfInBounds_toArray, List.set_cons_zero, List.set_cons_succ, List.getElem_toArray, List.getElem_cons_zero, List.getElem_cons_succ]
      refine wpAnyH_take (i := 6) (v := ?_) rfl (by kernel_rfl) (by kernel_rfl) (by kernel_rfl) (fun _ _ _ h => h) (Or.inl ⟨by rfl, ?_⟩) (by assumption) ?_
      rotate_left 1
      · (intro w hSw; (try dsimp only at hSw); go_simp; try with_reducible rfl)
      simp only [Act.put, List.setIfInBounds_toArray, List.set_cons_zero, List.set_cons_succ, List.getElem_toArray, List.getElem_cons_zero, List.getElem_cons_succ]
      refine wpAnyH_take (i := 7) (v := ?_) rfl (by kernel_rfl) (by kernel_rfl) (by kernel_rfl) (fun _ _ _ h => h) (Or.inl ⟨by rfl, ?_⟩) (by assumption) ?_
      rotate_left 1
      · (intro w hSw; (try dsimp only at hSw); go_simp; try with_reducible rfl)
      simp only [Act.put, List.setIfInBounds_toArray, List.set_cons_zero, List.set_cons_succ, List.getElem_toArray, List.getElem_cons_zero, List.getElem_cons_succ]
      refine wpAnyH_ready (rs := [9]) (by kernel_rfl) (by simp) ?_
      refine AllReadyH.cons rfl (fun K hK => ?_) AllReadyH.nil
      go_simp
      refine hK.out _ _ (by (try dsimp only); have E := ((((((Only.refl (fun b => b = gR) wz).setCell (p := ⟨gR, 0, none⟩) rfl (.slice HRr.A0 HRr.n0 HRr.c0)).setCell (p := ⟨gR, 1, none⟩) rfl (.slice HRr.A1 HRr.n1 HRr.c1)).setCell (p := ⟨gR, 2, none⟩) rfl (.slice HRr.A2 HRr.n2 HRr.c2)).setCell (p := ⟨gR, 3, none⟩) rfl (.slice HRr.A3 HRr.n3 HRr.c3)).setCell (p := ⟨gR, 4, none⟩) rfl (.slice HRr.A4 HRr.n4 HRr.c4)); exact ⟨(Bd.only E (fun h => by omega)).cell 0, (Bd.only E (fun h => by omega)).cell 1, (Bd.only E (fun h => by omega)).cell 2, (Bd.only E (fun h => by omega)).cell 3, (Bd.only E (fun h => by omega)).cell 4, (Bs.only E (fun h => by omega)).cell 0, (Bs.only E (fun h => by omega)).cell 1, (Bs.only E (fun h => by omega)).cell 2, (Bs.only E (fun h => by omega)).cell 3, (Bs.only E (fun h => by omega)).cell 4, (Bs.only E (fun h => by omega)).cell 5⟩) (fun hHeld => ?_)
      clear hK K
      try simp only [Act.put, List.setIfInBounds_toArray, List.set_cons_zero, List.set_cons_succ, List.getElem_toArray, List.getElem_cons_zero, List.getElem_cons_succ]
      refine wpAnyH_take (i := 10) (v := ?_) rfl (by kernel_rfl) (by kernel_rfl) (by kernel_rfl) (fun _ _ _ h => h) (Or.inl ⟨by rfl, ?_⟩) (by assumption) ?_
      rotate_left 1
      · (intro w hSw; (try dsimp only at hSw); go_simp; try with_reducible rfl)
      simp only [Act.put, List.setIfInBounds_toArray, List.set_cons_zero, List.set_cons_succ, List.getElem_toArray, List.getElem_cons_zero, List.getElem_cons_succ]
      refine wpAnyH_done (by kernel_rfl) ?_ _
      have E := ((((((Only.refl (fun b => b = gR) wz).setCell (p := ⟨gR, 0, none⟩) rfl (.slice HRr.A0 HRr.n0 HRr.c0)).setCell (p := ⟨gR, 1, none⟩) rfl (.slice HRr.A1 HRr.n1 HRr.c1)).setCell (p := ⟨gR, 2, none⟩) rfl (.slice HRr.A2 HRr.n2 HRr.c2)).setCell (p := ⟨gR, 3, none⟩) rfl (.slice HRr.A3 HRr.n3 HRr.c3)).setCell (p := ⟨gR, 4, none⟩) rfl (.slice HRr.A4 HRr.n4 HRr.c4))
      have zE := E.size
      have RLz := RB.lt
      go_wp2_with fail
      go_meet
      exact ⟨gR, _, _, HRr, rfl, rfl, (((((RB.set_ 0 (.slice HRr.A0 HRr.n0 HRr.c0)).set_ 1 (.slice HRr.A1 HRr.n1 HRr.c1)).set_ 2 (.slice HRr.A2 HRr.n2 HRr.c2)).set_ 3 (.slice HRr.A3 HRr.n3 HRr.c3)).set_ 4 (.slice HRr.A4 HRr.n4 HRr.c4)), MR.only E (fun b h1 h2 => by have := h1.1; have := h1.2; omega), FR, GR, ⟨by omega, by omega, by omega, by omega, by omega⟩, Kt.trans (E.below (fun b hb => by omega) Kt.size)⟩
  obtain ⟨g3, lo3, hi3, H3, rfl, rfl, BR0, M3, F3, G3, hb3, b3⟩ := hcut
  obtain ⟨w3, rfl⟩ : ∃ w' : World, w' = wc := ⟨_, rfl⟩
  have K3 := bel_then K2 b3
  have Z3 := b3.size
  have Y3 := K3.size
  clear Cd Cs
  replace Bd := Bd.next b3
  replace Bs := Bs.next b3
  clear b3
  have Cd := Bd.cell
  have Cs := Bs.cell
  have V3 : H3.n0 ≤ 1048576 ∧ H3.n1 ≤ 1048576 ∧ H3.n2 ≤ 1048576 ∧ H3.n3 ≤ 1048576 ∧ H3.n4 ≤ 1048576 := ⟨F3.n0, F3.n1, F3.n2, F3.n3, F3.n4⟩
  have CR0 := BR0.cell
  go_wp2_with fail
  refine (toDesk_any _ d _ (hd.below K3 (Nat.le_refl _)) hnd').mono ?_
  rintro e w4 ⟨A4a, A4b, A4c, A4d, A4e, rfl, M4, b4⟩
  have K4 := bel_then K3 b4
  have Z4 := b4.size
  have Y4 := K4.size
  clear Cd Cs CR0
  replace Bd := Bd.next b4
  replace Bs := Bs.next b4
  replace M3 := M3.next b4
  replace BR0 := BR0.next b4
  clear b4
  have Cd := Bd.cell
  have Cs := Bs.cell
  have CR0 := BR0.cell
  have l5_0 : w.heap.size < w4.heap.size := by omega
  have l5_1 : w.heap.size + 1 < w4.heap.size := by omega
  have l5_2 : g3 < w4.heap.size := by omega
  go_wp2_with fail
  have b5 : Below w4.heap.size w4 (w4.alloc (.cells #[.slice A4a Hd.n0 Hd.n0, .slice A4b Hd.n1 Hd.n1, .slice A4c Hd.n2 Hd.n2, .slice A4d Hd.n3 Hd.n3, .slice A4e Hd.n4 Hd.n4] 37)) := (Below.refl _ _).alloc (Nat.le_refl _) _
  have BXd : Blk (w4.alloc (.cells #[.slice A4a Hd.n0 Hd.n0, .slice A4b Hd.n1 Hd.n1, .slice A4c Hd.n2 Hd.n2, .slice A4d Hd.n3 Hd.n3, .slice A4e Hd.n4 Hd.n4] 37)) w4.heap.size 37 [.slice A4a Hd.n0 Hd.n0, .slice A4b Hd.n1 Hd.n1, .slice A4c Hd.n2 Hd.n2, .slice A4d Hd.n3 Hd.n3, .slice A4e Hd.n4 Hd.n4] := Blk.at_ rfl
  have K5 := bel_then K4 b5
  have Z5 := b5.size
  have Y5 := K5.size
  clear Cd Cs CR0
  replace Bd := Bd.next b5
  replace Bs := Bs.next b5
  replace M3 := M3.next b5
  replace BR0 := BR0.next b5
  replace M4 := M4.next b5
  clear b5
  have Cd := Bd.cell
  have Cs := Bs.cell
  have CR0 := BR0.cell
  have V5 : w4.heap.size + 1 ≤ (w4.alloc (.cells #[.slice A4a Hd.n0 Hd.n0, .slice A4b Hd.n1 Hd.n1, .slice A4c Hd.n2 Hd.n2, .slice A4d Hd.n3 Hd.n3, .slice A4e Hd.n4 Hd.n4] 37)).heap.size := by simp
  generalize (w4.alloc (.cells #[.slice A4a Hd.n0 Hd.n0, .slice A4b Hd.n1 Hd.n1, .slice A4c Hd.n2 Hd.n2, .slice A4d Hd.n3 Hd.n3, .slice A4e Hd.n4 Hd.n4] 37)) = w5 at *
  have CXd := BXd.cell
  go_wp2_with fail
  refine (toDeskStep_any _ _ _ _ s _ (hs.below K5 (Nat.le_refl _)) hns').mono ?_
  rintro e w6 ⟨A6a, rfl, M6, b6⟩
  have K6 := bel_then K5 b6
  have Z6 := b6.size
  have Y6 := K6.size
  clear Cd Cs CR0 CXd
  replace Bd := Bd.next b6
  replace Bs := Bs.next b6
  replace M3 := M3.next b6
  replace BR0 := BR0.next b6
  replace M4 := M4.next b6
  replace BXd := BXd.next b6
  clear b6
  have Cd := Bd.cell
  have Cs := Bs.cell
  have CR0 := BR0.cell
  have CXd := BXd.cell
  have l7_0 : w.heap.size < w6.heap.size := by omega
  have l7_1 : w.heap.size + 1 < w6.heap.size := by omega
  have l7_2 : g3 < w6.heap.size := by omega
  have l7_3 : w4.heap.size < w6.heap.size := by omega
  go_wp2_with fail
  have b7 : Below w6.heap.size w6 (w6.alloc (.cells #[.int .i64 s.kind, .int .i64 s.number, .int .i64 s.cnumber, .int .i64 s.cstart, .int .i64 s.cfinish, .slice A6a ns ns] 45)) := (Below.refl _ _).alloc (Nat.le_refl _) _
  have BXs : Blk (w6.alloc (.cells #[.int .i64 s.kind, .int .i64 s.number, .int .i64 s.cnumber, .int .i64 s.cstart, .int .i64 s.cfinish, .slice A6a ns ns] 45)) w6.heap.size 45 [.int .i64 s.kind, .int .i64 s.number, .int .i64 s.cnumber, .int .i64 s.cstart, .int .i64 s.cfinish, .slice A6a ns ns] := Blk.at_ rfl
  have K7 := bel_then K6 b7
  have Z7 := b7.size
  have Y7 := K7.size
  clear Cd Cs CR0 CXd
  replace Bd := Bd.next b7
  replace Bs := Bs.next b7
  replace M3 := M3.next b7
  replace BR0 := BR0.next b7
  replace M4 := M4.next b7
  replace BXd := BXd.next b7
  replace M6 := M6.next b7
  clear b7
  have Cd := Bd.cell
  have Cs := Bs.cell
  have CR0 := BR0.cell
  have CXd := BXd.cell
  have V7 : w6.heap.size + 1 ≤ (w6.alloc (.cells #[.int .i64 s.kind, .int .i64 s.number, .int .i64 s.cnumber, .int .i64 s.cstart, .int .i64 s.cfinish, .slice A6a ns ns] 45)).heap.size := by simp
  generalize (w6.alloc (.cells #[.int .i64 s.kind, .int .i64 s.number, .int .i64 s.cnumber, .int .i64 s.cstart, .int .i64 s.cfinish, .slice A6a ns ns] 45)) = w7 at *
  have CXs := BXs.cell
  go_wp2_with fail
  refine (StepDesk_any _ d _ _ _ s _ M4.sees (DeskFit.at_ hnd') (Nat.le_refl _) M6.sees hns').mono ?_
  rw [HR.out]
  rintro e w8 ⟨H8, rfl, M8, F8, G8, b8⟩
  have K8 := bel_then K7 b8
  have Z8 := b8.size
  have Y8 := K8.size
  clear Cd Cs CR0 CXd CXs
  replace Bd := Bd.next b8
  replace Bs := Bs.next b8
  replace M3 := M3.next b8
  replace BR0 := BR0.next b8
  replace M4 := M4.next b8
  replace BXd := BXd.next b8
  replace M6 := M6.next b8
  replace BXs := BXs.next b8
  clear b8
  have Cd := Bd.cell
  have Cs := Bs.cell
  have CR0 := BR0.cell
  have CXd := BXd.cell
  have CXs := BXs.cell
  have V8 : H8.n0 ≤ 1048576 ∧ H8.n1 ≤ 1048576 ∧ H8.n2 ≤ 1048576 ∧ H8.n3 ≤ 1048576 ∧ H8.n4 ≤ 1048576 := ⟨F8.n0, F8.n1, F8.n2, F8.n3, F8.n4⟩
  have l9_0 : w.heap.size < w8.heap.size := by omega
  have l9_1 : w.heap.size + 1 < w8.heap.size := by omega
  have l9_2 : g3 < w8.heap.size := by omega
  have l9_3 : w4.heap.size < w8.heap.size := by omega
  have l9_4 : w6.heap.size < w8.heap.size := by omega
  go_wp2_with fail
  have b9 : Below w8.heap.size w8 (w8.alloc (.cells #[.slice H8.A0 H8.n0 H8.c0, .slice H8.A1 H8.n1 H8.c1, .slice H8.A2 H8.n2 H8.c2, .slice H8.A3 H8.n3 H8.c3, .slice H8.A4 H8.n4 H8.c4] 37)) := (Below.refl _ _).alloc (Nat.le_refl _) _
  have BR1 : Blk (w8.alloc (.cells #[.slice H8.A0 H8.n0 H8.c0, .slice H8.A1 H8.n1 H8.c1, .slice H8.A2 H8.n2 H8.c2, .slice H8.A3 H8.n3 H8.c3, .slice H8.A4 H8.n4 H8.c4] 37)) w8.heap.size 37 [.slice H8.A0 H8.n0 H8.c0, .slice H8.A1 H8.n1 H8.c1, .slice H8.A2 H8.n2 H8.c2, .slice H8.A3 H8.n3 H8.c3, .slice H8.A4 H8.n4 H8.c4] := Blk.at_ rfl
  have K9 := bel_then K8 b9
  have Z9 := b9.size
  have Y9 := K9.size
  clear Cd Cs CR0 CXd CXs
  replace Bd := Bd.next b9
  replace Bs := Bs.next b9
  replace M3 := M3.next b9
  replace BR0 := BR0.next b9
  replace M4 := M4.next b9
  replace BXd := BXd.next b9
  replace M6 := M6.next b9
  replace BXs := BXs.next b9
  replace M8 := M8.next b9
  clear b9
  have Cd := Bd.cell
  have Cs := Bs.cell
  have CR0 := BR0.cell
  have CXd := BXd.cell
  have CXs := BXs.cell
  have V9 : w8.heap.size + 1 ≤ (w8.alloc (.cells #[.slice H8.A0 H8.n0 H8.c0, .slice H8.A1 H8.n1 H8.c1, .slice H8.A2 H8.n2 H8.c2, .slice H8.A3 H8.n3 H8.c3, .slice H8.A4 H8.n4 H8.c4] 37)).heap.size := by simp
  generalize (w8.alloc (.cells #[.slice H8.A0 H8.n0 H8.c0, .slice H8.A1 H8.n1 H8.c1, .slice H8.A2 H8.n2 H8.c2, .slice H8.A3 H8.n3 H8.c3, .slice H8.A4 H8.n4 H8.c4] 37)) = w9 at *
  have CR1 := BR1.cell
  go_wp2_with fail
  refine (eqDesk_any _ _ _ _ _ _ _ M8.sees M3.sees rfl F8).mono ?_
  rintro e w10 ⟨rfl, b10⟩
  have K10 := bel_then K9 b10
  have Z10 := b10.size
  have Y10 := K10.size
  clear Cd Cs CR0 CXd CXs CR1
  replace Bd := Bd.next b10
  replace Bs := Bs.next b10
  replace M3 := M3.next b10
  replace BR0 := BR0.next b10
  replace M4 := M4.next b10
  replace BXd := BXd.next b10
  replace M6 := M6.next b10
  replace BXs := BXs.next b10
  replace M8 := M8.next b10
  replace BR1 := BR1.next b10
  clear b10
  have Cd := Bd.cell
  have Cs := Bs.cell
  have CR0 := BR0.cell
  have CXd := BXd.cell
  have CXs := BXs.cell
  have CR1 := BR1.cell
  go_wp2_with fail
  have b11 := (Quiet.one w10).below w10.heap.size
  have K11 := bel_then K10 b11
  have Z11 := b11.size
  have Y11 := K11.size
  replace Bd := Bd.next b11
  replace Bs := Bs.next b11
  replace M3 := M3.next b11
  replace BR0 := BR0.next b11
  replace M4 := M4.next b11
  replace BXd := BXd.next b11
  replace M6 := M6.next b11
  replace BXs := BXs.next b11
  replace M8 := M8.next b11
  replace BR1 := BR1.next b11
  clear b11
  go_region_held3 (fun w' => w'.cell? ⟨w.heap.size, 0, none⟩ = some (.slice Hd.A0 Hd.n0 Hd.c0) ∧ w'.cell? ⟨w.heap.size, 1, none⟩ = some (.slice Hd.A1 Hd.n1 Hd.c1) ∧ w'.cell? ⟨w.heap.size, 2, none⟩ = some (.slice Hd.A2 Hd.n2 Hd.c2) ∧ w'.cell? ⟨w.heap.size, 3, none⟩ = some (.slice Hd.A3 Hd.n3 Hd.c3) ∧ w'.cell? ⟨w.heap.size, 4, none⟩ = some (.slice Hd.A4 Hd.n4 Hd.c4) ∧ w'.cell? ⟨w.heap.size + 1, 0, none⟩ = some (.int .i64 s.kind) ∧ w'.cell? ⟨w.heap.size + 1, 1, none⟩ = some (.int .i64 s.number) ∧ w'.cell? ⟨w.heap.size + 1, 2, none⟩ = some (.int .i64 s.cnumber) ∧ w'.cell? ⟨w.heap.size + 1, 3, none⟩ = some (.int .i64 s.cstart) ∧ w'.cell? ⟨w.heap.size + 1, 4, none⟩ = some (.int .i64 s.cfinish) ∧ w'.cell? ⟨w.heap.size + 1, 5, none⟩ = some (.slice As ns cs) ∧ w'.cell? ⟨g3, 0, none⟩ = some (.slice H3.A0 H3.n0 H3.c0) ∧ w'.cell? ⟨g3, 1, none⟩ = some (.slice H3.A1 H3.n1 H3.c1) ∧ w'.cell? ⟨g3, 2, none⟩ = some (.slice H3.A2 H3.n2 H3.c2) ∧ w'.cell? ⟨g3, 3, none⟩ = some (.slice H3.A3 H3.n3 H3.c3) ∧ w'.cell? ⟨g3, 4, none⟩ = some (.slice H3.A4 H3.n4 H3.c4) ∧ w'.cell? ⟨w4.heap.size, 0, none⟩ = some (.slice A4a Hd.n0 Hd.n0) ∧ w'.cell? ⟨w4.heap.size, 1, none⟩ = some (.slice A4b Hd.n1 Hd.n1) ∧ w'.cell? ⟨w4.heap.size, 2, none⟩ = some (.slice A4c Hd.n2 Hd.n2) ∧ w'.cell? ⟨w4.heap.size, 3, none⟩ = some (.slice A4d Hd.n3 Hd.n3) ∧ w'.cell? ⟨w4.heap.size, 4, none⟩ = some (.slice A4e Hd.n4 Hd.n4) ∧ w'.cell? ⟨w6.heap.size, 0, none⟩ = some (.int .i64 s.kind) ∧ w'.cell? ⟨w6.heap.size, 1, none⟩ = some (.int .i64 s.number) ∧ w'.cell? ⟨w6.heap.size, 2, none⟩ = some (.int .i64 s.cnumber) ∧ w'.cell? ⟨w6.heap.size, 3, none⟩ = some (.int .i64 s.cstart) ∧ w'.cell? ⟨w6.heap.size, 4, none⟩ = some (.int .i64 s.cfinish) ∧ w'.cell? ⟨w6.heap.size, 5, none⟩ = some (.slice A6a ns ns) ∧ w'.cell? ⟨w8.heap.size, 0, none⟩ = some (.slice H8.A0 H8.n0 H8.c0) ∧ w'.cell? ⟨w8.heap.size, 1, none⟩ = some (.slice H8.A1 H8.n1 H8.c1) ∧ w'.cell? ⟨w8.heap.size, 2, none⟩ = some (.slice H8.A2 H8.n2 H8.c2) ∧ w'.cell? ⟨w8.heap.size, 3, none⟩ = some (.slice H8.A3 H8.n3 H8.c3) ∧ w'.cell? ⟨w8.heap.size, 4, none⟩ = some (.slice H8.A4 H8.n4 H8.c4)) (go_keep)
    (first
      | (go_at_call 8
         refine (toDesk_any _ d _ (hd.below K11 (Nat.le_refl _)) hnd').mono ?_
         rintro e w12 ⟨A12a, A12b, A12c, A12d, A12e, rfl, M12, b12⟩
         have K12 := bel_then K11 b12
         have Z12 := b12.size
         have Y12 := K12.size
         clear Cd Cs CR0 CXd CXs CR1
         replace Bd := Bd.next b12
         replace Bs := Bs.next b12
         replace M3 := M3.next b12
         replace BR0 := BR0.next b12
         replace M4 := M4.next b12
         replace BXd := BXd.next b12
         replace M6 := M6.next b12
         replace BXs := BXs.next b12
         replace M8 := M8.next b12
         replace BR1 := BR1.next b12
         clear b12
         have Cd := Bd.cell
         have Cs := Bs.cell
         have CR0 := BR0.cell
         have CXd := BXd.cell
         have CXs := BXs.cell
         have CR1 := BR1.cell)
      | (go_at_call 11
         refine (eqDesk_any _ _ _ _ _ _ _ M4.sees M12.sees rfl (DeskFit.at_ hnd')).mono ?_
         rintro e w13 ⟨rfl, b13⟩
         have K13 := bel_then K12 b13
         have Z13 := b13.size
         have Y13 := K13.size
         clear Cd Cs CR0 CXd CXs CR1
         replace Bd := Bd.next b13
         replace Bs := Bs.next b13
         replace M3 := M3.next b13
         replace BR0 := BR0.next b13
         replace M4 := M4.next b13
         replace BXd := BXd.next b13
         replace M6 := M6.next b13
         replace BXs := BXs.next b13
         replace M8 := M8.next b13
         replace BR1 := BR1.next b13
         replace M12 := M12.next b13
         clear b13
         have Cd := Bd.cell
         have Cs := Bs.cell
         have CR0 := BR0.cell
         have CXd := BXd.cell
         have CXs := BXs.cell
         have CR1 := BR1.cell))
  go_wp2_with fail
  have b14 := (Quiet.one w13).below w13.heap.size
  have K14 := bel_then K13 b14
  have Z14 := b14.size
  have Y14 := K14.size
  replace Bd := Bd.next b14
  replace Bs := Bs.next b14
  replace M3 := M3.next b14
  replace BR0 := BR0.next b14
  replace M4 := M4.next b14
  replace BXd := BXd.next b14
  replace M6 := M6.next b14
  replace BXs := BXs.next b14
  replace M8 := M8.next b14
  replace BR1 := BR1.next b14
  replace M12 := M12.next b14
  clear b14
  go_region_held3 (fun w' => w'.cell? ⟨w.heap.size, 0, none⟩ = some (.slice Hd.A0 Hd.n0 Hd.c0) ∧ w'.cell? ⟨w.heap.size, 1, none⟩ = some (.slice Hd.A1 Hd.n1 Hd.c1) ∧ w'.cell? ⟨w.heap.size, 2, none⟩ = some (.slice Hd.A2 Hd.n2 Hd.c2) ∧ w'.cell? ⟨w.heap.size, 3, none⟩ = some (.slice Hd.A3 Hd.n3 Hd.c3) ∧ w'.cell? ⟨w.heap.size, 4, none⟩ = some (.slice Hd.A4 Hd.n4 Hd.c4) ∧ w'.cell? ⟨w.heap.size + 1, 0, none⟩ = some (.int .i64 s.kind) ∧ w'.cell? ⟨w.heap.size + 1, 1, none⟩ = some (.int .i64 s.number) ∧ w'.cell? ⟨w.heap.size + 1, 2, none⟩ = some (.int .i64 s.cnumber) ∧ w'.cell? ⟨w.heap.size + 1, 3, none⟩ = some (.int .i64 s.cstart) ∧ w'.cell? ⟨w.heap.size + 1, 4, none⟩ = some (.int .i64 s.cfinish) ∧ w'.cell? ⟨w.heap.size + 1, 5, none⟩ = some (.slice As ns cs) ∧ w'.cell? ⟨g3, 0, none⟩ = some (.slice H3.A0 H3.n0 H3.c0) ∧ w'.cell? ⟨g3, 1, none⟩ = some (.slice H3.A1 H3.n1 H3.c1) ∧ w'.cell? ⟨g3, 2, none⟩ = some (.slice H3.A2 H3.n2 H3.c2) ∧ w'.cell? ⟨g3, 3, none⟩ = some (.slice H3.A3 H3.n3 H3.c3) ∧ w'.cell? ⟨g3, 4, none⟩ = some (.slice H3.A4 H3.n4 H3.c4) ∧ w'.cell? ⟨w4.heap.size, 0, none⟩ = some (.slice A4a Hd.n0 Hd.n0) ∧ w'.cell? ⟨w4.heap.size, 1, none⟩ = some (.slice A4b Hd.n1 Hd.n1) ∧ w'.cell? ⟨w4.heap.size, 2, none⟩ = some (.slice A4c Hd.n2 Hd.n2) ∧ w'.cell? ⟨w4.heap.size, 3, none⟩ = some (.slice A4d Hd.n3 Hd.n3) ∧ w'.cell? ⟨w4.heap.size, 4, none⟩ = some (.slice A4e Hd.n4 Hd.n4) ∧ w'.cell? ⟨w6.heap.size, 0, none⟩ = some (.int .i64 s.kind) ∧ w'.cell? ⟨w6.heap.size, 1, none⟩ = some (.int .i64 s.number) ∧ w'.cell? ⟨w6.heap.size, 2, none⟩ = some (.int .i64 s.cnumber) ∧ w'.cell? ⟨w6.heap.size, 3, none⟩ = some (.int .i64 s.cstart) ∧ w'.cell? ⟨w6.heap.size, 4, none⟩ = some (.int .i64 s.cfinish) ∧ w'.cell? ⟨w6.heap.size, 5, none⟩ = some (.slice A6a ns ns) ∧ w'.cell? ⟨w8.heap.size, 0, none⟩ = some (.slice H8.A0 H8.n0 H8.c0) ∧ w'.cell? ⟨w8.heap.size, 1, none⟩ = some (.slice H8.A1 H8.n1 H8.c1) ∧ w'.cell? ⟨w8.heap.size, 2, none⟩ = some (.slice H8.A2 H8.n2 H8.c2) ∧ w'.cell? ⟨w8.heap.size, 3, none⟩ = some (.slice H8.A3 H8.n3 H8.c3) ∧ w'.cell? ⟨w8.heap.size, 4, none⟩ = some (.slice H8.A4 H8.n4 H8.c4)) (go_keep)
    (first
      | (go_at_call 9
         refine (toDeskStep_any _ _ _ _ s _ (hs.below K14 (Nat.le_refl _)) hns').mono ?_
         rintro e w15 ⟨A15a, rfl, M15, b15⟩
         have K15 := bel_then K14 b15
         have Z15 := b15.size
         have Y15 := K15.size
         clear Cd Cs CR0 CXd CXs CR1
         replace Bd := Bd.next b15
         replace Bs := Bs.next b15
         replace M3 := M3.next b15
         replace BR0 := BR0.next b15
         replace M4 := M4.next b15
         replace BXd := BXd.next b15
         replace M6 := M6.next b15
         replace BXs := BXs.next b15
         replace M8 := M8.next b15
         replace BR1 := BR1.next b15
         replace M12 := M12.next b15
         clear b15
         have Cd := Bd.cell
         have Cs := Bs.cell
         have CR0 := BR0.cell
         have CXd := BXd.cell
         have CXs := BXs.cell
         have CR1 := BR1.cell)
      | (go_at_call 12
         refine (eqDeskStep_any _ _ _ _ _ _ _ _ _ _ _ M6.sees M15.sees rfl hns').mono ?_
         rintro e w16 ⟨rfl, b16⟩
         have K16 := bel_then K15 b16
         have Z16 := b16.size
         have Y16 := K16.size
         clear Cd Cs CR0 CXd CXs CR1
         replace Bd := Bd.next b16
         replace Bs := Bs.next b16
         replace M3 := M3.next b16
         replace BR0 := BR0.next b16
         replace M4 := M4.next b16
         replace BXd := BXd.next b16
         replace M6 := M6.next b16
         replace BXs := BXs.next b16
         replace M8 := M8.next b16
         replace BR1 := BR1.next b16
         replace M12 := M12.next b16
         replace M15 := M15.next b16
         clear b16
         have Cd := Bd.cell
         have Cs := Bs.cell
         have CR0 := BR0.cell
         have CXd := BXd.cell
         have CXs := BXs.cell
         have CR1 := BR1.cell))
  go_wp2_with fail
  refine (markDesk_any _ _ _ _ _ M4 (fun b hb => by have := hb.2; omega) (by omega) (by (try dsimp only); omega) (DeskFit.at_ hnd')).mono ?_
  rintro e w17 ⟨rfl, m17, q17⟩
  replace M4 := m17
  clear m17
  have b17 : Below w.heap.size w16 w17 := q17.below (fun i hi => by have := hi.1; omega) (by omega)
  have K17 := K16.trans b17
  have Z17 := q17.size
  have Y17 := K17.size
  clear b17
  clear Cd Cs CR0 CXd CXs CR1
  replace Bd := Bd.only q17 (fun h => by have := h.1; have := h.2; omega)
  replace Bs := Bs.only q17 (fun h => by have := h.1; have := h.2; omega)
  replace M3 := M3.only q17 (fun i h1 h2 => by have := h1.1; have := h1.2; have := h2.1; have := h2.2; omega)
  replace BR0 := BR0.only q17 (fun h => by have := h.1; have := h.2; omega)
  replace BXd := BXd.only q17 (fun h => by have := h.1; have := h.2; omega)
  replace M6 := M6.only q17 (fun i h1 h2 => by have := h1.1; have := h1.2; have := h2.1; have := h2.2; omega)
  replace BXs := BXs.only q17 (fun h => by have := h.1; have := h.2; omega)
  replace M8 := M8.only q17 (fun i h1 h2 => by have := h1.1; have := h1.2; have := h2.1; have := h2.2; omega)
  replace BR1 := BR1.only q17 (fun h => by have := h.1; have := h.2; omega)
  replace M12 := M12.only q17 (fun i h1 h2 => by have := h1.1; have := h1.2; have := h2.1; have := h2.2; omega)
  replace M15 := M15.only q17 (fun i h1 h2 => by have := h1.1; have := h1.2; have := h2.1; have := h2.2; omega)
  clear q17
  have Cd := Bd.cell
  have Cs := Bs.cell
  have CR0 := BR0.cell
  have CXd := BXd.cell
  have CXs := BXs.cell
  have CR1 := BR1.cell
  go_wp2_with fail
  refine (markDeskStep_any _ _ _ _ _ _ _ M6 (by omega) (by omega) hns').mono ?_
  rintro e w18 ⟨rfl, m18, q18⟩
  replace M6 := m18
  clear m18
  have b18 : Below w.heap.size w17 w18 := q18.below (fun i hi => by have := hi.1; omega) (by omega)
  have K18 := K17.trans b18
  have Z18 := q18.size
  have Y18 := K18.size
  clear b18
  clear Cd Cs CR0 CXd CXs CR1
  replace Bd := Bd.only q18 (fun h => by have := h.1; have := h.2; omega)
  replace Bs := Bs.only q18 (fun h => by have := h.1; have := h.2; omega)
  replace M3 := M3.only q18 (fun i h1 h2 => by have := h1.1; have := h1.2; have := h2.1; have := h2.2; omega)
  replace BR0 := BR0.only q18 (fun h => by have := h.1; have := h.2; omega)
  replace M4 := M4.only q18 (fun i h1 h2 => by have := h1.1; have := h1.2; have := h2.1; have := h2.2; omega)
  replace BXd := BXd.only q18 (fun h => by have := h.1; have := h.2; omega)
  replace BXs := BXs.only q18 (fun h => by have := h.1; have := h.2; omega)
  replace M8 := M8.only q18 (fun i h1 h2 => by have := h1.1; have := h1.2; have := h2.1; have := h2.2; omega)
  replace BR1 := BR1.only q18 (fun h => by have := h.1; have := h.2; omega)
  replace M12 := M12.only q18 (fun i h1 h2 => by have := h1.1; have := h1.2; have := h2.1; have := h2.2; omega)
  replace M15 := M15.only q18 (fun i h1 h2 => by have := h1.1; have := h1.2; have := h2.1; have := h2.2; omega)
  clear q18
  have Cd := Bd.cell
  have Cs := Bs.cell
  have CR0 := BR0.cell
  have CXd := BXd.cell
  have CXs := BXs.cell
  have CR1 := BR1.cell
  go_wp2_with fail
  refine (eqDesk_any _ _ _ _ _ _ _ M8.sees M3.sees rfl F8).mono ?_
  rintro e w19 ⟨rfl, b19⟩
  have K19 := bel_then K18 b19
  have Z19 := b19.size
  have Y19 := K19.size
  clear Cd Cs CR0 CXd CXs CR1
  replace Bd := Bd.next b19
  replace Bs := Bs.next b19
  replace M3 := M3.next b19
  replace BR0 := BR0.next b19
  replace M4 := M4.next b19
  replace BXd := BXd.next b19
  replace M6 := M6.next b19
  replace BXs := BXs.next b19
  replace M8 := M8.next b19
  replace BR1 := BR1.next b19
  replace M12 := M12.next b19
  replace M15 := M15.next b19
  clear b19
  have Cd := Bd.cell
  have Cs := Bs.cell
  have CR0 := BR0.cell
  have CXd := BXd.cell
  have CXs := BXs.cell
  have CR1 := BR1.cell
  go_wp2_with fail
  refine (markDesk_any _ _ _ _ _ M8 (fun b hb => by have := hb.2; omega) (by omega) (by (try dsimp only); omega) F8).mono ?_
  rintro e w20 ⟨rfl, m20, q20⟩
  replace M8 := m20
  clear m20
  have b20 : Below w.heap.size w19 w20 := q20.below (fun i hi => by have := hi.1; omega) (by omega)
  have K20 := K19.trans b20
  have Z20 := q20.size
  have Y20 := K20.size
  clear b20
  clear Cd Cs CR0 CXd CXs CR1
  replace Bd := Bd.only q20 (fun h => by have := h.1; have := h.2; omega)
  replace Bs := Bs.only q20 (fun h => by have := h.1; have := h.2; omega)
  replace M3 := M3.only q20 (fun i h1 h2 => by have := h1.1; have := h1.2; have := h2.1; have := h2.2; omega)
  replace BR0 := BR0.only q20 (fun h => by have := h.1; have := h.2; omega)
  replace M4 := M4.only q20 (fun i h1 h2 => by have := h1.1; have := h1.2; have := h2.1; have := h2.2; omega)
  replace BXd := BXd.only q20 (fun h => by have := h.1; have := h.2; omega)
  replace M6 := M6.only q20 (fun i h1 h2 => by have := h1.1; have := h1.2; have := h2.1; have := h2.2; omega)
  replace BXs := BXs.only q20 (fun h => by have := h.1; have := h.2; omega)
  replace BR1 := BR1.only q20 (fun h => by have := h.1; have := h.2; omega)
  replace M12 := M12.only q20 (fun i h1 h2 => by have := h1.1; have := h1.2; have := h2.1; have := h2.2; omega)
  replace M15 := M15.only q20 (fun i h1 h2 => by have := h1.1; have := h1.2; have := h2.1; have := h2.2; omega)
  clear q20
  have Cd := Bd.cell
  have Cs := Bs.cell
  have CR0 := BR0.cell
  have CXd := BXd.cell
  have CXs := BXs.cell
  have CR1 := BR1.cell
  go_wp2_with fail
  refine (heldDesk_any _ _ _ _ _ M8.sees (by omega) (by (try dsimp only); omega) F8).mono ?_
  rintro e w21 ⟨rfl, b21⟩
  have K21 := bel_then K20 b21
  have Z21 := b21.size
  have Y21 := K21.size
  clear Cd Cs CR0 CXd CXs CR1
  replace Bd := Bd.next b21
  replace Bs := Bs.next b21
  replace M3 := M3.next b21
  replace BR0 := BR0.next b21
  replace M4 := M4.next b21
  replace BXd := BXd.next b21
  replace M6 := M6.next b21
  replace BXs := BXs.next b21
  replace M8 := M8.next b21
  replace BR1 := BR1.next b21
  replace M12 := M12.next b21
  replace M15 := M15.next b21
  clear b21
  have Cd := Bd.cell
  have Cs := Bs.cell
  have CR0 := BR0.cell
  have CXd := BXd.cell
  have CXs := BXs.cell
  have CR1 := BR1.cell
  go_upto_region 31 with fail
  go_cut [15, 16] from 94 to 101 (fun s15 s16 wx => ∃ (g lo hi : Nat) (H : DeskH), s15 = .pointer (some ⟨g, 0, none⟩) ∧ s16 = .bool R.isSome ∧ Blk wx g 37 [.slice H.A0 H.n0 H.c0, .slice H.A1 H.n1 H.c1, .slice H.A2 H.n2 H.c2, .slice H.A3 H.n3 H.c3, .slice H.A4 H.n4 H.c4] ∧ MineDesk wx (In lo hi) H (R.getD deskZ) ∧ DeskFit 1048576 H (R.getD deskZ) ∧ H.n3 ≤ H.c3 ∧ (w21.heap.size ≤ lo ∧ hi ≤ wx.heap.size ∧ w21.heap.size ≤ g ∧ g < wx.heap.size ∧ (g < lo ∨ hi ≤ g)) ∧ Below w21.heap.size w21 wx)
  case first =>
    have b := (Quiet.one w21).below w21.heap.size
    have Kt := Below.refl w21.heap.size w21
    have Kw := K21
    clear Cd Cs CR0 CXd CXs CR1
    replace Bd := Bd.next b
    replace Bs := Bs.next b
    replace BR0 := BR0.next b
    replace BXd := BXd.next b
    replace BXs := BXs.next b
    replace BR1 := BR1.next b
    try (replace RB := RB.next b)
    replace Kw := bel_then Kw b
    replace Kt := bel_then Kt b
    have Cd := Bd.cell
    have Cs := Bs.cell
    have CR0 := BR0.cell
    have CXd := BXd.cell
    have CXs := BXs.cell
    have CR1 := BR1.cell
    try (have RBc := RB.cell)
    try (have RBf := RB.frozen)
    clear b
    go_wp2_with fail
    refine wp_region_held_drew (S := fun w' => w'.cell? ⟨w.heap.size, 0, none⟩ = some (.slice Hd.A0 Hd.n0 Hd.c0) ∧ w'.cell? ⟨w.heap.size, 1, none⟩ = some (.slice Hd.A1 Hd.n1 Hd.c1) ∧ w'.cell? ⟨w.heap.size, 2, none⟩ = some (.slice Hd.A2 Hd.n2 Hd.c2) ∧ w'.cell? ⟨w.heap.size, 3, none⟩ = some (.slice Hd.A3 Hd.n3 Hd.c3) ∧ w'.cell? ⟨w.heap.size, 4, none⟩ = some (.slice Hd.A4 Hd.n4 Hd.c4) ∧ w'.cell? ⟨w.heap.size + 1, 0, none⟩ = some (.int .i64 s.kind) ∧ w'.cell? ⟨w.heap.size + 1, 1, none⟩ = some (.int .i64 s.number) ∧ w'.cell? ⟨w.heap.size + 1, 2, none⟩ = some (.int .i64 s.cnumber) ∧ w'.cell? ⟨w.heap.size + 1, 3, none⟩ = some (.int .i64 s.cstart) ∧ w'.cell? ⟨w.heap.size + 1, 4, none⟩ = some (.int .i64 s.cfinish) ∧ w'.cell? ⟨w.heap.size + 1, 5, none⟩ = some (.slice As ns cs) ∧ w'.cell? ⟨g3, 0, none⟩ = some (.slice H3.A0 H3.n0 H3.c0) ∧ w'.cell? ⟨g3, 1, none⟩ = some (.slice H3.A1 H3.n1 H3.c1) ∧ w'.cell? ⟨g3, 2, none⟩ = some (.slice H3.A2 H3.n2 H3.c2) ∧ w'.cell? ⟨g3, 3, none⟩ = some (.slice H3.A3 H3.n3 H3.c3) ∧ w'.cell? ⟨g3, 4, none⟩ = some (.slice H3.A4 H3.n4 H3.c4) ∧ w'.cell? ⟨w4.heap.size, 0, none⟩ = some (.slice A4a Hd.n0 Hd.n0) ∧ w'.cell? ⟨w4.heap.size, 1, none⟩ = some (.slice A4b Hd.n1 Hd.n1) ∧ w'.cell? ⟨w4.heap.size, 2, none⟩ = some (.slice A4c Hd.n2 Hd.n2) ∧ w'.cell? ⟨w4.heap.size, 3, none⟩ = some (.slice A4d Hd.n3 Hd.n3) ∧ w'.cell? ⟨w4.heap.size, 4, none⟩ = some (.slice A4e Hd.n4 Hd.n4) ∧ w'.cell? ⟨w6.heap.size, 0, none⟩ = some (.int .i64 s.kind) ∧ w'.cell? ⟨w6.heap.size, 1, none⟩ = some (.int .i64 s.number) ∧ w'.cell? ⟨w6.heap.size, 2, none⟩ = some (.int .i64 s.cnumber) ∧ w'.cell? ⟨w6.heap.size, 3, none⟩ = some (.int .i64 s.cstart) ∧ w'.cell? ⟨w6.heap.size, 4, none⟩ = some (.int .i64 s.cfinish) ∧ w'.cell? ⟨w6.heap.size, 5, none⟩ = some (.slice A6a ns ns) ∧ w'.cell? ⟨w8.heap.size, 0, none⟩ = some (.slice H8.A0 H8.n0 H8.c0) ∧ w'.cell? ⟨w8.heap.size, 1, none⟩ = some (.slice H8.A1 H8.n1 H8.c1) ∧ w'.cell? ⟨w8.heap.size, 2, none⟩ = some (.slice H8.A2 H8.n2 H8.c2) ∧ w'.cell? ⟨w8.heap.size, 3, none⟩ = some (.slice H8.A3 H8.n3 H8.c3) ∧ w'.cell? ⟨w8.heap.size, 4, none⟩ = some (.slice H8.A4 H8.n4 H8.c4)) (by kernel_rfl) (by (try dsimp only); exact ⟨Cd 0, Cd 1, Cd 2, Cd 3, Cd 4, Cs 0, Cs 1, Cs 2, Cs 3, Cs 4, Cs 5, CR0 0, CR0 1, CR0 2, CR0 3, CR0 4, CXd 0, CXd 1, CXd 2, CXd 3, CXd 4, CXs 0, CXs 1, CXs 2, CXs 3, CXs 4, CXs 5, CR1 0, CR1 1, CR1 2, CR1 3, CR1 4⟩) (fun hHeld => ?_)
    generalize w21.drew = wz at *
    refine wpAnyH_take (i := 0) (v := ?_) rfl (by kernel_rfl) (by kernel_rfl) (by kernel_rfl) (fun _ _ _ h => h) (Or.inl ⟨by rfl, ?_⟩) (by assumption) ?_
    rotate_left 1
    · (intro w hSw; (try dsimp only at hSw); go_simp; try with_reducible rfl)
    simp only [Act.put, List.setIfInBounds_toArray, List.set_cons_zero, List.set_cons_succ, List.getElem_toArray, List.getElem_cons_zero]
    refine wpAnyH_take (i := 2) (v := ?_) rfl (by kernel_rfl) (by kernel_rfl) (by kernel_rfl) (fun _ _ _ h => h) (Or.inl ⟨by rfl, ?_⟩) (by assumption) ?_
    rotate_left 1
    · (intro w hSw; (try dsimp only at hSw); go_simp; try with_reducible rfl)
    simp only [Act.put, List.setIfInBounds_toArray, List.set_cons_zero, List.set_cons_succ, List.getElem_toArray, List.getElem_cons_zero, List.getElem_cons_succ]
    refine wpAnyH_ready (rs := [1, 8]) (by kernel_rfl) (by simp) ?_
    refine AllReadyH.cons rfl (fun K hK => ?_) ?_
    · go_simp
      refine (toDesk_any _ d _ (hd.below Kw (Nat.le_refl _)) hnd').mono ?_
      rintro e wz ⟨AP0a, AP0b, AP0c, AP0d, AP0e, rfl, MP0, b⟩
      clear Cd Cs CR0 CXd CXs CR1
      replace Bd := Bd.next b
      replace Bs := Bs.next b
      replace BR0 := BR0.next b
      replace BXd := BXd.next b
      replace BXs := BXs.next b
      replace BR1 := BR1.next b
      try (replace RB := RB.next b)
      replace Kw := bel_then Kw b
      replace Kt := bel_then Kt b
      have Cd := Bd.cell
      have Cs := Bs.cell
      have CR0 := BR0.cell
      have CXd := BXd.cell
      have CXs := BXs.cell
      have CR1 := BR1.cell
      try (have RBc := RB.cell)
      try (have RBf := RB.frozen)
      clear b
      go_wp2_with fail
      refine hK.out _ _ (by (try dsimp only); exact ⟨Cd 0, Cd 1, Cd 2, Cd 3, Cd 4, Cs 0, Cs 1, Cs 2, Cs 3, Cs 4, Cs 5, CR0 0, CR0 1, CR0 2, CR0 3, CR0 4, CXd 0, CXd 1, CXd 2, CXd 3, CXd 4, CXs 0, CXs 1, CXs 2, CXs 3, CXs 4, CXs 5, CR1 0, CR1 1, CR1 2, CR1 3, CR1 4⟩) (fun hHeld => ?_)
      clear hK K
      refine wpAnyH_ready (rs := [3, 8]) (by kernel_rfl) (by simp) ?_
      refine AllReadyH.cons rfl (fun K hK => ?_) ?_
      · go_simp
        refine (toDeskStep_any _ _ _ _ s _ (hs.below Kw (Nat.le_refl _)) hns').mono ?_
        rintro e wz ⟨AP1a, rfl, MP1, b⟩
        clear Cd Cs CR0 CXd CXs CR1
        replace Bd := Bd.next b
        replace Bs := Bs.next b
        replace BR0 := BR0.next b
        replace BXd := BXd.next b
        replace BXs := BXs.next b
        replace BR1 := BR1.next b
        replace MP0 := MP0.next b
        try (replace RB := RB.next b)
        replace Kw := bel_then Kw b
        replace Kt := bel_then Kt b
        have Cd := Bd.cell
        have Cs := Bs.cell
        have CR0 := BR0.cell
        have CXd := BXd.cell
        have CXs := BXs.cell
        have CR1 := BR1.cell
        try (have RBc := RB.cell)
        try (have RBf := RB.frozen)
        clear b
        go_wp2_with fail
        refine hK.out _ _ (by (try dsimp only); exact ⟨Cd 0, Cd 1, Cd 2, Cd 3, Cd 4, Cs 0, Cs 1, Cs 2, Cs 3, Cs 4, Cs 5, CR0 0, CR0 1, CR0 2, CR0 3, CR0 4, CXd 0, CXd 1, CXd 2, CXd 3, CXd 4, CXs 0, CXs 1, CXs 2, CXs 3, CXs 4, CXs 5, CR1 0, CR1 1, CR1 2, CR1 3, CR1 4⟩) (fun hHeld => ?_)
        clear hK K
        refine wpAnyH_ready (rs := [4, 8]) (by kernel_rfl) (by simp) ?_
        refine AllReadyH.cons rfl (fun K hK => ?_) ?_
        · go_simp
          try (have RLc := RB.lt)
          have zlo := Kt.size
          refine (StepDesk_any _ d _ _ _ s _ MP0.sees (DeskFit.at_ hnd') (Nat.le_refl _) MP1.sees hns').mono ?_
          rw [HR.out]
          rintro e wz ⟨HRr, rfl, MR, FR, GR, b⟩
          clear Cd Cs CR0 CXd CXs CR1
          replace Bd := Bd.next b
          replace Bs := Bs.next b
          replace BR0 := BR0.next b
          replace BXd := BXd.next b
          replace BXs := BXs.next b
          replace BR1 := BR1.next b
          try (replace RB := RB.next b)
          replace Kw := bel_then Kw b
          replace Kt := bel_then Kt b
          have Cd := Bd.cell
          have Cs := Bs.cell
          have CR0 := BR0.cell
          have CXd := BXd.cell
          have CXs := BXs.cell
          have CR1 := BR1.cell
          try (have RBc := RB.cell)
          try (have RBf := RB.frozen)
          have zhi := b.size
          clear b
          go_wp2_with fail
          refine hK.out _ _ (by (try dsimp only); exact ⟨Cd 0, Cd 1, Cd 2, Cd 3, Cd 4, Cs 0, Cs 1, Cs 2, Cs 3, Cs 4, Cs 5, CR0 0, CR0 1, CR0 2, CR0 3, CR0 4, CXd 0, CXd 1, CXd 2, CXd 3, CXd 4, CXs 0, CXs 1, CXs 2, CXs 3, CXs 4, CXs 5, CR1 0, CR1 1, CR1 2, CR1 3, CR1 4⟩) (fun hHeld => ?_)
          clear hK K
          refine wpAnyH_take (i := 5) (v := ?_) rfl (by kernel_rfl) (by kernel_rfl) (by kernel_rfl) (fun _ _ _ h => h) (Or.inl ⟨by rfl, ?_⟩) (by assumption) ?_
          rotate_left 1
          · (intro w hSw; (try dsimp only at hSw); go_simp; try with_reducible rfl)
          simp only [Act.put, List.setIfInBounds_toArray, List.set_cons_zero, List.set_cons_succ, List.getElem_toArray, List.getElem_cons_zero, List.getElem_cons_succ]
          refine wpAnyH_take (i := 6) (v := ?_) rfl (by kernel_rfl) (by kernel_rfl) (by kernel_rfl) (fun _ _ _ h => h) (Or.inl ⟨by rfl, ?_⟩) (by assumption) ?_
          rotate_left 1
          · (intro w hSw; (try dsimp only at hSw); go_simp; try with_reducible rfl)
          simp only [Act.put, List.setIfInBounds_toArray, List.set_cons_zero, List.set_cons_succ, List.getElem_toArray, List.getElem_cons_zero, List.getElem_cons_succ]
          refine wpAnyH_take (i := 7) (v := ?_) rfl (by kernel_rfl) (by kernel_rfl) (by kernel_rfl) (fun _ _ _ h => h) (Or.inl ⟨by rfl, ?_⟩) (by assumption) ?_
          rotate_left 1
          · (intro w hSw; (try dsimp only at hSw); go_simp; try with_reducible rfl)
          simp only [Act.put, List.setIfInBounds_toArray, List.set_cons_zero, List.set_cons_succ, List.getElem_toArray, List.getElem_cons_zero, List.getElem_cons_succ]
          refine wpAnyH_ready (rs := [8]) (by kernel_rfl) (by simp) ?_
          refine AllReadyH.cons rfl (fun K hK => ?_) AllReadyH.nil
          go_simp
          have zg := Kt.size
          have b : Below wz.heap.size wz (wz.alloc (.cells #[.slice none 0 0, .slice none 0 0, .slice none 0 0, .slice none 0 0, .slice none 0 0] 37)) := (Below.refl _ _).alloc (Nat.le_refl _) _
          try (replace MP0 := MP0.next b)
          try (replace MP1 := MP1.next b)
          try (replace MR := MR.next b)
          clear Cd Cs CR0 CXd CXs CR1
          replace Bd := Bd.next b
          replace Bs := Bs.next b
          replace BR0 := BR0.next b
          replace BXd := BXd.next b
          replace BXs := BXs.next b
          replace BR1 := BR1.next b
          try (replace RB := RB.next b)
          replace Kw := bel_then Kw b
          replace Kt := bel_then Kt b
          have Cd := Bd.cell
          have Cs := Bs.cell
          have CR0 := BR0.cell
          have CXd := BXd.cell
          have CXs := BXs.cell
          have CR1 := BR1.cell
          try (have RBc := RB.cell)
          try (have RBf := RB.frozen)
          have RB : Blk (wz.alloc (.cells #[.slice none 0 0, .slice none 0 0, .slice none 0 0, .slice none 0 0, .slice none 0 0] 37)) wz.heap.size 37 [.slice none 0 0, .slice none 0 0, .slice none 0 0, .slice none 0 0, .slice none 0 0] := Blk.at_ rfl
          have RBc := RB.cell
          have RBf := RB.frozen
          have RL := RB.lt
          clear b
          generalize wz.heap.size = gR at *
          generalize wz.alloc (.cells #[.slice none 0 0, .slice none 0 0, .slice none 0 0, .slice none 0 0, .slice none 0 0] 37) = wz at *
          refine hK.out _ _ (by (try dsimp only); exact ⟨Cd 0, Cd 1, Cd 2, Cd 3, Cd 4, Cs 0, Cs 1, Cs 2, Cs 3, Cs 4, Cs 5, CR0 0, CR0 1, CR0 2, CR0 3, CR0 4, CXd 0, CXd 1, CXd 2, CXd 3, CXd 4, CXs 0, CXs 1, CXs 2, CXs 3, CXs 4, CXs 5, CR1 0, CR1 1, CR1 2, CR1 3, CR1 4⟩) (fun hHeld => ?_)
          clear hK K
          try simp only [Act.put, List.setIfInBounds_toArray, List.set_cons_zero, List.set_cons_succ, List.getElem_toArray, List.getElem_cons_zero, List.getElem_cons_succ]
          refine wpAnyH_ready (rs := [9]) (by kernel_rfl) (by simp) ?_
          refine AllReadyH.cons rfl (fun K hK => ?_) AllReadyH.nil
          go_simp
          refine hK.out _ _ (by (try dsimp only); have E := ((((((Only.refl (fun b => b = gR) wz).setCell (p := ⟨gR, 0, none⟩) rfl (.slice HRr.A0 HRr.n0 HRr.c0)).setCell (p := ⟨gR, 1, none⟩) rfl (.slice HRr.A1 HRr.n1 HRr.c1)).setCell (p := ⟨gR, 2, none⟩) rfl (.slice HRr.A2 HRr.n2 HRr.c2)).setCell (p := ⟨gR, 3, none⟩) rfl (.slice HRr.A3 HRr.n3 HRr.c3)).setCell (p := ⟨gR, 4, none⟩) rfl (.slice HRr.A4 HRr.n4 HRr.c4)); exact ⟨(Bd.only E (fun h => by omega)).cell 0, (Bd.only E (fun h => by omega)).cell 1, (Bd.only E (fun h => by omega)).cell 2, (Bd.only E (fun h => by omega)).cell 3, (Bd.only E (fun h => by omega)).cell 4, (Bs.only E (fun h => by omega)).cell 0, (Bs.only E (fun h => by omega)).cell 1, (Bs.only E (fun h => by omega)).cell 2, (Bs.only E (fun h => by omega)).cell 3, (Bs.only E (fun h => by omega)).cell 4, (Bs.only E (fun h => by omega)).cell 5, (BR0.only E (fun h => by omega)).cell 0, (BR0.only E (fun h => by omega)).cell 1, (BR0.only E (fun h => by omega)).cell 2, (BR0.only E (fun h => by omega)).cell 3, (BR0.only E (fun h => by omega)).cell 4, (BXd.only E (fun h => by omega)).cell 0, (BXd.only E (fun h => by omega)).cell 1, (BXd.only E (fun h => by omega)).cell 2, (BXd.only E (fun h => by omega)).cell 3, (BXd.only E (fun h => by omega)).cell 4, (BXs.only E (fun h => by omega)).cell 0, (BXs.only E (fun h => by omega)).cell 1, (BXs.only E (fun h => by omega)).cell 2, (BXs.only E (fun h => by omega)).cell 3, (BXs.only E (fun h => by omega)).cell 4, (BXs.only E (fun h => by omega)).cell 5, (BR1.only E (fun h => by omega)).cell 0, (BR1.only E (fun h => by omega)).cell 1, (BR1.only E (fun h => by omega)).cell 2, (BR1.only E (fun h => by omega)).cell 3, (BR1.only E (fun h => by omega)).cell 4⟩) (fun hHeld => ?_)
          clear hK K
          try simp only [Act.put, List.setIfInBounds_toArray, List.set_cons_zero, List.set_cons_succ, List.getElem_toArray, List.getElem_cons_zero, List.getElem_cons_succ]
          refine wpAnyH_take (i := 10) (v := ?_) rfl (by kernel_rfl) (by kernel_rfl) (by kernel_rfl) (fun _ _ _ h => h) (Or.inl ⟨by rfl, ?_⟩) (by assumption) ?_
          rotate_left 1
          · (intro w hSw; (try dsimp only at hSw); go_simp; try with_reducible rfl)
          simp only [Act.put, List.setIfInBounds_toArray, List.set_cons_zero, List.set_cons_succ, List.getElem_toArray, List.getElem_cons_zero, List.getElem_cons_succ]
          refine wpAnyH_done (by kernel_rfl) ?_ _
          have E := ((((((Only.refl (fun b => b = gR) wz).setCell (p := ⟨gR, 0, none⟩) rfl (.slice HRr.A0 HRr.n0 HRr.c0)).setCell (p := ⟨gR, 1, none⟩) rfl (.slice HRr.A1 HRr.n1 HRr.c1)).setCell (p := ⟨gR, 2, none⟩) rfl (.slice HRr.A2 HRr.n2 HRr.c2)).setCell (p := ⟨gR, 3, none⟩) rfl (.slice HRr.A3 HRr.n3 HRr.c3)).setCell (p := ⟨gR, 4, none⟩) rfl (.slice HRr.A4 HRr.n4 HRr.c4))
          have zE := E.size
          have RLz := RB.lt
          go_wp2_with fail
          go_meet
          exact ⟨gR, _, _, HRr, rfl, rfl, (((((RB.set_ 0 (.slice HRr.A0 HRr.n0 HRr.c0)).set_ 1 (.slice HRr.A1 HRr.n1 HRr.c1)).set_ 2 (.slice HRr.A2 HRr.n2 HRr.c2)).set_ 3 (.slice HRr.A3 HRr.n3 HRr.c3)).set_ 4 (.slice HRr.A4 HRr.n4 HRr.c4)), MR.only E (fun b h1 h2 => by have := h1.1; have := h1.2; omega), FR, GR, ⟨by omega, by omega, by omega, by omega, by omega⟩, Kt.trans (E.below (fun b hb => by omega) Kt.size)⟩
        refine AllReadyH.cons rfl (fun K hK => ?_) AllReadyH.nil
        · go_simp
          have zg := Kt.size
          have b : Below wz.heap.size wz (wz.alloc (.cells #[.slice none 0 0, .slice none 0 0, .slice none 0 0, .slice none 0 0, .slice none 0 0] 37)) := (Below.refl _ _).alloc (Nat.le_refl _) _
          try (replace MP0 := MP0.next b)
          try (replace MP1 := MP1.next b)
          try (replace MR := MR.next b)
          clear Cd Cs CR0 CXd CXs CR1
          replace Bd := Bd.next b
          replace Bs := Bs.next b
          replace BR0 := BR0.next b
          replace BXd := BXd.next b
          replace BXs := BXs.next b
          replace BR1 := BR1.next b
          try (replace RB := RB.next b)
          replace Kw := bel_then Kw b
          replace Kt := bel_then Kt b
          have Cd := Bd.cell
          have Cs := Bs.cell
          have CR0 := BR0.cell
          have CXd := BXd.cell
          have CXs := BXs.cell
          have CR1 := BR1.cell
          try (have RBc := RB.cell)
          try (have RBf := RB.frozen)
          have RB : Blk (wz.alloc (.cells #[.slice none 0 0, .slice none 0 0, .slice none 0 0, .slice none 0 0, .slice none 0 0] 37)) wz.heap.size 37 [.slice none 0 0, .slice none 0 0, .slice none 0 0, .slice none 0 0, .slice none 0 0] := Blk.at_ rfl
          have RBc := RB.cell
          have RBf := RB.frozen
          have RL := RB.lt
          clear b
          generalize wz.heap.size = gR at *
          generalize wz.alloc (.cells #[.slice none 0 0, .slice none 0 0, .slice none 0 0, .slice none 0 0, .slice none 0 0] 37) = wz at *
          refine hK.out _ _ (by (try dsimp only); exact ⟨Cd 0, Cd 1, Cd 2, Cd 3, Cd 4, Cs 0, Cs 1, Cs 2, Cs 3, Cs 4, Cs 5, CR0 0, CR0 1, CR0 2, CR0 3, CR0 4, CXd 0, CXd 1, CXd 2, CXd 3, CXd 4, CXs 0, CXs 1, CXs 2, CXs 3, CXs 4, CXs 5, CR1 0, CR1 1, CR1 2, CR1 3, CR1 4⟩) (fun hHeld => ?_)
          clear hK K
          try simp only [Act.put, List.setIfInBounds_toArray, List.set_cons_zero, List.set_cons_succ, List.getElem_toArray, List.getElem_cons_zero, List.getElem_cons_succ]
          refine wpAnyH_ready (rs := [4]) (by kernel_rfl) (by simp) ?_
          refine AllReadyH.cons rfl (fun K hK => ?_) AllReadyH.nil
          go_simp
          try (have RLc := RB.lt)
          have zlo := Kt.size
          refine (StepDesk_any _ d _ _ _ s _ MP0.sees (DeskFit.at_ hnd') (Nat.le_refl _) MP1.sees hns').mono ?_
          rw [HR.out]
          rintro e wz ⟨HRr, rfl, MR, FR, GR, b⟩
          clear Cd Cs CR0 CXd CXs CR1
          replace Bd := Bd.next b
          replace Bs := Bs.next b
          replace BR0 := BR0.next b
          replace BXd := BXd.next b
          replace BXs := BXs.next b
          replace BR1 := BR1.next b
          try (replace RB := RB.next b)
          replace Kw := bel_then Kw b
          replace Kt := bel_then Kt b
          have Cd := Bd.cell
          have Cs := Bs.cell
          have CR0 := BR0.cell
          have CXd := BXd.cell
          have CXs := BXs.cell
          have CR1 := BR1.cell
          try (have RBc := RB.cell)
          try (have RBf := RB.frozen)
          have zhi := b.size
          clear b
          go_wp2_with fail
          refine hK.out _ _ (by (try dsimp only); exact ⟨Cd 0, Cd 1, Cd 2, Cd 3, Cd 4, Cs 0, Cs 1, Cs 2, Cs 3, Cs 4, Cs 5, CR0 0, CR0 1, CR0 2, CR0 3, CR0 4, CXd 0, CXd 1, CXd 2, CXd 3, CXd 4, CXs 0, CXs 1, CXs 2, CXs 3, CXs 4, CXs 5, CR1 0, CR1 1, CR1 2, CR1 3, CR1 4⟩) (fun hHeld => ?_)
          clear hK K
          refine wpAnyH_take (i := 5) (v := ?_) rfl (by kernel_rfl) (by kernel_rfl) (by kernel_rfl) (fun _ _ _ h => h) (Or.inl ⟨by rfl, ?_⟩) (by assumption) ?_
          rotate_left 1
          · (intro w hSw; (try dsimp only at hSw); go_simp; try with_reducible rfl)
          simp only [Act.put, List.setIfInBounds_toArray, List.set_cons_zero, List.set_cons_succ, List.getElem_toArray, List.getElem_cons_zero, List.getElem_cons_succ]
          refine wpAnyH_take (i := 6) (v := ?_) rfl (by kernel_rfl) (by kernel_rfl) (by kernel_rfl) (fun _ _ _ h => h) (Or.inl ⟨by rfl, ?_⟩) (by assumption) ?_
          rotate_left 1
          · (intro w hSw; (try dsimp only at hSw); go_simp; try with_reducible rfl)
          simp only [Act.put, List.setIfInBounds_toArray, List.set_cons_zero, List.set_cons_succ, List.getElem_toArray, List.getElem_cons_zero, List.getElem_cons_succ]
          refine wpAnyH_take (i := 7) (v := ?_) rfl (by kernel_rfl) (by kernel_rfl) (by kernel_rfl) (fun _ _ _ h => h) (Or.inl ⟨by rfl, ?_⟩) (by assumption) ?_
          rotate_left 1
          · (intro w hSw; (try dsimp only at hSw); go_simp; try with_reducible rfl)
          simp only [Act.put, List.setIfInBounds_toArray, List.set_cons_zero, List.set_cons_succ, List.getElem_toArray, List.getElem_cons_zero, List.getElem_cons_succ]
          refine wpAnyH_ready (rs := [9]) (by kernel_rfl) (by simp) ?_
          refine AllReadyH.cons rfl (fun K hK => ?_) AllReadyH.nil
          go_simp
          refine hK.out _ _ (by (try dsimp only); have E := ((((((Only.refl (fun b => b = gR) wz).setCell (p := ⟨gR, 0, none⟩) rfl (.slice HRr.A0 HRr.n0 HRr.c0)).setCell (p := ⟨gR, 1, none⟩) rfl (.slice HRr.A1 HRr.n1 HRr.c1)).setCell (p := ⟨gR, 2, none⟩) rfl (.slice HRr.A2 HRr.n2 HRr.c2)).setCell (p := ⟨gR, 3, none⟩) rfl (.slice HRr.A3 HRr.n3 HRr.c3)).setCell (p := ⟨gR, 4, none⟩) rfl (.slice HRr.A4 HRr.n4 HRr.c4)); exact ⟨(Bd.only E (fun h => by omega)).cell 0, (Bd.only E (fun h => by omega)).cell 1, (Bd.only E (fun h => by omega)).cell 2, (Bd.only E (fun h => by omega)).cell 3, (Bd.only E (fun h => by omega)).cell 4, (Bs.only E (fun h => by omega)).cell 0, (Bs.only E (fun h => by omega)).cell 1, (Bs.only E (fun h => by omega)).cell 2, (Bs.only E (fun h => by omega)).cell 3, (Bs.only E (fun h => by omega)).cell 4, (Bs.only E (fun h => by omega)).cell 5, (BR0.only E (fun h => by omega)).cell 0, (BR0.only E (fun h => by omega)).cell 1, (BR0.only E (fun h => by omega)).cell 2, (BR0.only E (fun h => by omega)).cell 3, (BR0.only E (fun h => by omega)).cell 4, (BXd.only E (fun h => by omega)).cell 0, (BXd.only E (fun h => by omega)).cell 1, (BXd.only E (fun h => by omega)).cell 2, (BXd.only E (fun h => by omega)).cell 3, (BXd.only E (fun h => by omega)).cell 4, (BXs.only E (fun h => by omega)).cell 0, (BXs.only E (fun h => by omega)).cell 1, (BXs.only E (fun h => by omega)).cell 2, (BXs.only E (fun h => by omega)).cell 3, (BXs.only E (fun h => by omega)).cell 4, (BXs.only E (fun h => by omega)).cell 5, (BR1.only E (fun h => by omega)).cell 0, (BR1.only E (fun h => by omega)).cell 1, (BR1.only E (fun h => by omega)).cell 2, (BR1.only E (fun h => by omega)).cell 3, (BR1.only E (fun h => by omega)).cell 4⟩) (fun hHeld => ?_)
          clear hK K
          try simp only [Act.put, List.setIfInBounds_toArray, List.set_cons_zero, List.set_cons_succ, List.getElem_toArray, List.getElem_cons_zero, List.getElem_cons_succ]
          refine wpAnyH_take (i := 10) (v := ?_) rfl (by kernel_rfl) (by kernel_rfl) (by kernel_rfl) (fun _ _ _ h => h) (Or.inl ⟨by rfl, ?_⟩) (by assumption) ?_
          rotate_left 1
          · (intro w hSw; (try dsimp only at hSw); go_simp; try with_reducible rfl)
          simp only [Act.put, List.setIfInBounds_toArray, List.set_cons_zero, List.set_cons_succ, List.getElem_toArray, List.getElem_cons_zero, List.getElem_cons_succ]
          refine wpAnyH_done (by kernel_rfl) ?_ _
          have E := ((((((Only.refl (fun b => b = gR) wz).setCell (p := ⟨gR, 0, none⟩) rfl (.slice HRr.A0 HRr.n0 HRr.c0)).setCell (p := ⟨gR, 1, none⟩) rfl (.slice HRr.A1 HRr.n1 HRr.c1)).setCell (p := ⟨gR, 2, none⟩) rfl (.slice HRr.A2 HRr.n2 HRr.c2)).setCell (p := ⟨gR, 3, none⟩) rfl (.slice HRr.A3 HRr.n3 HRr.c3)).setCell (p := ⟨gR, 4, none⟩) rfl (.slice HRr.A4 HRr.n4 HRr.c4))
          have zE := E.size
          have RLz := RB.lt
          go_wp2_with fail
          go_meet
          exact ⟨gR, _, _, HRr, rfl, rfl, (((((RB.set_ 0 (.slice HRr.A0 HRr.n0 HRr.c0)).set_ 1 (.slice HRr.A1 HRr.n1 HRr.c1)).set_ 2 (.slice HRr.A2 HRr.n2 HRr.c2)).set_ 3 (.slice HRr.A3 HRr.n3 HRr.c3)).set_ 4 (.slice HRr.A4 HRr.n4 HRr.c4)), MR.only E (fun b h1 h2 => by have := h1.1; have := h1.2; omega), FR, GR, ⟨by omega, by omega, by omega, by omega, by omega⟩, Kt.trans (E.below (fun b hb => by omega) Kt.size)⟩
      refine AllReadyH.cons rfl (fun K hK => ?_) AllReadyH.nil
      · go_simp
        have zg := Kt.size
        have b : Below wz.heap.size wz (wz.alloc (.cells #[.slice none 0 0, .slice none 0 0, .slice none 0 0, .slice none 0 0, .slice none 0 0] 37)) := (Below.refl _ _).alloc (Nat.le_refl _) _
        try (replace MP0 := MP0.next b)
        try (replace MP1 := MP1.next b)
        try (replace MR := MR.next b)
        clear Cd Cs CR0 CXd CXs CR1
        replace Bd := Bd.next b
        replace Bs := Bs.next b
        replace BR0 := BR0.next b
        replace BXd := BXd.next b
        replace BXs := BXs.next b
        replace BR1 := BR1.next b
        try (replace RB := RB.next b)
        replace Kw := bel_then Kw b
        replace Kt := bel_then Kt b
        have Cd := Bd.cell
        have Cs := Bs.cell
        have CR0 := BR0.cell
        have CXd := BXd.cell
        have CXs := BXs.cell
        have CR1 := BR1.cell
        try (have RBc := RB.cell)
        try (have RBf := RB.frozen)
        have RB : Blk (wz.alloc (.cells #[.slice none 0 0, .slice none 0 0, .slice none 0 0, .slice none 0 0, .slice none 0 0] 37)) wz.heap.size 37 [.slice none 0 0, .slice none 0 0, .slice none 0 0, .slice none 0 0, .slice none 0 0] := Blk.at_ rfl
        have RBc := RB.cell
        have RBf := RB.frozen
        have RL := RB.lt
        clear b
        generalize wz.heap.size = gR at *
        generalize wz.alloc (.cells #[.slice none 0 0, .slice none 0 0, .slice none 0 0, .slice none 0 0, .slice none 0 0] 37) = wz at *
        refine hK.out _ _ (by (try dsimp only); exact ⟨Cd 0, Cd 1, Cd 2, Cd 3, Cd 4, Cs 0, Cs 1, Cs 2, Cs 3, Cs 4, Cs 5, CR0 0, CR0 1, CR0 2, CR0 3, CR0 4, CXd 0, CXd 1, CXd 2, CXd 3, CXd 4, CXs 0, CXs 1, CXs 2, CXs 3, CXs 4, CXs 5, CR1 0, CR1 1, CR1 2, CR1 3, CR1 4⟩) (fun hHeld => ?_)
        clear hK K
        try simp only [Act.put, List.setIfInBounds_toArray, List.set_cons_zero, List.set_cons_succ, List.getElem_toArray, List.getElem_cons_zero, List.getElem_cons_succ]
        refine wpAnyH_ready (rs := [3]) (by kernel_rfl) (by simp) ?_
        refine AllReadyH.cons rfl (fun K hK => ?_) AllReadyH.nil
        go_simp
        refine (toDeskStep_any _ _ _ _ s _ (hs.below Kw (Nat.le_refl _)) hns').mono ?_
        rintro e wz ⟨AP1a, rfl, MP1, b⟩
        clear Cd Cs CR0 CXd CXs CR1
        replace Bd := Bd.next b
        replace Bs := Bs.next b
        replace BR0 := BR0.next b
        replace BXd := BXd.next b
        replace BXs := BXs.next b
        replace BR1 := BR1.next b
        replace MP0 := MP0.next b
        try (replace RB := RB.next b)
        replace Kw := bel_then Kw b
        replace Kt := bel_then Kt b
        have Cd := Bd.cell
        have Cs := Bs.cell
        have CR0 := BR0.cell
        have CXd := BXd.cell
        have CXs := BXs.cell
        have CR1 := BR1.cell
        try (have RBc := RB.cell)
        try (have RBf := RB.frozen)
        clear b
        go_wp2_with fail
        refine hK.out _ _ (by (try dsimp only); exact ⟨Cd 0, Cd 1, Cd 2, Cd 3, Cd 4, Cs 0, Cs 1, Cs 2, Cs 3, Cs 4, Cs 5, CR0 0, CR0 1, CR0 2, CR0 3, CR0 4, CXd 0, CXd 1, CXd 2, CXd 3, CXd 4, CXs 0, CXs 1, CXs 2, CXs 3, CXs 4, CXs 5, CR1 0, CR1 1, CR1 2, CR1 3, CR1 4⟩) (fun hHeld => ?_)
        clear hK K
        refine wpAnyH_ready (rs := [4]) (by kernel_rfl) (by simp) ?_
        refine AllReadyH.cons rfl (fun K hK => ?_) AllReadyH.nil
        go_simp
        try (have RLc := RB.lt)
        have zlo := Kt.size
        refine (StepDesk_any _ d _ _ _ s _ MP0.sees (DeskFit.at_ hnd') (Nat.le_refl _) MP1.sees hns').mono ?_
        rw [HR.out]
        rintro e wz ⟨HRr, rfl, MR, FR, GR, b⟩
        clear Cd Cs CR0 CXd CXs CR1
        replace Bd := Bd.next b
        replace Bs := Bs.next b
        replace BR0 := BR0.next b
        replace BXd := BXd.next b
        replace BXs := BXs.next b
        replace BR1 := BR1.next b
        try (replace RB := RB.next b)
        replace Kw := bel_then Kw b
        replace Kt := bel_then Kt b
        have Cd := Bd.cell
        have Cs := Bs.cell
        have CR0 := BR0.cell
        have CXd := BXd.cell
        have CXs := BXs.cell
        have CR1 := BR1.cell
        try (have RBc := RB.cell)
        try (have RBf := RB.frozen)
        have zhi := b.size
        clear b
        go_wp2_with fail
        refine hK.out _ _ (by (try dsimp only); exact ⟨Cd 0, Cd 1, Cd 2, Cd 3, Cd 4, Cs 0, Cs 1, Cs 2, Cs 3, Cs 4, Cs 5, CR0 0, CR0 1, CR0 2, CR0 3, CR0 4, CXd 0, CXd 1, CXd 2, CXd 3, CXd 4, CXs 0, CXs 1, CXs 2, CXs 3, CXs 4, CXs 5, CR1 0, CR1 1, CR1 2, CR1 3, CR1 4⟩) (fun hHeld => ?_)
        clear hK K
        refine wpAnyH_take (i := 5) (v := ?_) rfl (by kernel_rfl) (by kernel_rfl) (by kernel_rfl) (fun _ _ _ h => h) (Or.inl ⟨by rfl, ?_⟩) (by assumption) ?_
        rotate_left 1
        · (intro w hSw; (try dsimp only at hSw); go_simp; try with_reducible rfl)
        simp only [Act.put, List.setIfInBounds_toArray, List.set_cons_zero, List.set_cons_succ, List.getElem_toArray, List.getElem_cons_zero, List.getElem_cons_succ]
        refine wpAnyH_take (i := 6) (v := ?_) rfl (by kernel_rfl) (by kernel_rfl) (by kernel_rfl) (fun _ _ _ h => h) (Or.inl ⟨by rfl, ?_⟩) (by assumption) ?_
        rotate_left 1
        · (intro w hSw; (try dsimp only at hSw); go_simp; try with_reducible rfl)
        simp only [Act.put, List.setIfInBounds_toArray, List.set_cons_zero, List.set_cons_succ, List.getElem_toArray, List.getElem_cons_zero, List.getElem_cons_succ]
        refine wpAnyH_take (i := 7) (v := ?_) rfl (by kernel_rfl) (by kernel_rfl) (by kernel_rfl) (fun _ _ _ h => h) (Or.inl ⟨by rfl, ?_⟩) (by assumption) ?_
        rotate_left 1
        · (intro w hSw; (try dsimp only at hSw); go_simp; try with_reducible rfl)
        simp only [Act.put, List.setIfInBounds_toArray, List.set_cons_zero, List.set_cons_succ, List.getElem_toArray, List.getElem_cons_zero, List.getElem_cons_succ]
        refine wpAnyH_ready (rs := [9]) (by kernel_rfl) (by simp) ?_
        refine AllReadyH.cons rfl (fun K hK => ?_) AllReadyH.nil
        go_simp
        refine hK.out _ _ (by (try dsimp only); have E := ((((((Only.refl (fun b => b = gR) wz).setCell (p := ⟨gR, 0, none⟩) rfl (.slice HRr.A0 HRr.n0 HRr.c0)).setCell (p := ⟨gR, 1, none⟩) rfl (.slice HRr.A1 HRr.n1 HRr.c1)).setCell (p := ⟨gR, 2, none⟩) rfl (.slice HRr.A2 HRr.n2 HRr.c2)).setCell (p := ⟨gR, 3, none⟩) rfl (.slice HRr.A3 HRr.n3 HRr.c3)).setCell (p := ⟨gR, 4, none⟩) rfl (.slice HRr.A4 HRr.n4 HRr.c4)); exact ⟨(Bd.only E (fun h => by omega)).cell 0, (Bd.only E (fun h => by omega)).cell 1, (Bd.only E (fun h => by omega)).cell 2, (Bd.only E (fun h => by omega)).cell 3, (Bd.only E (fun h => by omega)).cell 4, (Bs.only E (fun h => by omega)).cell 0, (Bs.only E (fun h => by omega)).cell 1, (Bs.only E (fun h => by omega)).cell 2, (Bs.only E (fun h => by omega)).cell 3, (Bs.only E (fun h => by omega)).cell 4, (Bs.only E (fun h => by omega)).cell 5, (BR0.only E (fun h => by omega)).cell 0, (BR0.only E (fun h => by omega)).cell 1, (BR0.only E (fun h => by omega)).cell 2, (BR0.only E (fun h => by omega)).cell 3, (BR0.only E (fun h => by omega)).cell 4, (BXd.only E (fun h => by omega)).cell 0, (BXd.only E (fun h => by omega)).cell 1, (BXd.only E (fun h => by omega)).cell 2, (BXd.only E (fun h => by omega)).cell 3, (BXd.only E (fun h => by omega)).cell 4, (BXs.only E (fun h => by omega)).cell 0, (BXs.only E (fun h => by omega)).cell 1, (BXs.only E (fun h => by omega)).cell 2, (BXs.only E (fun h => by omega)).cell 3, (BXs.only E (fun h => by omega)).cell 4, (BXs.only E (fun h => by omega)).cell 5, (BR1.only E (fun h => by omega)).cell 0, (BR1.only E (fun h => by omega)).cell 1, (BR1.only E (fun h => by omega)).cell 2, (BR1.only E (fun h => by omega)).cell 3, (BR1.only E (fun h => by omega)).cell 4⟩) (fun hHeld => ?_)
        clear hK K
        try simp only [Act.put, List.setIfInBounds_toArray, List.set_cons_zero, List.set_cons_succ, List.getElem_toArray, List.getElem_cons_zero, List.getElem_cons_succ]
        refine wpAnyH_take (i := 10) (v := ?_) rfl (by kernel_rfl) (by kernel_rfl) (by kernel_rfl) (fun _ _ _ h => h) (Or.inl ⟨by rfl, ?_⟩) (by assumption) ?_
        rotate_left 1
        · (intro w hSw; (try dsimp only at hSw); go_simp; try with_reducible rfl)
        simp only [Act.put, List.setIfInBounds_toArray, List.set_cons_zero, List.set_cons_succ, List.getElem_toArray, List.getElem_cons_zero, List.getElem_cons_succ]
        refine wpAnyH_done (by kernel_rfl) ?_ _
        have E := ((((((Only.refl (fun b => b = gR) wz).setCell (p := ⟨gR, 0, none⟩) rfl (.slice HRr.A0 HRr.n0 HRr.c0)).setCell (p := ⟨gR, 1, none⟩) rfl (.slice HRr.A1 HRr.n1 HRr.c1)).setCell (p := ⟨gR, 2, none⟩) rfl (.slice HRr.A2 HRr.n2 HRr.c2)).setCell (p := ⟨gR, 3, none⟩) rfl (.slice HRr.A3 HRr.n3 HRr.c3)).setCell (p := ⟨gR, 4, none⟩) rfl (.slice HRr.A4 HRr.n4 HRr.c4))
        have zE := E.size
        have RLz := RB.lt
        go_wp2_with fail
        go_meet
        exact ⟨gR, _, _, HRr, rfl, rfl, (((((RB.set_ 0 (.slice HRr.A0 HRr.n0 HRr.c0)).set_ 1 (.slice HRr.A1 HRr.n1 HRr.c1)).set_ 2 (.slice HRr.A2 HRr.n2 HRr.c2)).set_ 3 (.slice HRr.A3 HRr.n3 HRr.c3)).set_ 4 (.slice HRr.A4 HRr.n4 HRr.c4)), MR.only E (fun b h1 h2 => by have := h1.1; have := h1.2; omega), FR, GR, ⟨by omega, by omega, by omega, by omega, by omega⟩, Kt.trans (E.below (fun b hb => by omega) Kt.size)⟩
    refine AllReadyH.cons rfl (fun K hK => ?_) AllReadyH.nil
    · go_simp
      have zg := Kt.size
      have b : Below wz.heap.size wz (wz.alloc (.cells #[.slice none 0 0, .slice none 0 0, .slice none 0 0, .slice none 0 0, .slice none 0 0] 37)) := (Below.refl _ _).alloc (Nat.le_refl _) _
      try (replace MP0 := MP0.next b)
      try (replace MP1 := MP1.next b)
      try (replace MR := MR.next b)
      clear Cd Cs CR0 CXd CXs CR1
      replace Bd := Bd.next b
      replace Bs := Bs.next b
      replace BR0 := BR0.next b
      replace BXd := BXd.next b
      replace BXs := BXs.next b
      replace BR1 := BR1.next b
      try (replace RB := RB.next b)
      replace Kw := bel_then Kw b
      replace Kt := bel_then Kt b
      have Cd := Bd.cell
      have Cs := Bs.cell
      have CR0 := BR0.cell
      have CXd := BXd.cell
      have CXs := BXs.cell
      have CR1 := BR1.cell
      try (have RBc := RB.cell)
      try (have RBf := RB.frozen)
      have RB : Blk (wz.alloc (.cells #[.slice none 0 0, .slice none 0 0, .slice none 0 0, .slice none 0 0, .slice none 0 0] 37)) wz.heap.size 37 [.slice none 0 0, .slice none 0 0, .slice none 0 0, .slice none 0 0, .slice none 0 0] := Blk.at_ rfl
      have RBc := RB.cell
      have RBf := RB.frozen
      have RL := RB.lt
      clear b
      generalize wz.heap.size = gR at *
      generalize wz.alloc (.cells #[.slice none 0 0, .slice none 0 0, .slice none 0 0, .slice none 0 0, .slice none 0 0] 37) = wz at *
      refine hK.out _ _ (by (try dsimp only); exact ⟨Cd 0, Cd 1, Cd 2, Cd 3, Cd 4, Cs 0, Cs 1, Cs 2, Cs 3, Cs 4, Cs 5, CR0 0, CR0 1, CR0 2, CR0 3, CR0 4, CXd 0, CXd 1, CXd 2, CXd 3, CXd 4, CXs 0, CXs 1, CXs 2, CXs 3, CXs 4, CXs 5, CR1 0, CR1 1, CR1 2, CR1 3, CR1 4⟩) (fun hHeld => ?_)
      clear hK K
      try simp only [Act.put, List.setIfInBounds_toArray, List.set_cons_zero, List.set_cons_succ, List.getElem_toArray, List.getElem_cons_zero, List.getElem_cons_succ]
      refine wpAnyH_ready (rs := [1]) (by kernel_rfl) (by simp) ?_
      refine AllReadyH.cons rfl (fun K hK => ?_) AllReadyH.nil
      go_simp
      refine (toDesk_any _ d _ (hd.below Kw (Nat.le_refl _)) hnd').mono ?_
      rintro e wz ⟨AP0a, AP0b, AP0c, AP0d, AP0e, rfl, MP0, b⟩
      clear Cd Cs CR0 CXd CXs CR1
      replace Bd := Bd.next b
      replace Bs := Bs.next b
      replace BR0 := BR0.next b
      replace BXd := BXd.next b
      replace BXs := BXs.next b
      replace BR1 := BR1.next b
      try (replace RB := RB.next b)
      replace Kw := bel_then Kw b
      replace Kt := bel_then Kt b
      have Cd := Bd.cell
      have Cs := Bs.cell
      have CR0 := BR0.cell
      have CXd := BXd.cell
      have CXs := BXs.cell
      have CR1 := BR1.cell
      try (have RBc := RB.cell)
      try (have RBf := RB.frozen)
      clear b
      go_wp2_with fail
      refine hK.out _ _ (by (try dsimp only); exact ⟨Cd 0, Cd 1, Cd 2, Cd 3, Cd 4, Cs 0, Cs 1, Cs 2, Cs 3, Cs 4, Cs 5, CR0 0, CR0 1, CR0 2, CR0 3, CR0 4, CXd 0, CXd 1, CXd 2, CXd 3, CXd 4, CXs 0, CXs 1, CXs 2, CXs 3, CXs 4, CXs 5, CR1 0, CR1 1, CR1 2, CR1 3, CR1 4⟩) (fun hHeld => ?_)
      clear hK K
      refine wpAnyH_ready (rs := [3]) (by kernel_rfl) (by simp) ?_
      refine AllReadyH.cons rfl (fun K hK => ?_) AllReadyH.nil
      go_simp
      refine (toDeskStep_any _ _ _ _ s _ (hs.below Kw (Nat.le_refl _)) hns').mono ?_
      rintro e wz ⟨AP1a, rfl, MP1, b⟩
      clear Cd Cs CR0 CXd CXs CR1
      replace Bd := Bd.next b
      replace Bs := Bs.next b
      replace BR0 := BR0.next b
      replace BXd := BXd.next b
      replace BXs := BXs.next b
      replace BR1 := BR1.next b
      replace MP0 := MP0.next b
      try (replace RB := RB.next b)
      replace Kw := bel_then Kw b
      replace Kt := bel_then Kt b
      have Cd := Bd.cell
      have Cs := Bs.cell
      have CR0 := BR0.cell
      have CXd := BXd.cell
      have CXs := BXs.cell
      have CR1 := BR1.cell
      try (have RBc := RB.cell)
      try (have RBf := RB.frozen)
      clear b
      go_wp2_with fail
      refine hK.out _ _ (by (try dsimp only); exact ⟨Cd 0, Cd 1, Cd 2, Cd 3, Cd 4, Cs 0, Cs 1, Cs 2, Cs 3, Cs 4, Cs 5, CR0 0, CR0 1, CR0 2, CR0 3, CR0 4, CXd 0, CXd 1, CXd 2, CXd 3, CXd 4, CXs 0, CXs 1, CXs 2, CXs 3, CXs 4, CXs 5, CR1 0, CR1 1, CR1 2, CR1 3, CR1 4⟩) (fun hHeld => ?_)
      clear hK K
      refine wpAnyH_ready (rs := [4]) (by kernel_rfl) (by simp) ?_
      refine AllReadyH.cons rfl (fun K hK => ?_) AllReadyH.nil
      go_simp
      try (have RLc := RB.lt)
      have zlo := Kt.size
      refine (StepDesk_any _ d _ _ _ s _ MP0.sees (DeskFit.at_ hnd') (Nat.le_refl _) MP1.sees hns').mono ?_
      rw [HR.out]
      rintro e wz ⟨HRr, rfl, MR, FR, GR, b⟩
      clear Cd Cs CR0 CXd CXs CR1
      replace Bd := Bd.next b
      replace Bs := Bs.next b
      replace BR0 := BR0.next b
      replace BXd := BXd.next b
      replace BXs := BXs.next b
      replace BR1 := BR1.next b
      try (replace RB := RB.next b)
      replace Kw := bel_then Kw b
      replace Kt := bel_then Kt b
      have Cd := Bd.cell
      have Cs := Bs.cell
      have CR0 := BR0.cell
      have CXd := BXd.cell
      have CXs := BXs.cell
      have CR1 := BR1.cell
      try (have RBc := RB.cell)
      try (have RBf := RB.frozen)
      have zhi := b.size
      clear b
      go_wp2_with fail
      refine hK.out _ _ (by (try dsimp only); exact ⟨Cd 0, Cd 1, Cd 2, Cd 3, Cd 4, Cs 0, Cs 1, Cs 2, Cs 3, Cs 4, Cs 5, CR0 0, CR0 1, CR0 2, CR0 3, CR0 4, CXd 0, CXd 1, CXd 2, CXd 3, CXd 4, CXs 0, CXs 1, CXs 2, CXs 3, CXs 4, CXs 5, CR1 0, CR1 1, CR1 2, CR1 3, CR1 4⟩) (fun hHeld => ?_)
      clear hK K
      refine wpAnyH_take (i := 5) (v := ?_) rfl (by kernel_rfl) (by kernel_rfl) (by kernel_rfl) (fun _ _ _ h => h) (Or.inl ⟨by rfl, ?_⟩) (by assumption) ?_
      rotate_left 1
      · (intro w hSw; (try dsimp only at hSw); go_simp; try with_reducible rfl)
      simp only [Act.put, List.setIfInBounds_toArray, List.set_cons_zero, List.set_cons_succ, List.getElem_toArray, List.getElem_cons_zero, List.getElem_cons_succ]
      refine wpAnyH_take (i := 6) (v := ?_) rfl (by kernel_rfl) (by kernel_rfl) (by kernel_rfl) (fun _ _ _ h => h) (Or.inl ⟨by rfl, ?_⟩) (by assumption) ?_
      rotate_left 1
      · (intro w hSw; (try dsimp only at hSw); go_simp; try with_reducible rfl)
      simp only [Act.put, List.setIfInBounds_toArray, List.set_cons_zero, List.set_cons_succ, List.getElem_toArray, List.getElem_cons_zero, List.getElem_cons_succ]
      refine wpAnyH_take (i := 7) (v := ?_) rfl (by kernel_rfl) (by kernel_rfl) (by kernel_rfl) (fun _ _ _ h => h) (Or.inl ⟨by rfl, ?_⟩) (by assumption) ?_
      rotate_left 1
      · (intro w hSw; (try dsimp only at hSw); go_simp; try with_reducible rfl)
      simp only [Act.put, List.setIfInBounds_toArray, List.set_cons_zero, List.set_cons_succ, List.getElem_toArray, List.getElem_cons_zero, List.getElem_cons_succ]
      refine wpAnyH_ready (rs := [9]) (by kernel_rfl) (by simp) ?_
      refine AllReadyH.cons rfl (fun K hK => ?_) AllReadyH.nil
      go_simp
      refine hK.out _ _ (by (try dsimp only); have E := ((((((Only.refl (fun b => b = gR) wz).setCell (p := ⟨gR, 0, none⟩) rfl (.slice HRr.A0 HRr.n0 HRr.c0)).setCell (p := ⟨gR, 1, none⟩) rfl (.slice HRr.A1 HRr.n1 HRr.c1)).setCell (p := ⟨gR, 2, none⟩) rfl (.slice HRr.A2 HRr.n2 HRr.c2)).setCell (p := ⟨gR, 3, none⟩) rfl (.slice HRr.A3 HRr.n3 HRr.c3)).setCell (p := ⟨gR, 4, none⟩) rfl (.slice HRr.A4 HRr.n4 HRr.c4)); exact ⟨(Bd.only E (fun h => by omega)).cell 0, (Bd.only E (fun h => by omega)).cell 1, (Bd.only E (fun h => by omega)).cell 2, (Bd.only E (fun h => by omega)).cell 3, (Bd.only E (fun h => by omega)).cell 4, (Bs.only E (fun h => by omega)).cell 0, (Bs.only E (fun h => by omega)).cell 1, (Bs.only E (fun h => by omega)).cell 2, (Bs.only E (fun h => by omega)).cell 3, (Bs.only E (fun h => by omega)).cell 4, (Bs.only E (fun h => by omega)).cell 5, (BR0.only E (fun h => by omega)).cell 0, (BR0.only E (fun h => by omega)).cell 1, (BR0.only E (fun h => by omega)).cell 2, (BR0.only E (fun h => by omega)).cell 3, (BR0.only E (fun h => by omega)).cell 4, (BXd.only E (fun h => by omega)).cell 0, (BXd.only E (fun h => by omega)).cell 1, (BXd.only E (fun h => by omega)).cell 2, (BXd.only E (fun h => by omega)).cell 3, (BXd.only E (fun h => by omega)).cell 4, (BXs.only E (fun h => by omega)).cell 0, (BXs.only E (fun h => by omega)).cell 1, (BXs.only E (fun h => by omega)).cell 2, (BXs.only E (fun h => by omega)).cell 3, (BXs.only E (fun h => by omega)).cell 4, (BXs.only E (fun h => by omega)).cell 5, (BR1.only E (fun h => by omega)).cell 0, (BR1.only E (fun h => by omega)).cell 1, (BR1.only E (fun h => by omega)).cell 2, (BR1.only E (fun h => by omega)).cell 3, (BR1.only E (fun h => by omega)).cell 4⟩) (fun hHeld => ?_)
      clear hK K
      try simp only [Act.put, List.setIfInBounds_toArray, List.set_cons_zero, List.set_cons_succ, List.getElem_toArray, List.getElem_cons_zero, List.getElem_cons_succ]
      refine wpAnyH_take (i := 10) (v := ?_) rfl (by kernel_rfl) (by kernel_rfl) (by kernel_rfl) (fun _ _ _ h => h) (Or.inl ⟨by rfl, ?_⟩) (by assumption) ?_
      rotate_left 1
      · (intro w hSw; (try dsimp only at hSw); go_simp; try with_reducible rfl)
      simp only [Act.put, List.setIfInBounds_toArray, List.set_cons_zero, List.set_cons_succ, List.getElem_toArray, List.getElem_cons_zero, List.getElem_cons_succ]
      refine wpAnyH_done (by kernel_rfl) ?_ _
      have E := ((((((Only.refl (fun b => b = gR) wz).setCell (p := ⟨gR, 0, none⟩) rfl (.slice HRr.A0 HRr.n0 HRr.c0)).setCell (p := ⟨gR, 1, none⟩) rfl (.slice HRr.A1 HRr.n1 HRr.c1)).setCell (p := ⟨gR, 2, none⟩) rfl (.slice HRr.A2 HRr.n2 HRr.c2)).setCell (p := ⟨gR, 3, none⟩) rfl (.slice HRr.A3 HRr.n3 HRr.c3)).setCell (p := ⟨gR, 4, none⟩) rfl (.slice HRr.A4 HRr.n4 HRr.c4))
      have zE := E.size
      have RLz := RB.lt
      go_wp2_with fail
      go_meet
      exact ⟨gR, _, _, HRr, rfl, rfl, (((((RB.set_ 0 (.slice HRr.A0 HRr.n0 HRr.c0)).set_ 1 (.slice HRr.A1 HRr.n1 HRr.c1)).set_ 2 (.slice HRr.A2 HRr.n2 HRr.c2)).set_ 3 (.slice HRr.A3 HRr.n3 HRr.c3)).set_ 4 (.slice HRr.A4 HRr.n4 HRr.c4)), MR.only E (fun b h1 h2 => by have := h1.1; have := h1.2; omega), FR, GR, ⟨by omega, by omega, by omega, by omega, by omega⟩, Kt.trans (E.below (fun b hb => by omega) Kt.size)⟩
  obtain ⟨g22, lo22, hi22, H22, rfl, rfl, BR2, M22, F22, G22, hb22, b22⟩ := hcut
  obtain ⟨w22, rfl⟩ : ∃ w' : World, w' = wc := ⟨_, rfl⟩
  have K22 := bel_then K21 b22
  have Z22 := b22.size
  have Y22 := K22.size
  clear Cd Cs CR0 CXd CXs CR1
  replace Bd := Bd.next b22
  replace Bs := Bs.next b22
  replace M3 := M3.next b22
  replace BR0 := BR0.next b22
  replace M4 := M4.next b22
  replace BXd := BXd.next b22
  replace M6 := M6.next b22
  replace BXs := BXs.next b22
  replace M8 := M8.next b22
  replace BR1 := BR1.next b22
  replace M12 := M12.next b22
  replace M15 := M15.next b22
  clear b22
  have Cd := Bd.cell
  have Cs := Bs.cell
  have CR0 := BR0.cell
  have CXd := BXd.cell
  have CXs := BXs.cell
  have CR1 := BR1.cell
  have V22 : H22.n0 ≤ 1048576 ∧ H22.n1 ≤ 1048576 ∧ H22.n2 ≤ 1048576 ∧ H22.n3 ≤ 1048576 ∧ H22.n4 ≤ 1048576 := ⟨F22.n0, F22.n1, F22.n2, F22.n3, F22.n4⟩
  have CR2 := BR2.cell
  go_wp2_with fail
  refine (eqDesk_any _ _ _ _ _ _ _ M22.sees M3.sees rfl F22).mono ?_
  rintro e w23 ⟨rfl, b23⟩
  have K23 := bel_then K22 b23
  have Z23 := b23.size
  have Y23 := K23.size
  clear Cd Cs CR0 CXd CXs CR1 CR2
  replace Bd := Bd.next b23
  replace Bs := Bs.next b23
  replace M3 := M3.next b23
  replace BR0 := BR0.next b23
  replace M4 := M4.next b23
  replace BXd := BXd.next b23
  replace M6 := M6.next b23
  replace BXs := BXs.next b23
  replace M8 := M8.next b23
  replace BR1 := BR1.next b23
  replace M12 := M12.next b23
  replace M15 := M15.next b23
  replace M22 := M22.next b23
  replace BR2 := BR2.next b23
  clear b23
  have Cd := Bd.cell
  have Cs := Bs.cell
  have CR0 := BR0.cell
  have CXd := BXd.cell
  have CXs := BXs.cell
  have CR1 := BR1.cell
  have CR2 := BR2.cell
  go_wp2_with fail
  refine (heldDesk_any _ _ _ _ _ M8.sees (by omega) (by (try dsimp only); omega) F8).mono ?_
  rintro e w24 ⟨rfl, b24⟩
  have K24 := bel_then K23 b24
  have Z24 := b24.size
  have Y24 := K24.size
  clear Cd Cs CR0 CXd CXs CR1 CR2
  replace Bd := Bd.next b24
  replace Bs := Bs.next b24
  replace M3 := M3.next b24
  replace BR0 := BR0.next b24
  replace M4 := M4.next b24
  replace BXd := BXd.next b24
  replace M6 := M6.next b24
  replace BXs := BXs.next b24
  replace M8 := M8.next b24
  replace BR1 := BR1.next b24
  replace M12 := M12.next b24
  replace M15 := M15.next b24
  replace M22 := M22.next b24
  replace BR2 := BR2.next b24
  clear b24
  have Cd := Bd.cell
  have Cs := Bs.cell
  have CR0 := BR0.cell
  have CXd := BXd.cell
  have CXs := BXs.cell
  have CR1 := BR1.cell
  have CR2 := BR2.cell
  go_wp2_with fail
  go_ret
  exact ⟨rfl, K24⟩

end Go.Proofs.YtkchdhmnomelkaaGreat
