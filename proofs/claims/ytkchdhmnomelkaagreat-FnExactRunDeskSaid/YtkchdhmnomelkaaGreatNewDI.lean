/- Copies of desks, as the program makes them. -/
import Derived.Test.YtkchdhmnomelkaaGreatNewD
namespace Go.Proofs.YtkchdhmnomelkaaGreat
open Go.RowKit

set_option maxRecDepth 100000 in
set_option maxHeartbeats 16000000 in
theorem newDesk_any (h : DeskH) (d : DeskV) (w : World) (hs : SeesDesk w 0 h d) (hn : DeskFit 1048576 h d) :
    Calls Tryz.prog 47 #[.agg #[.slice h.A0 h.n0 h.c0, .slice h.A1 h.n1 h.c1, .slice h.A2 h.n2 h.c2, .slice h.A3 h.n3 h.c3, .slice h.A4 h.n4 h.c4]] w (GivesDesk w d) := by
  obtain ⟨A0, n0, c0, A1, n1, c1, A2, n2, c2, A3, n3, c3, A4, n4, c4⟩ := h
  obtain ⟨s0, s1, s2, s3, s4⟩ := hs
  obtain ⟨ft0, ft1, ft2, fx2, ft3, ft4, fx4⟩ := hn
  dsimp only at *
  have HF := Lib.hid (fun (A0' A1' A2' A3' A4' : Option Addr) (c0' c1' c2' c3' c4' : Nat) => show DeskFit 1048576 ⟨A0', d.codes.length, c0', A1', d.known.length, c1', A2', d.queue.length, c2', A3', n3, c3', A4', d.trouble.length, c4'⟩ d from
    ⟨by rw [s0.icount]; exact ft0, by rw [s1.icount]; exact ft1, by rw [s2.count]; exact ft2, fx2, ft3, by rw [s4.count]; exact ft4, fx4⟩)
  have KB0 : Below w.heap.size w ((w.alloc (.cells #[.slice A0 n0 c0, .slice A1 n1 c1, .slice A2 n2 c2, .slice A3 n3 c3, .slice A4 n4 c4] 37)).alloc (.cells #[(.slice none 0 0), (.slice none 0 0), (.slice none 0 0), (.slice none 0 0), (.slice none 0 0)] 37)) := ((Below.refl w.heap.size w).alloc (Nat.le_refl _) _).alloc (by simp) _
  have P : Blk ((w.alloc (.cells #[.slice A0 n0 c0, .slice A1 n1 c1, .slice A2 n2 c2, .slice A3 n3 c3, .slice A4 n4 c4] 37)).alloc (.cells #[(.slice none 0 0), (.slice none 0 0), (.slice none 0 0), (.slice none 0 0), (.slice none 0 0)] 37)) w.heap.size 37 [.slice A0 n0 c0, .slice A1 n1 c1, .slice A2 n2 c2, .slice A3 n3 c3, .slice A4 n4 c4] := (Blk.at_ rfl).alloc _
  have R : Blk ((w.alloc (.cells #[.slice A0 n0 c0, .slice A1 n1 c1, .slice A2 n2 c2, .slice A3 n3 c3, .slice A4 n4 c4] 37)).alloc (.cells #[(.slice none 0 0), (.slice none 0 0), (.slice none 0 0), (.slice none 0 0), (.slice none 0 0)] 37)) (w.heap.size + 1) 37 [(.slice none 0 0), (.slice none 0 0), (.slice none 0 0), (.slice none 0 0), (.slice none 0 0)] := Blk.at_ (by simp)
  have z0 : w.heap.size + 2 ≤ ((w.alloc (.cells #[.slice A0 n0 c0, .slice A1 n1 c1, .slice A2 n2 c2, .slice A3 n3 c3, .slice A4 n4 c4] 37)).alloc (.cells #[(.slice none 0 0), (.slice none 0 0), (.slice none 0 0), (.slice none 0 0), (.slice none 0 0)] 37)).heap.size := by simp
  go_enter Tryz.func47, Tryz.ntmps47
  go_wp2_with fail
  generalize ((w.alloc (.cells #[.slice A0 n0 c0, .slice A1 n1 c1, .slice A2 n2 c2, .slice A3 n3 c3, .slice A4 n4 c4] 37)).alloc (.cells #[(.slice none 0 0), (.slice none 0 0), (.slice none 0 0), (.slice none 0 0), (.slice none 0 0)] 37)) = w0 at *
  have J1 := (Quiet.one w0).below w0.heap.size
  have KB1 := bel_then KB0 J1
  have y1 := J1.size
  replace P := P.next J1
  replace R := R.next J1
  refine wp_region_held_drew (S := fun w' => w'.cell? ⟨w.heap.size, 0, none⟩ = some (.slice A0 n0 c0) ∧ w'.cell? ⟨w.heap.size, 1, none⟩ = some (.slice A1 n1 c1) ∧ w'.cell? ⟨w.heap.size, 2, none⟩ = some (.slice A2 n2 c2) ∧ w'.cell? ⟨w.heap.size, 3, none⟩ = some (.slice A3 n3 c3) ∧ w'.cell? ⟨w.heap.size, 4, none⟩ = some (.slice A4 n4 c4)) (by kernel_rfl) (by exact ⟨P.cell 0, P.cell 1, P.cell 2, P.cell 3, P.cell 4⟩) (fun hHeld => ?_)
  generalize w0.drew = wi1 at *
  clear J1
  refine wpAnyH_take (i := 0) (v := ?_) rfl (by kernel_rfl) (by kernel_rfl) (by kernel_rfl) (fun _ _ _ h => h) (Or.inl ⟨by rfl, ?_⟩) (by assumption) ?_
  rotate_left 1
  · (intro w hSw; (try dsimp only at hSw); go_simp; try with_reducible rfl)
  (try simp only [Act.put, List.setIfInBounds_toArray, List.set_cons_zero, List.set_cons_succ, List.getElem_toArray, List.getElem_cons_zero])
  refine wpAnyH_take (i := 1) (v := ?_) rfl (by kernel_rfl) (by kernel_rfl) (by kernel_rfl) (fun _ _ _ h => h) (Or.inl ⟨by rfl, ?_⟩) (by assumption) ?_
  rotate_left 1
  · (intro w hSw; (try dsimp only at hSw); go_simp; try with_reducible rfl)
  (try simp only [Act.put, List.setIfInBounds_toArray, List.set_cons_zero, List.set_cons_succ, List.getElem_toArray, List.getElem_cons_zero, List.getElem_cons_succ])
  refine wpAnyH_take (i := 3) (v := ?_) rfl (by kernel_rfl) (by kernel_rfl) (by kernel_rfl) (fun _ _ _ h => h) (Or.inl ⟨by rfl, ?_⟩) (by assumption) ?_
  rotate_left 1
  · (intro w hSw; (try dsimp only at hSw); go_simp; try with_reducible rfl)
  (try simp only [Act.put, List.setIfInBounds_toArray, List.set_cons_zero, List.set_cons_succ, List.getElem_toArray, List.getElem_cons_zero, List.getElem_cons_succ])
  refine wpAnyH_take (i := 4) (v := ?_) rfl (by kernel_rfl) (by kernel_rfl) (by kernel_rfl) (fun _ _ _ h => h) (Or.inl ⟨by rfl, ?_⟩) (by assumption) ?_
  rotate_left 1
  · (intro w hSw; (try dsimp only at hSw); go_simp; try with_reducible rfl)
  (try simp only [Act.put, List.setIfInBounds_toArray, List.set_cons_zero, List.set_cons_succ, List.getElem_toArray, List.getElem_cons_zero, List.getElem_cons_succ])
  refine wpAnyH_take (i := 6) (v := ?_) rfl (by kernel_rfl) (by kernel_rfl) (by kernel_rfl) (fun _ _ _ h => h) (Or.inl ⟨by rfl, ?_⟩) (by assumption) ?_
  rotate_left 1
  · (intro w hSw; (try dsimp only at hSw); go_simp; try with_reducible rfl)
  (try simp only [Act.put, List.setIfInBounds_toArray, List.set_cons_zero, List.set_cons_succ, List.getElem_toArray, List.getElem_cons_zero, List.getElem_cons_succ])
  refine wpAnyH_take (i := 7) (v := ?_) rfl (by kernel_rfl) (by kernel_rfl) (by kernel_rfl) (fun _ _ _ h => h) (Or.inl ⟨by rfl, ?_⟩) (by assumption) ?_
  rotate_left 1
  · (intro w hSw; (try dsimp only at hSw); go_simp; try with_reducible rfl)
  (try simp only [Act.put, List.setIfInBounds_toArray, List.set_cons_zero, List.set_cons_succ, List.getElem_toArray, List.getElem_cons_zero, List.getElem_cons_succ])
  refine wpAnyH_take (i := 10) (v := ?_) rfl (by kernel_rfl) (by kernel_rfl) (by kernel_rfl) (fun _ _ _ h => h) (Or.inl ⟨by rfl, ?_⟩) (by assumption) ?_
  rotate_left 1
  · (intro w hSw; (try dsimp only at hSw); go_simp; try with_reducible rfl)
  (try simp only [Act.put, List.setIfInBounds_toArray, List.set_cons_zero, List.set_cons_succ, List.getElem_toArray, List.getElem_cons_zero, List.getElem_cons_succ])
  refine wpAnyH_take (i := 11) (v := ?_) rfl (by kernel_rfl) (by kernel_rfl) (by kernel_rfl) (fun _ _ _ h => h) (Or.inl ⟨by rfl, ?_⟩) (by assumption) ?_
  rotate_left 1
  · (intro w hSw; (try dsimp only at hSw); go_simp; try with_reducible rfl)
  (try simp only [Act.put, List.setIfInBounds_toArray, List.set_cons_zero, List.set_cons_succ, List.getElem_toArray, List.getElem_cons_zero, List.getElem_cons_succ])
  refine wpAnyH_take (i := 13) (v := ?_) rfl (by kernel_rfl) (by kernel_rfl) (by kernel_rfl) (fun _ _ _ h => h) (Or.inl ⟨by rfl, ?_⟩) (by assumption) ?_
  rotate_left 1
  · (intro w hSw; (try dsimp only at hSw); go_simp; try with_reducible rfl)
  (try simp only [Act.put, List.setIfInBounds_toArray, List.set_cons_zero, List.set_cons_succ, List.getElem_toArray, List.getElem_cons_zero, List.getElem_cons_succ])
  refine wpAnyH_take (i := 14) (v := ?_) rfl (by kernel_rfl) (by kernel_rfl) (by kernel_rfl) (fun _ _ _ h => h) (Or.inl ⟨by rfl, ?_⟩) (by assumption) ?_
  rotate_left 1
  · (intro w hSw; (try dsimp only at hSw); go_simp; try with_reducible rfl)
  (try simp only [Act.put, List.setIfInBounds_toArray, List.set_cons_zero, List.set_cons_succ, List.getElem_toArray, List.getElem_cons_zero, List.getElem_cons_succ])
  refine wpAnyH_ready (rs := [2, 9]) (by kernel_rfl) (by simp) ?_
  refine AllReadyH.cons rfl (fun K hK => ?_) ?_
  · go_simp
    refine (copyInts_any _ _ c0 0 d.codes _ (s0.below KB1 (Nat.le_refl _)) ft0).mono ?_
    rintro e wi2 ⟨B0, e0, rfl, oo, b2⟩
    have KB2 := bel_then KB1 b2
    have y2 := b2.size
    replace P := P.next b2
    replace R := R.next b2
    have M0 := Mine.of oo
    clear oo
    go_wp2_with fail
    refine hK.out _ _ (by exact ⟨P.cell 0, P.cell 1, P.cell 2, P.cell 3, P.cell 4⟩) (fun hHeld => ?_)
    clear hK K
    refine wpAnyH_ready (rs := [5, 9]) (by kernel_rfl) (by simp) ?_
    refine AllReadyH.cons rfl (fun K hK => ?_) ?_
    · go_simp
      refine (copyInts_any _ _ c1 0 d.known _ (s1.below KB2 (Nat.le_refl _)) ft1).mono ?_
      rintro e wi3 ⟨B1, e1, rfl, oo, b3⟩
      have KB3 := bel_then KB2 b3
      have y3 := b3.size
      replace P := P.next b3
      replace R := R.next b3
      replace M0 := M0.next b3
      have M1 := Mine.of oo
      clear oo
      go_wp2_with fail
      refine hK.out _ _ (by exact ⟨P.cell 0, P.cell 1, P.cell 2, P.cell 3, P.cell 4⟩) (fun hHeld => ?_)
      clear hK K
      refine wpAnyH_ready (rs := [8, 9]) (by kernel_rfl) (by simp) ?_
      refine AllReadyH.cons rfl (fun K hK => ?_) ?_
      · go_simp
        refine (newCards_any _ _ c2 d.queue _ (s2.below KB3 (Nat.le_refl _)) ft2 fx2).mono ?_
        rintro e wi4 ⟨B2, e2, rfl, M2, b4⟩
        have KB4 := bel_then KB3 b4
        have y4 := b4.size
        replace P := P.next b4
        replace R := R.next b4
        replace M0 := M0.next b4
        replace M1 := M1.next b4
        go_wp2_with fail
        refine hK.out _ _ (by exact ⟨P.cell 0, P.cell 1, P.cell 2, P.cell 3, P.cell 4⟩) (fun hHeld => ?_)
        clear hK K
        refine wpAnyH_ready (rs := [9]) (by kernel_rfl) (by simp) ?_
        refine AllReadyH.cons rfl (fun K hK => ?_) AllReadyH.nil
        go_simp
        have U5 : Below wi4.heap.size wi4 (wi4.alloc (.cells #[] 84)) := (Below.refl _ _).alloc (Nat.le_refl _) _
        have KB5 := bel_then KB4 U5
        have y5 := U5.size
        replace P := P.next U5
        replace R := R.next U5
        replace M0 := M0.next U5
        replace M1 := M1.next U5
        replace M2 := M2.next U5
        have own := own_empty wi4 84 3
        have z5 : wi4.heap.size + 1 ≤ (wi4.alloc (.cells #[] 84)).heap.size := by simp
        refine hK.out _ _ (by exact ⟨P.cell 0, P.cell 1, P.cell 2, P.cell 3, P.cell 4⟩) (fun hHeld => ?_)
        clear hK K
        (try simp only [Act.put, List.setIfInBounds_toArray, List.set_cons_zero, List.set_cons_succ, List.getElem_toArray, List.getElem_cons_zero, List.getElem_cons_succ])
        generalize (wi4.alloc (.cells #[] 84)) = wi5 at *
        refine wpAnyH_ready (rs := [12]) (by kernel_rfl) (by simp) ?_
        refine AllReadyH.cons rfl (fun K hK => ?_) AllReadyH.nil
        refine step_cat rfl _ _ _ (by rfl) Tryz.underlying35 info_impl_DeskRow rfl (by decide) (by rfl) own (by rfl) (m := n3) (s3.below KB5 (Nat.le_refl _)) (row_all _) (by omega) (by omega) (by decide) (by omega) ?_
        intro B3 e3 wi6 o3 h3 b6 q3
        simp only [Nat.zero_add, List.nil_append] at o3
        (try simp only [Nat.zero_add])
        have KB6 := KB5.trans (b6.mono (by omega))
        have y6 := h3.size
        replace P := P.only h3 (own_not own (by omega))
        replace R := R.only h3 (own_not own (by omega))
        replace M0 := M0.only h3 (fun b h1 h2 => by have h5 : wi4.heap.size = b := (by simpa [OwnB, Value.ownBlock] using h2); have := h1.1; have := h1.2; omega)
        replace M1 := M1.only h3 (fun b h1 h2 => by have h5 : wi4.heap.size = b := (by simpa [OwnB, Value.ownBlock] using h2); have := h1.1; have := h1.2; omega)
        replace M2 := M2.only h3 (fun b h1 h2 => by have h5 : wi4.heap.size = b := (by simpa [OwnB, Value.ownBlock] using h2); have := h1.1; have := h1.2; omega)
        have M3 := (Mine.of o3).exact_
        have hcap3 := own_cap o3
        have q33 : ∀ b, OwnB B3 b → b = wi4.heap.size ∨ (wi5.heap.size ≤ b ∧ b < wi6.heap.size) := fun b hb => by
          have h8 := (own_top o3 hb).2
          rcases q3 b hb with h5 | h5
          · exact .inl (by simpa [OwnB, Value.ownBlock, eq_comm] using h5)
          · exact .inr ⟨h5, h8⟩
        clear own o3 q3 h3
        refine hK.out _ _ (by exact ⟨P.cell 0, P.cell 1, P.cell 2, P.cell 3, P.cell 4⟩) (fun hHeld => ?_)
        clear hK K
        (try simp only [Act.put, List.setIfInBounds_toArray, List.set_cons_zero, List.set_cons_succ, List.getElem_toArray, List.getElem_cons_zero, List.getElem_cons_succ])
        refine wpAnyH_ready (rs := [15]) (by kernel_rfl) (by simp) ?_
        refine AllReadyH.cons rfl (fun K hK => ?_) AllReadyH.nil
        go_simp
        refine (newCards_any _ _ c4 d.trouble _ (s4.below KB6 (Nat.le_refl _)) ft4 fx4).mono ?_
        rintro e wi7 ⟨B4, e4, rfl, M4, b7⟩
        have KB7 := bel_then KB6 b7
        have y7 := b7.size
        replace P := P.next b7
        replace R := R.next b7
        replace M0 := M0.next b7
        replace M1 := M1.next b7
        replace M2 := M2.next b7
        replace M3 := M3.next b7
        go_wp2_with fail
        refine hK.out _ _ (by exact ⟨P.cell 0, P.cell 1, P.cell 2, P.cell 3, P.cell 4⟩) (fun hHeld => ?_)
        clear hK K
        refine wpAnyH_take (i := 16) (v := ?_) rfl (by kernel_rfl) (by kernel_rfl) (by kernel_rfl) (fun _ _ _ h => h) (Or.inl ⟨by rfl, ?_⟩) (by assumption) ?_
        rotate_left 1
        · (intro w hSw; (try dsimp only at hSw); go_simp; try with_reducible rfl)
        (try simp only [Act.put, List.setIfInBounds_toArray, List.set_cons_zero, List.set_cons_succ, List.getElem_toArray, List.getElem_cons_zero, List.getElem_cons_succ])
        refine wpAnyH_ready (rs := [17]) (by kernel_rfl) (by simp) ?_
        refine AllReadyH.cons rfl (fun K hK => ?_) AllReadyH.nil
        have rc := R.cell
        have rf := R.frozen
        go_simp
        have PF := (((((P.far (p := ⟨w.heap.size + 1, 0, none⟩) (by show w.heap.size ≠ w.heap.size + 1; omega) (.slice B0 d.codes.length e0)).far (p := ⟨w.heap.size + 1, 1, none⟩) (by show w.heap.size ≠ w.heap.size + 1; omega) (.slice B1 d.known.length e1)).far (p := ⟨w.heap.size + 1, 2, none⟩) (by show w.heap.size ≠ w.heap.size + 1; omega) (.slice B2 d.queue.length e2)).far (p := ⟨w.heap.size + 1, 3, none⟩) (by show w.heap.size ≠ w.heap.size + 1; omega) (.slice B3 n3 e3)).far (p := ⟨w.heap.size + 1, 4, none⟩) (by show w.heap.size ≠ w.heap.size + 1; omega) (.slice B4 d.trouble.length e4))
        have EF := ((((((Only.refl (fun b => b = w.heap.size + 1) wi7).setCell (p := ⟨w.heap.size + 1, 0, none⟩) rfl (.slice B0 d.codes.length e0)).setCell (p := ⟨w.heap.size + 1, 1, none⟩) rfl (.slice B1 d.known.length e1)).setCell (p := ⟨w.heap.size + 1, 2, none⟩) rfl (.slice B2 d.queue.length e2)).setCell (p := ⟨w.heap.size + 1, 3, none⟩) rfl (.slice B3 n3 e3)).setCell (p := ⟨w.heap.size + 1, 4, none⟩) rfl (.slice B4 d.trouble.length e4))
        have RF := (((((R.set_ 0 (.slice B0 d.codes.length e0)).set_ 1 (.slice B1 d.known.length e1)).set_ 2 (.slice B2 d.queue.length e2)).set_ 3 (.slice B3 n3 e3)).set_ 4 (.slice B4 d.trouble.length e4))
        refine hK.out _ _ (by exact ⟨PF.cell 0, PF.cell 1, PF.cell 2, PF.cell 3, PF.cell 4⟩) (fun hHeld => ?_)
        clear hK K rc rf
        refine wpAnyH_done (by kernel_rfl) ?_ _
        go_wp2_with fail
        have zF := EF.size
        replace M0 := M0.only EF (fun b h1 h2 => by have := h1.1; have := h1.2; omega)
        replace M1 := M1.only EF (fun b h1 h2 => by have := h1.1; have := h1.2; omega)
        replace M2 := M2.only EF (fun b h1 h2 => by have := h1.1; have := h1.2; omega)
        replace M3 := M3.only EF (fun b h1 h2 => by rcases q33 b h1 with h5 | h5 <;> omega)
        replace M4 := M4.only EF (fun b h1 h2 => by have := h1.1; have := h1.2; omega)
        refine bodyPost_ret (results_cell_row rfl _ _ (w.heap.size + 1) _ _ (0, 0) _ rfl RF Tryz.underlying37 rfl (by kernel_rfl)) rfl ⟨⟨B0, d.codes.length, e0, B1, d.known.length, e1, B2, d.queue.length, e2, B3, n3, e3, B4, d.trouble.length, e4⟩, rfl, MineDesk.of5 M0 M1 (.of M2) M3 (.of M4) (fun b h1 => by have := h1.1; have := h1.2; exact ⟨by omega, by omega⟩) (fun b h1 => by have := h1.1; have := h1.2; exact ⟨by omega, by omega⟩) (fun b h1 => by have := h1.1; have := h1.2; exact ⟨by omega, by omega⟩) (fun b h1 => by rcases q33 b h1 with h5 | h5 <;> exact ⟨by omega, by omega⟩) (fun b h1 => by have := h1.1; have := h1.2; exact ⟨by omega, by omega⟩) (fun b h1 h2 => by have := h1.1; have := h1.2; have := h2.1; have := h2.2; omega) (fun b h1 h2 => by have := h1.1; have := h1.2; have := h2.1; have := h2.2; omega) (fun b h1 h2 => by have := h1.1; have := h1.2; rcases q33 b h2 with h5 | h5 <;> omega) (fun b h1 h2 => by have := h1.1; have := h1.2; have := h2.1; have := h2.2; omega) (fun b h1 h2 => by have := h1.1; have := h1.2; have := h2.1; have := h2.2; omega) (fun b h1 h2 => by have := h1.1; have := h1.2; rcases q33 b h2 with h5 | h5 <;> omega) (fun b h1 h2 => by have := h1.1; have := h1.2; have := h2.1; have := h2.2; omega) (fun b h1 h2 => by have := h1.1; have := h1.2; rcases q33 b h2 with h5 | h5 <;> omega) (fun b h1 h2 => by have := h1.1; have := h1.2; have := h2.1; have := h2.2; omega) (fun b h1 h2 => by have := h2.1; have := h2.2; rcases q33 b h1 with h5 | h5 <;> omega), HF.out _ _ _ _ _ _ _ _ _ _, hcap3, ?_⟩
        exact KB7.trans (EF.below (fun k hk => by omega) (by omega))
      refine AllReadyH.cons rfl (fun K hK => ?_) AllReadyH.nil
      · go_simp
        have U4 : Below wi3.heap.size wi3 (wi3.alloc (.cells #[] 84)) := (Below.refl _ _).alloc (Nat.le_refl _) _
        have KB4 := bel_then KB3 U4
        have y4 := U4.size
        replace P := P.next U4
        replace R := R.next U4
        replace M0 := M0.next U4
        replace M1 := M1.next U4
        have own := own_empty wi3 84 3
        have z4 : wi3.heap.size + 1 ≤ (wi3.alloc (.cells #[] 84)).heap.size := by simp
        refine hK.out _ _ (by exact ⟨P.cell 0, P.cell 1, P.cell 2, P.cell 3, P.cell 4⟩) (fun hHeld => ?_)
        clear hK K
        (try simp only [Act.put, List.setIfInBounds_toArray, List.set_cons_zero, List.set_cons_succ, List.getElem_toArray, List.getElem_cons_zero, List.getElem_cons_succ])
        generalize (wi3.alloc (.cells #[] 84)) = wi4 at *
        refine wpAnyH_ready (rs := [8]) (by kernel_rfl) (by simp) ?_
        refine AllReadyH.cons rfl (fun K hK => ?_) AllReadyH.nil
        go_simp
        refine (newCards_any _ _ c2 d.queue _ (s2.below KB4 (Nat.le_refl _)) ft2 fx2).mono ?_
        rintro e wi5 ⟨B2, e2, rfl, M2, b5⟩
        have KB5 := bel_then KB4 b5
        have y5 := b5.size
        replace P := P.next b5
        replace R := R.next b5
        replace M0 := M0.next b5
        replace M1 := M1.next b5
        replace own := own_below own b5
        go_wp2_with fail
        refine hK.out _ _ (by exact ⟨P.cell 0, P.cell 1, P.cell 2, P.cell 3, P.cell 4⟩) (fun hHeld => ?_)
        clear hK K
        refine wpAnyH_ready (rs := [12]) (by kernel_rfl) (by simp) ?_
        refine AllReadyH.cons rfl (fun K hK => ?_) AllReadyH.nil
        refine step_cat rfl _ _ _ (by rfl) Tryz.underlying35 info_impl_DeskRow rfl (by decide) (by rfl) own (by rfl) (m := n3) (s3.below KB5 (Nat.le_refl _)) (row_all _) (by omega) (by omega) (by decide) (by omega) ?_
        intro B3 e3 wi6 o3 h3 b6 q3
        simp only [Nat.zero_add, List.nil_append] at o3
        (try simp only [Nat.zero_add])
        have KB6 := KB5.trans (b6.mono (by omega))
        have y6 := h3.size
        replace P := P.only h3 (own_not own (by omega))
        replace R := R.only h3 (own_not own (by omega))
        replace M0 := M0.only h3 (fun b h1 h2 => by have h5 : wi3.heap.size = b := (by simpa [OwnB, Value.ownBlock] using h2); have := h1.1; have := h1.2; omega)
        replace M1 := M1.only h3 (fun b h1 h2 => by have h5 : wi3.heap.size = b := (by simpa [OwnB, Value.ownBlock] using h2); have := h1.1; have := h1.2; omega)
        replace M2 := M2.only h3 (fun b h1 h2 => by have h5 : wi3.heap.size = b := (by simpa [OwnB, Value.ownBlock] using h2); have := h1.1; have := h1.2; omega)
        have M3 := (Mine.of o3).exact_
        have hcap3 := own_cap o3
        have q33 : ∀ b, OwnB B3 b → b = wi3.heap.size ∨ (wi5.heap.size ≤ b ∧ b < wi6.heap.size) := fun b hb => by
          have h8 := (own_top o3 hb).2
          rcases q3 b hb with h5 | h5
          · exact .inl (by simpa [OwnB, Value.ownBlock, eq_comm] using h5)
          · exact .inr ⟨h5, h8⟩
        clear own o3 q3 h3
        refine hK.out _ _ (by exact ⟨P.cell 0, P.cell 1, P.cell 2, P.cell 3, P.cell 4⟩) (fun hHeld => ?_)
        clear hK K
        (try simp only [Act.put, List.setIfInBounds_toArray, List.set_cons_zero, List.set_cons_succ, List.getElem_toArray, List.getElem_cons_zero, List.getElem_cons_succ])
        refine wpAnyH_ready (rs := [15]) (by kernel_rfl) (by simp) ?_
        refine AllReadyH.cons rfl (fun K hK => ?_) AllReadyH.nil
        go_simp
        refine (newCards_any _ _ c4 d.trouble _ (s4.below KB6 (Nat.le_refl _)) ft4 fx4).mono ?_
        rintro e wi7 ⟨B4, e4, rfl, M4, b7⟩
        have KB7 := bel_then KB6 b7
        have y7 := b7.size
        replace P := P.next b7
        replace R := R.next b7
        replace M0 := M0.next b7
        replace M1 := M1.next b7
        replace M2 := M2.next b7
        replace M3 := M3.next b7
        go_wp2_with fail
        refine hK.out _ _ (by exact ⟨P.cell 0, P.cell 1, P.cell 2, P.cell 3, P.cell 4⟩) (fun hHeld => ?_)
        clear hK K
        refine wpAnyH_take (i := 16) (v := ?_) rfl (by kernel_rfl) (by kernel_rfl) (by kernel_rfl) (fun _ _ _ h => h) (Or.inl ⟨by rfl, ?_⟩) (by assumption) ?_
        rotate_left 1
        · (intro w hSw; (try dsimp only at hSw); go_simp; try with_reducible rfl)
        (try simp only [Act.put, List.setIfInBounds_toArray, List.set_cons_zero, List.set_cons_succ, List.getElem_toArray, List.getElem_cons_zero, List.getElem_cons_succ])
        refine wpAnyH_ready (rs := [17]) (by kernel_rfl) (by simp) ?_
        refine AllReadyH.cons rfl (fun K hK => ?_) AllReadyH.nil
        have rc := R.cell
        have rf := R.frozen
        go_simp
        have PF := (((((P.far (p := ⟨w.heap.size + 1, 0, none⟩) (by show w.heap.size ≠ w.heap.size + 1; omega) (.slice B0 d.codes.length e0)).far (p := ⟨w.heap.size + 1, 1, none⟩) (by show w.heap.size ≠ w.heap.size + 1; omega) (.slice B1 d.known.length e1)).far (p := ⟨w.heap.size + 1, 2, none⟩) (by show w.heap.size ≠ w.heap.size + 1; omega) (.slice B2 d.queue.length e2)).far (p := ⟨w.heap.size + 1, 3, none⟩) (by show w.heap.size ≠ w.heap.size + 1; omega) (.slice B3 n3 e3)).far (p := ⟨w.heap.size + 1, 4, none⟩) (by show w.heap.size ≠ w.heap.size + 1; omega) (.slice B4 d.trouble.length e4))
        have EF := ((((((Only.refl (fun b => b = w.heap.size + 1) wi7).setCell (p := ⟨w.heap.size + 1, 0, none⟩) rfl (.slice B0 d.codes.length e0)).setCell (p := ⟨w.heap.size + 1, 1, none⟩) rfl (.slice B1 d.known.length e1)).setCell (p := ⟨w.heap.size + 1, 2, none⟩) rfl (.slice B2 d.queue.length e2)).setCell (p := ⟨w.heap.size + 1, 3, none⟩) rfl (.slice B3 n3 e3)).setCell (p := ⟨w.heap.size + 1, 4, none⟩) rfl (.slice B4 d.trouble.length e4))
        have RF := (((((R.set_ 0 (.slice B0 d.codes.length e0)).set_ 1 (.slice B1 d.known.length e1)).set_ 2 (.slice B2 d.queue.length e2)).set_ 3 (.slice B3 n3 e3)).set_ 4 (.slice B4 d.trouble.length e4))
        refine hK.out _ _ (by exact ⟨PF.cell 0, PF.cell 1, PF.cell 2, PF.cell 3, PF.cell 4⟩) (fun hHeld => ?_)
        clear hK K rc rf
        refine wpAnyH_done (by kernel_rfl) ?_ _
        go_wp2_with fail
        have zF := EF.size
        replace M0 := M0.only EF (fun b h1 h2 => by have := h1.1; have := h1.2; omega)
        replace M1 := M1.only EF (fun b h1 h2 => by have := h1.1; have := h1.2; omega)
        replace M2 := M2.only EF (fun b h1 h2 => by have := h1.1; have := h1.2; omega)
        replace M3 := M3.only EF (fun b h1 h2 => by rcases q33 b h1 with h5 | h5 <;> omega)
        replace M4 := M4.only EF (fun b h1 h2 => by have := h1.1; have := h1.2; omega)
        refine bodyPost_ret (results_cell_row rfl _ _ (w.heap.size + 1) _ _ (0, 0) _ rfl RF Tryz.underlying37 rfl (by kernel_rfl)) rfl ⟨⟨B0, d.codes.length, e0, B1, d.known.length, e1, B2, d.queue.length, e2, B3, n3, e3, B4, d.trouble.length, e4⟩, rfl, MineDesk.of5 M0 M1 (.of M2) M3 (.of M4) (fun b h1 => by have := h1.1; have := h1.2; exact ⟨by omega, by omega⟩) (fun b h1 => by have := h1.1; have := h1.2; exact ⟨by omega, by omega⟩) (fun b h1 => by have := h1.1; have := h1.2; exact ⟨by omega, by omega⟩) (fun b h1 => by rcases q33 b h1 with h5 | h5 <;> exact ⟨by omega, by omega⟩) (fun b h1 => by have := h1.1; have := h1.2; exact ⟨by omega, by omega⟩) (fun b h1 h2 => by have := h1.1; have := h1.2; have := h2.1; have := h2.2; omega) (fun b h1 h2 => by have := h1.1; have := h1.2; have := h2.1; have := h2.2; omega) (fun b h1 h2 => by have := h1.1; have := h1.2; rcases q33 b h2 with h5 | h5 <;> omega) (fun b h1 h2 => by have := h1.1; have := h1.2; have := h2.1; have := h2.2; omega) (fun b h1 h2 => by have := h1.1; have := h1.2; have := h2.1; have := h2.2; omega) (fun b h1 h2 => by have := h1.1; have := h1.2; rcases q33 b h2 with h5 | h5 <;> omega) (fun b h1 h2 => by have := h1.1; have := h1.2; have := h2.1; have := h2.2; omega) (fun b h1 h2 => by have := h1.1; have := h1.2; rcases q33 b h2 with h5 | h5 <;> omega) (fun b h1 h2 => by have := h1.1; have := h1.2; have := h2.1; have := h2.2; omega) (fun b h1 h2 => by have := h2.1; have := h2.2; rcases q33 b h1 with h5 | h5 <;> omega), HF.out _ _ _ _ _ _ _ _ _ _, hcap3, ?_⟩
        exact KB7.trans (EF.below (fun k hk => by omega) (by omega))
    refine AllReadyH.cons rfl (fun K hK => ?_) AllReadyH.nil
    · go_simp
      have U3 : Below wi2.heap.size wi2 (wi2.alloc (.cells #[] 84)) := (Below.refl _ _).alloc (Nat.le_refl _) _
      have KB3 := bel_then KB2 U3
      have y3 := U3.size
      replace P := P.next U3
      replace R := R.next U3
      replace M0 := M0.next U3
      have own := own_empty wi2 84 3
      have z3 : wi2.heap.size + 1 ≤ (wi2.alloc (.cells #[] 84)).heap.size := by simp
      refine hK.out _ _ (by exact ⟨P.cell 0, P.cell 1, P.cell 2, P.cell 3, P.cell 4⟩) (fun hHeld => ?_)
      clear hK K
      (try simp only [Act.put, List.setIfInBounds_toArray, List.set_cons_zero, List.set_cons_succ, List.getElem_toArray, List.getElem_cons_zero, List.getElem_cons_succ])
      generalize (wi2.alloc (.cells #[] 84)) = wi3 at *
      refine wpAnyH_ready (rs := [5]) (by kernel_rfl) (by simp) ?_
      refine AllReadyH.cons rfl (fun K hK => ?_) AllReadyH.nil
      go_simp
      refine (copyInts_any _ _ c1 0 d.known _ (s1.below KB3 (Nat.le_refl _)) ft1).mono ?_
      rintro e wi4 ⟨B1, e1, rfl, oo, b4⟩
      have KB4 := bel_then KB3 b4
      have y4 := b4.size
      replace P := P.next b4
      replace R := R.next b4
      replace M0 := M0.next b4
      replace own := own_below own b4
      have M1 := Mine.of oo
      clear oo
      go_wp2_with fail
      refine hK.out _ _ (by exact ⟨P.cell 0, P.cell 1, P.cell 2, P.cell 3, P.cell 4⟩) (fun hHeld => ?_)
      clear hK K
      refine wpAnyH_ready (rs := [8]) (by kernel_rfl) (by simp) ?_
      refine AllReadyH.cons rfl (fun K hK => ?_) AllReadyH.nil
      go_simp
      refine (newCards_any _ _ c2 d.queue _ (s2.below KB4 (Nat.le_refl _)) ft2 fx2).mono ?_
      rintro e wi5 ⟨B2, e2, rfl, M2, b5⟩
      have KB5 := bel_then KB4 b5
      have y5 := b5.size
      replace P := P.next b5
      replace R := R.next b5
      replace M0 := M0.next b5
      replace M1 := M1.next b5
      replace own := own_below own b5
      go_wp2_with fail
      refine hK.out _ _ (by exact ⟨P.cell 0, P.cell 1, P.cell 2, P.cell 3, P.cell 4⟩) (fun hHeld => ?_)
      clear hK K
      refine wpAnyH_ready (rs := [12]) (by kernel_rfl) (by simp) ?_
      refine AllReadyH.cons rfl (fun K hK => ?_) AllReadyH.nil
      refine step_cat rfl _ _ _ (by rfl) Tryz.underlying35 info_impl_DeskRow rfl (by decide) (by rfl) own (by rfl) (m := n3) (s3.below KB5 (Nat.le_refl _)) (row_all _) (by omega) (by omega) (by decide) (by omega) ?_
      intro B3 e3 wi6 o3 h3 b6 q3
      simp only [Nat.zero_add, List.nil_append] at o3
      (try simp only [Nat.zero_add])
      have KB6 := KB5.trans (b6.mono (by omega))
      have y6 := h3.size
      replace P := P.only h3 (own_not own (by omega))
      replace R := R.only h3 (own_not own (by omega))
      replace M0 := M0.only h3 (fun b h1 h2 => by have h5 : wi2.heap.size = b := (by simpa [OwnB, Value.ownBlock] using h2); have := h1.1; have := h1.2; omega)
      replace M1 := M1.only h3 (fun b h1 h2 => by have h5 : wi2.heap.size = b := (by simpa [OwnB, Value.ownBlock] using h2); have := h1.1; have := h1.2; omega)
      replace M2 := M2.only h3 (fun b h1 h2 => by have h5 : wi2.heap.size = b := (by simpa [OwnB, Value.ownBlock] using h2); have := h1.1; have := h1.2; omega)
      have M3 := (Mine.of o3).exact_
      have hcap3 := own_cap o3
      have q33 : ∀ b, OwnB B3 b → b = wi2.heap.size ∨ (wi5.heap.size ≤ b ∧ b < wi6.heap.size) := fun b hb => by
        have h8 := (own_top o3 hb).2
        rcases q3 b hb with h5 | h5
        · exact .inl (by simpa [OwnB, Value.ownBlock, eq_comm] using h5)
        · exact .inr ⟨h5, h8⟩
      clear own o3 q3 h3
      refine hK.out _ _ (by exact ⟨P.cell 0, P.cell 1, P.cell 2, P.cell 3, P.cell 4⟩) (fun hHeld => ?_)
      clear hK K
      (try simp only [Act.put, List.setIfInBounds_toArray, List.set_cons_zero, List.set_cons_succ, List.getElem_toArray, List.getElem_cons_zero, List.getElem_cons_succ])
      refine wpAnyH_ready (rs := [15]) (by kernel_rfl) (by simp) ?_
      refine AllReadyH.cons rfl (fun K hK => ?_) AllReadyH.nil
      go_simp
      refine (newCards_any _ _ c4 d.trouble _ (s4.below KB6 (Nat.le_refl _)) ft4 fx4).mono ?_
      rintro e wi7 ⟨B4, e4, rfl, M4, b7⟩
      have KB7 := bel_then KB6 b7
      have y7 := b7.size
      replace P := P.next b7
      replace R := R.next b7
      replace M0 := M0.next b7
      replace M1 := M1.next b7
      replace M2 := M2.next b7
      replace M3 := M3.next b7
      go_wp2_with fail
      refine hK.out _ _ (by exact ⟨P.cell 0, P.cell 1, P.cell 2, P.cell 3, P.cell 4⟩) (fun hHeld => ?_)
      clear hK K
      refine wpAnyH_take (i := 16) (v := ?_) rfl (by kernel_rfl) (by kernel_rfl) (by kernel_rfl) (fun _ _ _ h => h) (Or.inl ⟨by rfl, ?_⟩) (by assumption) ?_
      rotate_left 1
      · (intro w hSw; (try dsimp only at hSw); go_simp; try with_reducible rfl)
      (try simp only [Act.put, List.setIfInBounds_toArray, List.set_cons_zero, List.set_cons_succ, List.getElem_toArray, List.getElem_cons_zero, List.getElem_cons_succ])
      refine wpAnyH_ready (rs := [17]) (by kernel_rfl) (by simp) ?_
      refine AllReadyH.cons rfl (fun K hK => ?_) AllReadyH.nil
      have rc := R.cell
      have rf := R.frozen
      go_simp
      have PF := (((((P.far (p := ⟨w.heap.size + 1, 0, none⟩) (by show w.heap.size ≠ w.heap.size + 1; omega) (.slice B0 d.codes.length e0)).far (p := ⟨w.heap.size + 1, 1, none⟩) (by show w.heap.size ≠ w.heap.size + 1; omega) (.slice B1 d.known.length e1)).far (p := ⟨w.heap.size + 1, 2, none⟩) (by show w.heap.size ≠ w.heap.size + 1; omega) (.slice B2 d.queue.length e2)).far (p := ⟨w.heap.size + 1, 3, none⟩) (by show w.heap.size ≠ w.heap.size + 1; omega) (.slice B3 n3 e3)).far (p := ⟨w.heap.size + 1, 4, none⟩) (by show w.heap.size ≠ w.heap.size + 1; omega) (.slice B4 d.trouble.length e4))
      have EF := ((((((Only.refl (fun b => b = w.heap.size + 1) wi7).setCell (p := ⟨w.heap.size + 1, 0, none⟩) rfl (.slice B0 d.codes.length e0)).setCell (p := ⟨w.heap.size + 1, 1, none⟩) rfl (.slice B1 d.known.length e1)).setCell (p := ⟨w.heap.size + 1, 2, none⟩) rfl (.slice B2 d.queue.length e2)).setCell (p := ⟨w.heap.size + 1, 3, none⟩) rfl (.slice B3 n3 e3)).setCell (p := ⟨w.heap.size + 1, 4, none⟩) rfl (.slice B4 d.trouble.length e4))
      have RF := (((((R.set_ 0 (.slice B0 d.codes.length e0)).set_ 1 (.slice B1 d.known.length e1)).set_ 2 (.slice B2 d.queue.length e2)).set_ 3 (.slice B3 n3 e3)).set_ 4 (.slice B4 d.trouble.length e4))
      refine hK.out _ _ (by exact ⟨PF.cell 0, PF.cell 1, PF.cell 2, PF.cell 3, PF.cell 4⟩) (fun hHeld => ?_)
      clear hK K rc rf
      refine wpAnyH_done (by kernel_rfl) ?_ _
      go_wp2_with fail
      have zF := EF.size
      replace M0 := M0.only EF (fun b h1 h2 => by have := h1.1; have := h1.2; omega)
      replace M1 := M1.only EF (fun b h1 h2 => by have := h1.1; have := h1.2; omega)
      replace M2 := M2.only EF (fun b h1 h2 => by have := h1.1; have := h1.2; omega)
      replace M3 := M3.only EF (fun b h1 h2 => by rcases q33 b h1 with h5 | h5 <;> omega)
      replace M4 := M4.only EF (fun b h1 h2 => by have := h1.1; have := h1.2; omega)
      refine bodyPost_ret (results_cell_row rfl _ _ (w.heap.size + 1) _ _ (0, 0) _ rfl RF Tryz.underlying37 rfl (by kernel_rfl)) rfl ⟨⟨B0, d.codes.length, e0, B1, d.known.length, e1, B2, d.queue.length, e2, B3, n3, e3, B4, d.trouble.length, e4⟩, rfl, MineDesk.of5 M0 M1 (.of M2) M3 (.of M4) (fun b h1 => by have := h1.1; have := h1.2; exact ⟨by omega, by omega⟩) (fun b h1 => by have := h1.1; have := h1.2; exact ⟨by omega, by omega⟩) (fun b h1 => by have := h1.1; have := h1.2; exact ⟨by omega, by omega⟩) (fun b h1 => by rcases q33 b h1 with h5 | h5 <;> exact ⟨by omega, by omega⟩) (fun b h1 => by have := h1.1; have := h1.2; exact ⟨by omega, by omega⟩) (fun b h1 h2 => by have := h1.1; have := h1.2; have := h2.1; have := h2.2; omega) (fun b h1 h2 => by have := h1.1; have := h1.2; have := h2.1; have := h2.2; omega) (fun b h1 h2 => by have := h1.1; have := h1.2; rcases q33 b h2 with h5 | h5 <;> omega) (fun b h1 h2 => by have := h1.1; have := h1.2; have := h2.1; have := h2.2; omega) (fun b h1 h2 => by have := h1.1; have := h1.2; have := h2.1; have := h2.2; omega) (fun b h1 h2 => by have := h1.1; have := h1.2; rcases q33 b h2 with h5 | h5 <;> omega) (fun b h1 h2 => by have := h1.1; have := h1.2; have := h2.1; have := h2.2; omega) (fun b h1 h2 => by have := h1.1; have := h1.2; rcases q33 b h2 with h5 | h5 <;> omega) (fun b h1 h2 => by have := h1.1; have := h1.2; have := h2.1; have := h2.2; omega) (fun b h1 h2 => by have := h2.1; have := h2.2; rcases q33 b h1 with h5 | h5 <;> omega), HF.out _ _ _ _ _ _ _ _ _ _, hcap3, ?_⟩
      exact KB7.trans (EF.below (fun k hk => by omega) (by omega))
  refine AllReadyH.cons rfl (fun K hK => ?_) AllReadyH.nil
  · go_simp
    have U2 : Below wi1.heap.size wi1 (wi1.alloc (.cells #[] 84)) := (Below.refl _ _).alloc (Nat.le_refl _) _
    have KB2 := bel_then KB1 U2
    have y2 := U2.size
    replace P := P.next U2
    replace R := R.next U2
    have own := own_empty wi1 84 3
    have z2 : wi1.heap.size + 1 ≤ (wi1.alloc (.cells #[] 84)).heap.size := by simp
    refine hK.out _ _ (by exact ⟨P.cell 0, P.cell 1, P.cell 2, P.cell 3, P.cell 4⟩) (fun hHeld => ?_)
    clear hK K
    (try simp only [Act.put, List.setIfInBounds_toArray, List.set_cons_zero, List.set_cons_succ, List.getElem_toArray, List.getElem_cons_zero, List.getElem_cons_succ])
    generalize (wi1.alloc (.cells #[] 84)) = wi2 at *
    refine wpAnyH_ready (rs := [2]) (by kernel_rfl) (by simp) ?_
    refine AllReadyH.cons rfl (fun K hK => ?_) AllReadyH.nil
    go_simp
    refine (copyInts_any _ _ c0 0 d.codes _ (s0.below KB2 (Nat.le_refl _)) ft0).mono ?_
    rintro e wi3 ⟨B0, e0, rfl, oo, b3⟩
    have KB3 := bel_then KB2 b3
    have y3 := b3.size
    replace P := P.next b3
    replace R := R.next b3
    replace own := own_below own b3
    have M0 := Mine.of oo
    clear oo
    go_wp2_with fail
    refine hK.out _ _ (by exact ⟨P.cell 0, P.cell 1, P.cell 2, P.cell 3, P.cell 4⟩) (fun hHeld => ?_)
    clear hK K
    refine wpAnyH_ready (rs := [5]) (by kernel_rfl) (by simp) ?_
    refine AllReadyH.cons rfl (fun K hK => ?_) AllReadyH.nil
    go_simp
    refine (copyInts_any _ _ c1 0 d.known _ (s1.below KB3 (Nat.le_refl _)) ft1).mono ?_
    rintro e wi4 ⟨B1, e1, rfl, oo, b4⟩
    have KB4 := bel_then KB3 b4
    have y4 := b4.size
    replace P := P.next b4
    replace R := R.next b4
    replace M0 := M0.next b4
    replace own := own_below own b4
    have M1 := Mine.of oo
    clear oo
    go_wp2_with fail
    refine hK.out _ _ (by exact ⟨P.cell 0, P.cell 1, P.cell 2, P.cell 3, P.cell 4⟩) (fun hHeld => ?_)
    clear hK K
    refine wpAnyH_ready (rs := [8]) (by kernel_rfl) (by simp) ?_
    refine AllReadyH.cons rfl (fun K hK => ?_) AllReadyH.nil
    go_simp
    refine (newCards_any _ _ c2 d.queue _ (s2.below KB4 (Nat.le_refl _)) ft2 fx2).mono ?_
    rintro e wi5 ⟨B2, e2, rfl, M2, b5⟩
    have KB5 := bel_then KB4 b5
    have y5 := b5.size
    replace P := P.next b5
    replace R := R.next b5
    replace M0 := M0.next b5
    replace M1 := M1.next b5
    replace own := own_below own b5
    go_wp2_with fail
    refine hK.out _ _ (by exact ⟨P.cell 0, P.cell 1, P.cell 2, P.cell 3, P.cell 4⟩) (fun hHeld => ?_)
    clear hK K
    refine wpAnyH_ready (rs := [12]) (by kernel_rfl) (by simp) ?_
    refine AllReadyH.cons rfl (fun K hK => ?_) AllReadyH.nil
    refine step_cat rfl _ _ _ (by rfl) Tryz.underlying35 info_impl_DeskRow rfl (by decide) (by rfl) own (by rfl) (m := n3) (s3.below KB5 (Nat.le_refl _)) (row_all _) (by omega) (by omega) (by decide) (by omega) ?_
    intro B3 e3 wi6 o3 h3 b6 q3
    simp only [Nat.zero_add, List.nil_append] at o3
    (try simp only [Nat.zero_add])
    have KB6 := KB5.trans (b6.mono (by omega))
    have y6 := h3.size
    replace P := P.only h3 (own_not own (by omega))
    replace R := R.only h3 (own_not own (by omega))
    replace M0 := M0.only h3 (fun b h1 h2 => by have h5 : wi1.heap.size = b := (by simpa [OwnB, Value.ownBlock] using h2); have := h1.1; have := h1.2; omega)
    replace M1 := M1.only h3 (fun b h1 h2 => by have h5 : wi1.heap.size = b := (by simpa [OwnB, Value.ownBlock] using h2); have := h1.1; have := h1.2; omega)
    replace M2 := M2.only h3 (fun b h1 h2 => by have h5 : wi1.heap.size = b := (by simpa [OwnB, Value.ownBlock] using h2); have := h1.1; have := h1.2; omega)
    have M3 := (Mine.of o3).exact_
    have hcap3 := own_cap o3
    have q33 : ∀ b, OwnB B3 b → b = wi1.heap.size ∨ (wi5.heap.size ≤ b ∧ b < wi6.heap.size) := fun b hb => by
      have h8 := (own_top o3 hb).2
      rcases q3 b hb with h5 | h5
      · exact .inl (by simpa [OwnB, Value.ownBlock, eq_comm] using h5)
      · exact .inr ⟨h5, h8⟩
    clear own o3 q3 h3
    refine hK.out _ _ (by exact ⟨P.cell 0, P.cell 1, P.cell 2, P.cell 3, P.cell 4⟩) (fun hHeld => ?_)
    clear hK K
    (try simp only [Act.put, List.setIfInBounds_toArray, List.set_cons_zero, List.set_cons_succ, List.getElem_toArray, List.getElem_cons_zero, List.getElem_cons_succ])
    refine wpAnyH_ready (rs := [15]) (by kernel_rfl) (by simp) ?_
    refine AllReadyH.cons rfl (fun K hK => ?_) AllReadyH.nil
    go_simp
    refine (newCards_any _ _ c4 d.trouble _ (s4.below KB6 (Nat.le_refl _)) ft4 fx4).mono ?_
    rintro e wi7 ⟨B4, e4, rfl, M4, b7⟩
    have KB7 := bel_then KB6 b7
    have y7 := b7.size
    replace P := P.next b7
    replace R := R.next b7
    replace M0 := M0.next b7
    replace M1 := M1.next b7
    replace M2 := M2.next b7
    replace M3 := M3.next b7
    go_wp2_with fail
    refine hK.out _ _ (by exact ⟨P.cell 0, P.cell 1, P.cell 2, P.cell 3, P.cell 4⟩) (fun hHeld => ?_)
    clear hK K
    refine wpAnyH_take (i := 16) (v := ?_) rfl (by kernel_rfl) (by kernel_rfl) (by kernel_rfl) (fun _ _ _ h => h) (Or.inl ⟨by rfl, ?_⟩) (by assumption) ?_
    rotate_left 1
    · (intro w hSw; (try dsimp only at hSw); go_simp; try with_reducible rfl)
    (try simp only [Act.put, List.setIfInBounds_toArray, List.set_cons_zero, List.set_cons_succ, List.getElem_toArray, List.getElem_cons_zero, List.getElem_cons_succ])
    refine wpAnyH_ready (rs := [17]) (by kernel_rfl) (by simp) ?_
    refine AllReadyH.cons rfl (fun K hK => ?_) AllReadyH.nil
    have rc := R.cell
    have rf := R.frozen
    go_simp
    have PF := (((((P.far (p := ⟨w.heap.size + 1, 0, none⟩) (by show w.heap.size ≠ w.heap.size + 1; omega) (.slice B0 d.codes.length e0)).far (p := ⟨w.heap.size + 1, 1, none⟩) (by show w.heap.size ≠ w.heap.size + 1; omega) (.slice B1 d.known.length e1)).far (p := ⟨w.heap.size + 1, 2, none⟩) (by show w.heap.size ≠ w.heap.size + 1; omega) (.slice B2 d.queue.length e2)).far (p := ⟨w.heap.size + 1, 3, none⟩) (by show w.heap.size ≠ w.heap.size + 1; omega) (.slice B3 n3 e3)).far (p := ⟨w.heap.size + 1, 4, none⟩) (by show w.heap.size ≠ w.heap.size + 1; omega) (.slice B4 d.trouble.length e4))
    have EF := ((((((Only.refl (fun b => b = w.heap.size + 1) wi7).setCell (p := ⟨w.heap.size + 1, 0, none⟩) rfl (.slice B0 d.codes.length e0)).setCell (p := ⟨w.heap.size + 1, 1, none⟩) rfl (.slice B1 d.known.length e1)).setCell (p := ⟨w.heap.size + 1, 2, none⟩) rfl (.slice B2 d.queue.length e2)).setCell (p := ⟨w.heap.size + 1, 3, none⟩) rfl (.slice B3 n3 e3)).setCell (p := ⟨w.heap.size + 1, 4, none⟩) rfl (.slice B4 d.trouble.length e4))
    have RF := (((((R.set_ 0 (.slice B0 d.codes.length e0)).set_ 1 (.slice B1 d.known.length e1)).set_ 2 (.slice B2 d.queue.length e2)).set_ 3 (.slice B3 n3 e3)).set_ 4 (.slice B4 d.trouble.length e4))
    refine hK.out _ _ (by exact ⟨PF.cell 0, PF.cell 1, PF.cell 2, PF.cell 3, PF.cell 4⟩) (fun hHeld => ?_)
    clear hK K rc rf
    refine wpAnyH_done (by kernel_rfl) ?_ _
    go_wp2_with fail
    have zF := EF.size
    replace M0 := M0.only EF (fun b h1 h2 => by have := h1.1; have := h1.2; omega)
    replace M1 := M1.only EF (fun b h1 h2 => by have := h1.1; have := h1.2; omega)
    replace M2 := M2.only EF (fun b h1 h2 => by have := h1.1; have := h1.2; omega)
    replace M3 := M3.only EF (fun b h1 h2 => by rcases q33 b h1 with h5 | h5 <;> omega)
    replace M4 := M4.only EF (fun b h1 h2 => by have := h1.1; have := h1.2; omega)
    refine bodyPost_ret (results_cell_row rfl _ _ (w.heap.size + 1) _ _ (0, 0) _ rfl RF Tryz.underlying37 rfl (by kernel_rfl)) rfl ⟨⟨B0, d.codes.length, e0, B1, d.known.length, e1, B2, d.queue.length, e2, B3, n3, e3, B4, d.trouble.length, e4⟩, rfl, MineDesk.of5 M0 M1 (.of M2) M3 (.of M4) (fun b h1 => by have := h1.1; have := h1.2; exact ⟨by omega, by omega⟩) (fun b h1 => by have := h1.1; have := h1.2; exact ⟨by omega, by omega⟩) (fun b h1 => by have := h1.1; have := h1.2; exact ⟨by omega, by omega⟩) (fun b h1 => by rcases q33 b h1 with h5 | h5 <;> exact ⟨by omega, by omega⟩) (fun b h1 => by have := h1.1; have := h1.2; exact ⟨by omega, by omega⟩) (fun b h1 h2 => by have := h1.1; have := h1.2; have := h2.1; have := h2.2; omega) (fun b h1 h2 => by have := h1.1; have := h1.2; have := h2.1; have := h2.2; omega) (fun b h1 h2 => by have := h1.1; have := h1.2; rcases q33 b h2 with h5 | h5 <;> omega) (fun b h1 h2 => by have := h1.1; have := h1.2; have := h2.1; have := h2.2; omega) (fun b h1 h2 => by have := h1.1; have := h1.2; have := h2.1; have := h2.2; omega) (fun b h1 h2 => by have := h1.1; have := h1.2; rcases q33 b h2 with h5 | h5 <;> omega) (fun b h1 h2 => by have := h1.1; have := h1.2; have := h2.1; have := h2.2; omega) (fun b h1 h2 => by have := h1.1; have := h1.2; rcases q33 b h2 with h5 | h5 <;> omega) (fun b h1 h2 => by have := h1.1; have := h1.2; have := h2.1; have := h2.2; omega) (fun b h1 h2 => by have := h2.1; have := h2.2; rcases q33 b h1 with h5 | h5 <;> omega), HF.out _ _ _ _ _ _ _ _ _ _, hcap3, ?_⟩
    exact KB7.trans (EF.below (fun k hk => by omega) (by omega))

end Go.Proofs.YtkchdhmnomelkaaGreat
