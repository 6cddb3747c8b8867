/- DeskRanking, as the reference has it. -/
import Derived.Test.YtkeffhnkhmalpaaRank
namespace Go.Proofs.Ytkeffhnkhmalpaa
open Go.RowKit

set_option maxRecDepth 100000 in
set_option maxHeartbeats 16000000 in
theorem specDeskRanking_any (h : DeskH) (d : DeskV) (w : World) (hs : SeesDesk w 0 h d) (hn : DeskFit 1048576 h d) (hcap : h.n3 ≤ h.c3) :
    Calls Try.prog 28 #[.agg #[.slice h.A0 h.n0 h.c0, .slice h.A1 h.n1 h.c1, .slice h.A2 h.n2 h.c2, .slice h.A3 h.n3 h.c3, .slice h.A4 h.n4 h.c4]] w (GivesInts w (rankM d)) := by
  obtain ⟨A0, n0, c0, A1, n1, c1', A2, n2, c2', A3, n3, c3, A4, n4, c4⟩ := h
  have K0 : Below w.heap.size w ((w.alloc (.cells #[.slice A0 n0 c0, .slice A1 n1 c1', .slice A2 n2 c2', .slice A3 n3 c3, .slice A4 n4 c4] 32)).alloc (.cells #[] 3)) := ((Below.refl _ _).alloc (Nat.le_refl _) _).alloc (by simp) _
  have P0 : Blk ((w.alloc (.cells #[.slice A0 n0 c0, .slice A1 n1 c1', .slice A2 n2 c2', .slice A3 n3 c3, .slice A4 n4 c4] 32)).alloc (.cells #[] 3)) w.heap.size 32 [.slice A0 n0 c0, .slice A1 n1 c1', .slice A2 n2 c2', .slice A3 n3 c3, .slice A4 n4 c4] := (Blk.at_ rfl).alloc _
  have Q0 : Blk ((w.alloc (.cells #[.slice A0 n0 c0, .slice A1 n1 c1', .slice A2 n2 c2', .slice A3 n3 c3, .slice A4 n4 c4] 32)).alloc (.cells #[] 3)) (w.heap.size + 1) 3 [] := Blk.at_ (by simp)
  have HL := Lib.hid (hs.f3.count (by decide) (fun _ => rfl))
  have hl3a : d.done.length ≤ n3 := by rw [HL.out]; exact Nat.le_refl _
  have hl3b : n3 ≤ d.done.length := by rw [HL.out]; exact Nat.le_refl _
  go_enter Try.func28, Try.ntmps28
  go_wp2_with fail
  refine (l25Good_any ⟨A0, n0, c0, A1, n1, c1', A2, n2, c2', A3, n3, c3, A4, n4, c4⟩ d _ (hs.next K0) hn hcap).mono ?_
  cases g : deskB d
  · rintro e w1 ⟨rfl, b1⟩
    have Q1 := Q0.next b1
    clear Q0
    go_wp2_with fail
    go_ret2
    rw [show rankM d = none by simp [rankM, g]]
    exact ⟨_, 0, rfl, Q1.own (by omega) rfl (by simp [maxLen]), bel_then K0 b1⟩
  · rintro e w1 ⟨rfl, b1⟩
    have HRM := Lib.hid (show rankM d = some ((sortR lessR d.done).map DeskRow.number) by simp [rankM, g])
    have ht := (deskB_top g).2
    have h10 : n3 ≤ 10 := by omega
    have K1 := (bel_then K0 b1).alloc (bel_then K0 b1).size (.cells #[] 54)
    have P1 := (P0.next b1).alloc (.cells #[] 54)
    have Q1 := (Q0.next b1).alloc (.cells #[] 54)
    have O1 := own_low (own_empty w1 54 3) (show w.heap.size + 2 ≤ w1.heap.size from (Q0.next b1).lt)
    have hx := hs.f3
    clear g K0 P0 Q0 b1 ht hs
    go_wp2_with fail
    generalize (w1.alloc (.cells #[] 54)) = w2 at *
    go_loopw [5, 6] (fun v iv wr => ∃ (i g c' : Nat), i ≤ n3 ∧ iv = .int .i64 (i : Int) ∧ v = .slice (some ⟨g, 0, none⟩) i c' ∧ wr.ownsRow (w.heap.size + 2) 54 3 (.slice (some ⟨g, 0, none⟩) i c') i ((sortR lessR (d.done.take i)).flatMap DeskRow.enc) ∧ Blk wr w.heap.size 32 [.slice A0 n0 c0, .slice A1 n1 c1', .slice A2 n2 c2', .slice A3 n3 c3, .slice A4 n4 c4] ∧ Blk wr (w.heap.size + 1) 3 [] ∧ Below w.heap.size w wr) (fun _ iv _ => n3 - (intOf iv).toNat)
    case atStart => exact ⟨0, _, 0, Nat.zero_le _, rfl, rfl, O1, P1, Q1, K1⟩
    case round =>
      obtain ⟨i, g, c', hi, rfl, rfl, own, PB, OB, K⟩ := hrel
      clear O1 P1 Q1 K1
      have pc := PB.cell
      have hpb := PB.lt
      by_cases hlt : i < n3
      · have hix : i < d.done.length := by rw [HL.out]; exact hlt
        have HIN := Lib.hid (show sortR lessR (d.done.take (i + 1)) = insR lessR (sortR lessR (d.done.take i)) d.done[i] from sortR_next lessR hix)
        have HYL := Lib.hid (show (sortR lessR (d.done.take i)).length = i by rw [sortR_length, List.length_take]; omega)
        obtain ⟨bx, ox, rfl, hkx, x0, x1, x2⟩ := (hx.next K).elem3 (fun _ => rfl) hlt
        have hbx := World.block_lt_of_cell? wr _ x0
        obtain ⟨ys, hys⟩ : ∃ ys, sortR lessR (d.done.take i) = ys := ⟨_, rfl⟩
        rw [hys] at own HIN HYL
        obtain ⟨x, hxi⟩ : ∃ x, d.done[i] = x := ⟨_, rfl⟩
        rw [hxi] at HIN
        rw [show d.done[i] = x from hxi] at x0 x1 x2
        have HXI := Lib.hid hxi
        clear hys hxi
        obtain ⟨hic, hgb⟩ : i ≤ c' ∧ g < wr.heap.size := by
          rcases own_row own with ⟨h, _⟩ | ⟨g', rest, h1, h2, h3, h4, h5, h6⟩
          · cases h
          · obtain rfl : g = g' := by simpa using h1
            exact ⟨h5, h3.lt⟩
        have pd := pc 3
        go_wp2_with fail
        clear pc
        obtain ⟨wo, hwo⟩ : ∃ wo : World, wo = wr := ⟨_, rfl⟩
        subst hwo
        go_loopw [7] (fun kv wx => ∃ k : Nat, k ≤ i ∧ kv = .int .i64 (k : Int) ∧ Hid (posR lessR ys x ys.length = posR lessR ys x k) ∧ Below wo.heap.size wo wx) (fun kv _ => (intOf kv).toNat)
        case atStart => exact ⟨i, Nat.le_refl _, rfl, Lib.hid (by rw [HYL.out]), Below.refl _ _⟩
        case round =>
          obtain ⟨k, hk, rfl, HP, hb⟩ := hrel
          have HHB := Lib.hid hb
          replace pd : wo.cell? ⟨w.heap.size, 3, none⟩ = some (.slice (some ⟨bx, ox, none⟩) n3 c3) := pd
          replace own := own_below own hb
          replace K := bel_then K hb
          replace PB := PB.next hb
          replace OB := OB.next hb
          replace pd := (hb.cell (p := ⟨w.heap.size, 3, none⟩) hpb).trans pd
          replace x0 := (hb.cell (p := ⟨bx, ox + i * 3, none⟩) hbx).trans x0
          replace x1 := (hb.cell (p := ⟨bx, ox + i * 3 + 1, none⟩) hbx).trans x1
          replace x2 := (hb.cell (p := ⟨bx, ox + i * 3 + 2, none⟩) hbx).trans x2
          replace hbx := Nat.lt_of_lt_of_le hbx hb.size
          replace hpb := Nat.lt_of_lt_of_le hpb hb.size
          clear hb
          rcases Nat.eq_zero_or_pos k with hk0 | hk0
          · have HPE := Lib.hid (show posR lessR ys x ys.length = k by rw [HP.out, hk0]; rfl)
            have hnot : ¬ 0 < k := by omega
            clear HP hk0
            go_wp2_with fail
            go_quiet (fail)
            have bq := (Quiet.mk wr nq).below wr.heap.size
            replace own := own_below own bq
            replace K := bel_then K bq
            replace PB := PB.next bq
            replace OB := OB.next bq
            replace pd := (bq.cell (p := ⟨w.heap.size, 3, none⟩) hpb).trans pd
            replace x0 := (bq.cell (p := ⟨bx, ox + i * 3, none⟩) hbx).trans x0
            replace x1 := (bq.cell (p := ⟨bx, ox + i * 3 + 1, none⟩) hbx).trans x1
            replace x2 := (bq.cell (p := ⟨bx, ox + i * 3 + 2, none⟩) hbx).trans x2
            replace hbx := Nat.lt_of_lt_of_le hbx bq.size
            replace hpb := Nat.lt_of_lt_of_le hpb bq.size
            clear bq
            generalize wr.drewN nq = wv at *
            have HR2 := Lib.hid (show (insR lessR ys x).flatMap DeskRow.enc = (ys.take k).flatMap DeskRow.enc ++ [.int .i64 x.number, .int .i64 x.missing, .int .i64 x.time] ++ (ys.drop k).flatMap DeskRow.enc by
              rw [insR_at lessR HPE.out, List.flatMap_append, List.flatMap_cons, List.append_assoc]; rfl)
            have hpre := SeesFlat.take (Sees.of_own own) (by decide) (fun _ => rfl) k hk
            by_cases hck : c' = k
            · have hsuf : Sees wv 0 3 (some ⟨g, 0, none⟩) 0 ((ys.drop k).flatMap DeskRow.enc) := by
                rw [List.drop_of_length_le (by rw [HYL.out]; omega)]; exact Sees.nil _ _ _ _
              have hkc : k = c' := hck.symm
              subst hkc
              clear own
              go_wp2_with fail
              have J1 := (Quiet.one wv).below wv.heap.size
              refine wp_region_held_drew (S := fun w' => w'.cell? ⟨w.heap.size, 3, none⟩ = some (.slice (some ⟨bx, ox, none⟩) n3 c3) ∧ w'.cell? ⟨bx, ox + i * 3, none⟩ = some (.int .i64 x.number) ∧ w'.cell? ⟨bx, ox + i * 3 + 1, none⟩ = some (.int .i64 x.missing) ∧ w'.cell? ⟨bx, ox + i * 3 + 2, none⟩ = some (.int .i64 x.time)) (by kernel_rfl) (⟨(J1.cell (p := ⟨w.heap.size, 3, none⟩) hpb).trans pd, (J1.cell (p := ⟨bx, ox + i * 3, none⟩) hbx).trans x0, (J1.cell (p := ⟨bx, ox + i * 3 + 1, none⟩) hbx).trans x1, (J1.cell (p := ⟨bx, ox + i * 3 + 2, none⟩) hbx).trans x2⟩) (fun hHeld => ?_)
              generalize wv.drew = wi1 at *
              refine wpAnyH_take (i := 1) (v := ?_) rfl (by kernel_rfl) (by kernel_rfl) (by kernel_rfl) (fun _ _ _ h => h) (Or.inl ⟨by rfl, ?_⟩) (by assumption) ?_
              rotate_left 1
              · (intro w hSw; (try dsimp only at hSw); go_simp; try with_reducible rfl)
              (try simp only [Act.put, List.setIfInBounds_toArray, List.set_cons_zero, List.set_cons_succ, List.getElem_toArray, List.getElem_cons_zero, List.getElem_cons_succ])
              refine wpAnyH_take (i := 2) (v := ?_) rfl (by kernel_rfl) (by kernel_rfl) (by kernel_rfl) (fun _ _ _ h => h) (Or.inl ⟨by rfl, ?_⟩) (by assumption) ?_
              rotate_left 1
              · (intro w hSw; (try dsimp only at hSw); go_simp; try with_reducible rfl)
              (try simp only [Act.put, List.setIfInBounds_toArray, List.set_cons_zero, List.set_cons_succ, List.getElem_toArray, List.getElem_cons_zero, List.getElem_cons_succ])
              refine wpAnyH_take (i := 3) (v := ?_) rfl (by kernel_rfl) (by kernel_rfl) (by kernel_rfl) (fun _ _ _ h => h) (Or.inl ⟨by rfl, ?_⟩) (by assumption) ?_
              rotate_left 1
              · (intro w hSw; (try dsimp only at hSw); go_simp; try with_reducible rfl)
              (try simp only [Act.put, List.setIfInBounds_toArray, List.set_cons_zero, List.set_cons_succ, List.getElem_toArray, List.getElem_cons_zero, List.getElem_cons_succ])
              refine wpAnyH_take (i := 5) (v := ?_) rfl (by kernel_rfl) (by kernel_rfl) (by kernel_rfl) (fun _ _ _ h => h) (Or.inl ⟨by rfl, ?_⟩) (by assumption) ?_
              rotate_left 1
              · (intro w hSw; (try dsimp only at hSw); go_simp; try with_reducible rfl)
              (try simp only [Act.put, List.setIfInBounds_toArray, List.set_cons_zero, List.set_cons_succ, List.getElem_toArray, List.getElem_cons_zero, List.getElem_cons_succ])
              refine wpAnyH_take (i := 6) (v := ?_) rfl (by kernel_rfl) (by kernel_rfl) (by kernel_rfl) (fun _ _ _ h => h) (Or.inl ⟨by rfl, ?_⟩) (by assumption) ?_
              rotate_left 1
              · (intro w hSw; (try dsimp only at hSw); go_simp; try with_reducible rfl)
              (try simp only [Act.put, List.setIfInBounds_toArray, List.set_cons_zero, List.set_cons_succ, List.getElem_toArray, List.getElem_cons_zero, List.getElem_cons_succ])
              refine wpAnyH_take (i := 7) (v := ?_) rfl (by kernel_rfl) (by kernel_rfl) (by kernel_rfl) (fun _ _ _ h => h) (Or.inl ⟨by rfl, ?_⟩) (by assumption) ?_
              rotate_left 1
              · (intro w hSw; (try dsimp only at hSw); go_simp; try with_reducible rfl)
              (try simp only [Act.put, List.setIfInBounds_toArray, List.set_cons_zero, List.set_cons_succ, List.getElem_toArray, List.getElem_cons_zero, List.getElem_cons_succ])
              refine wpAnyH_take (i := 8) (v := ?_) rfl (by kernel_rfl) (by kernel_rfl) (by kernel_rfl) (fun _ _ _ h => h) (Or.inl ⟨by rfl, ?_⟩) (by assumption) ?_
              rotate_left 1
              · (intro w hSw; (try dsimp only at hSw); go_simp; try with_reducible rfl)
              (try simp only [Act.put, List.setIfInBounds_toArray, List.set_cons_zero, List.set_cons_succ, List.getElem_toArray, List.getElem_cons_zero, List.getElem_cons_succ])
              refine wpAnyH_take (i := 9) (v := ?_) rfl (by kernel_rfl) (by kernel_rfl) (by kernel_rfl) (fun _ _ _ h => h) (Or.inl ⟨by rfl, ?_⟩) (by assumption) ?_
              rotate_left 1
              · (intro w hSw; (try dsimp only at hSw); go_simp; try with_reducible rfl)
              (try simp only [Act.put, List.setIfInBounds_toArray, List.set_cons_zero, List.set_cons_succ, List.getElem_toArray, List.getElem_cons_zero, List.getElem_cons_succ])
              refine wpAnyH_take (i := 12) (v := ?_) rfl (by kernel_rfl) (by kernel_rfl) (by kernel_rfl) (fun _ _ _ h => h) (Or.inl ⟨by rfl, ?_⟩) (by assumption) ?_
              rotate_left 1
              · (intro w hSw; (try dsimp only at hSw); go_simp; try with_reducible rfl)
              (try simp only [Act.put, List.setIfInBounds_toArray, List.set_cons_zero, List.set_cons_succ, List.getElem_toArray, List.getElem_cons_zero, List.getElem_cons_succ])
              refine wpAnyH_take (i := 13) (v := ?_) rfl (by kernel_rfl) (by kernel_rfl) (by kernel_rfl) (fun _ _ _ h => h) (Or.inl ⟨by rfl, ?_⟩) (by assumption) ?_
              rotate_left 1
              · (intro w hSw; (try dsimp only at hSw); go_simp; try with_reducible rfl)
              (try simp only [Act.put, List.setIfInBounds_toArray, List.set_cons_zero, List.set_cons_succ, List.getElem_toArray, List.getElem_cons_zero, List.getElem_cons_succ])
              refine wpAnyH_take (i := 14) (v := ?_) rfl (by kernel_rfl) (by kernel_rfl) (by kernel_rfl) (fun _ _ _ h => h) (Or.inl ⟨by rfl, ?_⟩) (by assumption) ?_
              rotate_left 1
              · (intro w hSw; (try dsimp only at hSw); go_simp; try with_reducible rfl)
              (try simp only [Act.put, List.setIfInBounds_toArray, List.set_cons_zero, List.set_cons_succ, List.getElem_toArray, List.getElem_cons_zero, List.getElem_cons_succ])
              refine wpAnyH_ready (rs := [0, 10]) (by kernel_rfl) (by simp) ?_
              refine AllReadyH.cons rfl (fun K hK => ?_) ?_
              · go_simp
                have U2 : Below wi1.heap.size wi1 (wi1.alloc (.cells #[] 54)) := (Below.refl _ _).alloc (Nat.le_refl _) _
                have J2 := bel_then J1 U2
                refine hK.out _ _ (⟨(J2.cell (p := ⟨w.heap.size, 3, none⟩) hpb).trans pd, (J2.cell (p := ⟨bx, ox + i * 3, none⟩) hbx).trans x0, (J2.cell (p := ⟨bx, ox + i * 3 + 1, none⟩) hbx).trans x1, (J2.cell (p := ⟨bx, ox + i * 3 + 2, none⟩) hbx).trans x2⟩) (fun hHeld => ?_)
                clear hK K
                (try simp only [Act.put, List.setIfInBounds_toArray, List.set_cons_zero, List.set_cons_succ, List.getElem_toArray, List.getElem_cons_zero])
                have own := own_base (own_empty wi1 54 3) (show wv.heap.size ≤ wi1.heap.size from J1.size)
                generalize (wi1.alloc (.cells #[] 54)) = wi2 at *
                have ownP := own
                refine wpAnyH_ready (rs := [4, 10]) (by kernel_rfl) (by simp) ?_
                refine AllReadyH.cons rfl (fun K hK => ?_) ?_
                · refine step_cat rfl _ _ _ (by rfl) Try.underlying30 info_impl_DeskRow rfl (by decide) (by rfl) own (by rfl) (m := k) (hpre.next J2) (row_all _) (by omega) (by omega) (by decide) (by have := J2.size; omega) ?_
                  intro A3 c3 wi3 own3 o3 b3 q3
                  have J3 := J2.trans b3
                  refine hK.out _ _ (⟨(J3.cell (p := ⟨w.heap.size, 3, none⟩) hpb).trans pd, (J3.cell (p := ⟨bx, ox + i * 3, none⟩) hbx).trans x0, (J3.cell (p := ⟨bx, ox + i * 3 + 1, none⟩) hbx).trans x1, (J3.cell (p := ⟨bx, ox + i * 3 + 2, none⟩) hbx).trans x2⟩) (fun hHeld => ?_)
                  clear hK K
                  (try simp only [Act.put, List.setIfInBounds_toArray, List.set_cons_zero, List.set_cons_succ, List.getElem_toArray, List.getElem_cons_zero, List.getElem_cons_succ])
                  (try simp only [Nat.zero_add])
                  simp only [Nat.zero_add, List.nil_append] at own3
                  replace own := own3
                  clear own3
                  replace ownP := own
                  refine wpAnyH_ready (rs := [10]) (by kernel_rfl) (by simp) ?_
                  refine AllReadyH.cons rfl (fun K hK => ?_) AllReadyH.nil
                  go_simp
                  have U4 : Below wi3.heap.size wi3 (wi3.alloc (.cells #[.int .i64 x.number, .int .i64 x.missing, .int .i64 x.time] 54)) := (Below.refl _ _).alloc (Nat.le_refl _) _
                  have J4 := bel_then J3 U4
                  refine hK.out _ _ (⟨(J4.cell (p := ⟨w.heap.size, 3, none⟩) hpb).trans pd, (J4.cell (p := ⟨bx, ox + i * 3, none⟩) hbx).trans x0, (J4.cell (p := ⟨bx, ox + i * 3 + 1, none⟩) hbx).trans x1, (J4.cell (p := ⟨bx, ox + i * 3 + 2, none⟩) hbx).trans x2⟩) (fun hHeld => ?_)
                  clear hK K
                  (try simp only [Act.put, List.setIfInBounds_toArray, List.set_cons_zero, List.set_cons_succ, List.getElem_toArray, List.getElem_cons_zero, List.getElem_cons_succ])
                  replace own := own_below own U4
                  have box : Blk (wi3.alloc (.cells #[.int .i64 x.number, .int .i64 x.missing, .int .i64 x.time] 54)) wi3.heap.size 54 [.int .i64 x.number, .int .i64 x.missing, .int .i64 x.time] := Blk.at_ rfl
                  have lb := box.lt
                  have hne : ∀ b, OwnB A3 b → b ≠ wi3.heap.size := fun b hb => by have := (own_top ownP hb).2; omega
                  generalize (wi3.alloc (.cells #[.int .i64 x.number, .int .i64 x.missing, .int .i64 x.time] 54)) = wi4 at *
                  replace ownP := own
                  refine wpAnyH_ready (rs := [11]) (by kernel_rfl) (by simp) ?_
                  refine AllReadyH.cons rfl (fun K hK => ?_) AllReadyH.nil
                  refine step_cat rfl _ _ _ (by rfl) Try.underlying30 info_impl_DeskRow rfl (by decide) (by rfl) own (by rfl) (m := 1) (box.sees (s := 3) (Nat.zero_le _) rfl) (by simp [Value.oneCell']) (by omega) (by omega) (by decide) (by have := J4.size; omega) ?_
                  intro A5 c5 wi5 own5 o5 b5 q5
                  have J5 := J4.trans b5
                  refine hK.out _ _ (⟨(J5.cell (p := ⟨w.heap.size, 3, none⟩) hpb).trans pd, (J5.cell (p := ⟨bx, ox + i * 3, none⟩) hbx).trans x0, (J5.cell (p := ⟨bx, ox + i * 3 + 1, none⟩) hbx).trans x1, (J5.cell (p := ⟨bx, ox + i * 3 + 2, none⟩) hbx).trans x2⟩) (fun hHeld => ?_)
                  clear hK K
                  (try simp only [Act.put, List.setIfInBounds_toArray, List.set_cons_zero, List.set_cons_succ, List.getElem_toArray, List.getElem_cons_zero, List.getElem_cons_succ])
                  replace own := own5
                  clear own5
                  refine wpAnyH_ready (rs := [15]) (by kernel_rfl) (by simp) ?_
                  refine AllReadyH.cons rfl (fun K hK => ?_) AllReadyH.nil
                  refine step_cat rfl _ _ _ (by rfl) Try.underlying30 info_impl_DeskRow rfl (by decide) (by rfl) own (by rfl) (m := 0) (hsuf.next J5) (row_all _) (by omega) (by omega) (by decide) (by have := J5.size; omega) ?_
                  intro A6 c6 wi6 own6 o6 b6 q6
                  have J6 := J5.trans b6
                  refine hK.out _ _ (⟨(J6.cell (p := ⟨w.heap.size, 3, none⟩) hpb).trans pd, (J6.cell (p := ⟨bx, ox + i * 3, none⟩) hbx).trans x0, (J6.cell (p := ⟨bx, ox + i * 3 + 1, none⟩) hbx).trans x1, (J6.cell (p := ⟨bx, ox + i * 3 + 2, none⟩) hbx).trans x2⟩) (fun hHeld => ?_)
                  clear hK K
                  (try simp only [Act.put, List.setIfInBounds_toArray, List.set_cons_zero, List.set_cons_succ, List.getElem_toArray, List.getElem_cons_zero, List.getElem_cons_succ])
                  replace own := own6
                  clear own6
                  refine wpAnyH_take (i := 16) (v := ?_) rfl (by kernel_rfl) (by kernel_rfl) (by kernel_rfl) (fun _ _ _ h => h) (Or.inl ⟨by rfl, ?_⟩) (by assumption) ?_
                  rotate_left 1
                  · (intro w hSw; (try dsimp only at hSw); go_simp; try with_reducible rfl)
                  (try simp only [Act.put, List.setIfInBounds_toArray, List.set_cons_zero, List.set_cons_succ, List.getElem_toArray, List.getElem_cons_zero, List.getElem_cons_succ])
                  refine wpAnyH_done (by kernel_rfl) ?_ _
                  go_wp2_with fail
                  rw [show k + 1 + 0 = i + 1 by omega] at own
                  obtain ⟨g4, cap4, hv4, -, -⟩ := own.form (Nat.succ_pos _)
                  injection hv4 with hA4 _ _
                  subst hA4
                  go_roundw
                  case rel => exact ⟨i + 1, g4, _, by omega, by go_num, by congr 1; omega, by rw [HIN.out, HR2.out]; exact own_base own OB.lt, PB.next J6, OB.next J6, bel_then K J6⟩
                  case measure => simp [intOf]; omega
                refine AllReadyH.cons rfl (fun K hK => ?_) AllReadyH.nil
                · go_simp
                  have U3 : Below wi2.heap.size wi2 (wi2.alloc (.cells #[.int .i64 x.number, .int .i64 x.missing, .int .i64 x.time] 54)) := (Below.refl _ _).alloc (Nat.le_refl _) _
                  have J3 := bel_then J2 U3
                  refine hK.out _ _ (⟨(J3.cell (p := ⟨w.heap.size, 3, none⟩) hpb).trans pd, (J3.cell (p := ⟨bx, ox + i * 3, none⟩) hbx).trans x0, (J3.cell (p := ⟨bx, ox + i * 3 + 1, none⟩) hbx).trans x1, (J3.cell (p := ⟨bx, ox + i * 3 + 2, none⟩) hbx).trans x2⟩) (fun hHeld => ?_)
                  clear hK K
                  (try simp only [Act.put, List.setIfInBounds_toArray, List.set_cons_zero, List.set_cons_succ, List.getElem_toArray, List.getElem_cons_zero, List.getElem_cons_succ])
                  replace own := own_below own U3
                  have box : Blk (wi2.alloc (.cells #[.int .i64 x.number, .int .i64 x.missing, .int .i64 x.time] 54)) wi2.heap.size 54 [.int .i64 x.number, .int .i64 x.missing, .int .i64 x.time] := Blk.at_ rfl
                  have lb := box.lt
                  have hne : ∀ b, OwnB (some ⟨wi1.heap.size, 0, none⟩) b → b ≠ wi2.heap.size := fun b hb => by have := (own_top ownP hb).2; omega
                  generalize (wi2.alloc (.cells #[.int .i64 x.number, .int .i64 x.missing, .int .i64 x.time] 54)) = wi3 at *
                  replace ownP := own
                  refine wpAnyH_ready (rs := [4]) (by kernel_rfl) (by simp) ?_
                  refine AllReadyH.cons rfl (fun K hK => ?_) AllReadyH.nil
                  refine step_cat rfl _ _ _ (by rfl) Try.underlying30 info_impl_DeskRow rfl (by decide) (by rfl) own (by rfl) (m := k) (hpre.next J3) (row_all _) (by omega) (by omega) (by decide) (by have := J3.size; omega) ?_
                  intro A4 c4 wi4 own4 o4 b4 q4
                  have J4 := J3.trans b4
                  refine hK.out _ _ (⟨(J4.cell (p := ⟨w.heap.size, 3, none⟩) hpb).trans pd, (J4.cell (p := ⟨bx, ox + i * 3, none⟩) hbx).trans x0, (J4.cell (p := ⟨bx, ox + i * 3 + 1, none⟩) hbx).trans x1, (J4.cell (p := ⟨bx, ox + i * 3 + 2, none⟩) hbx).trans x2⟩) (fun hHeld => ?_)
                  clear hK K
                  (try simp only [Act.put, List.setIfInBounds_toArray, List.set_cons_zero, List.set_cons_succ, List.getElem_toArray, List.getElem_cons_zero, List.getElem_cons_succ])
                  (try simp only [Nat.zero_add])
                  replace box := box.only o4 (fun h => hne _ h rfl)
                  simp only [Nat.zero_add, List.nil_append] at own4
                  replace own := own4
                  clear own4
                  replace ownP := own
                  refine wpAnyH_ready (rs := [11]) (by kernel_rfl) (by simp) ?_
                  refine AllReadyH.cons rfl (fun K hK => ?_) AllReadyH.nil
                  refine step_cat rfl _ _ _ (by rfl) Try.underlying30 info_impl_DeskRow rfl (by decide) (by rfl) own (by rfl) (m := 1) (box.sees (s := 3) (Nat.zero_le _) rfl) (by simp [Value.oneCell']) (by omega) (by omega) (by decide) (by have := J4.size; omega) ?_
                  intro A5 c5 wi5 own5 o5 b5 q5
                  have J5 := J4.trans b5
                  refine hK.out _ _ (⟨(J5.cell (p := ⟨w.heap.size, 3, none⟩) hpb).trans pd, (J5.cell (p := ⟨bx, ox + i * 3, none⟩) hbx).trans x0, (J5.cell (p := ⟨bx, ox + i * 3 + 1, none⟩) hbx).trans x1, (J5.cell (p := ⟨bx, ox + i * 3 + 2, none⟩) hbx).trans x2⟩) (fun hHeld => ?_)
                  clear hK K
                  (try simp only [Act.put, List.setIfInBounds_toArray, List.set_cons_zero, List.set_cons_succ, List.getElem_toArray, List.getElem_cons_zero, List.getElem_cons_succ])
                  replace own := own5
                  clear own5
                  refine wpAnyH_ready (rs := [15]) (by kernel_rfl) (by simp) ?_
                  refine AllReadyH.cons rfl (fun K hK => ?_) AllReadyH.nil
                  refine step_cat rfl _ _ _ (by rfl) Try.underlying30 info_impl_DeskRow rfl (by decide) (by rfl) own (by rfl) (m := 0) (hsuf.next J5) (row_all _) (by omega) (by omega) (by decide) (by have := J5.size; omega) ?_
                  intro A6 c6 wi6 own6 o6 b6 q6
                  have J6 := J5.trans b6
                  refine hK.out _ _ (⟨(J6.cell (p := ⟨w.heap.size, 3, none⟩) hpb).trans pd, (J6.cell (p := ⟨bx, ox + i * 3, none⟩) hbx).trans x0, (J6.cell (p := ⟨bx, ox + i * 3 + 1, none⟩) hbx).trans x1, (J6.cell (p := ⟨bx, ox + i * 3 + 2, none⟩) hbx).trans x2⟩) (fun hHeld => ?_)
                  clear hK K
                  (try simp only [Act.put, List.setIfInBounds_toArray, List.set_cons_zero, List.set_cons_succ, List.getElem_toArray, List.getElem_cons_zero, List.getElem_cons_succ])
                  replace own := own6
                  clear own6
                  refine wpAnyH_take (i := 16) (v := ?_) rfl (by kernel_rfl) (by kernel_rfl) (by kernel_rfl) (fun _ _ _ h => h) (Or.inl ⟨by rfl, ?_⟩) (by assumption) ?_
                  rotate_left 1
                  · (intro w hSw; (try dsimp only at hSw); go_simp; try with_reducible rfl)
                  (try simp only [Act.put, List.setIfInBounds_toArray, List.set_cons_zero, List.set_cons_succ, List.getElem_toArray, List.getElem_cons_zero, List.getElem_cons_succ])
                  refine wpAnyH_done (by kernel_rfl) ?_ _
                  go_wp2_with fail
                  rw [show k + 1 + 0 = i + 1 by omega] at own
                  obtain ⟨g4, cap4, hv4, -, -⟩ := own.form (Nat.succ_pos _)
                  injection hv4 with hA4 _ _
                  subst hA4
                  go_roundw
                  case rel => exact ⟨i + 1, g4, _, by omega, by go_num, by congr 1; omega, by rw [HIN.out, HR2.out]; exact own_base own OB.lt, PB.next J6, OB.next J6, bel_then K J6⟩
                  case measure => simp [intOf]; omega
              refine AllReadyH.cons rfl (fun K hK => ?_) AllReadyH.nil
              · go_simp
                have U2 : Below wi1.heap.size wi1 (wi1.alloc (.cells #[.int .i64 x.number, .int .i64 x.missing, .int .i64 x.time] 54)) := (Below.refl _ _).alloc (Nat.le_refl _) _
                have J2 := bel_then J1 U2
                refine hK.out _ _ (⟨(J2.cell (p := ⟨w.heap.size, 3, none⟩) hpb).trans pd, (J2.cell (p := ⟨bx, ox + i * 3, none⟩) hbx).trans x0, (J2.cell (p := ⟨bx, ox + i * 3 + 1, none⟩) hbx).trans x1, (J2.cell (p := ⟨bx, ox + i * 3 + 2, none⟩) hbx).trans x2⟩) (fun hHeld => ?_)
                clear hK K
                (try simp only [Act.put, List.setIfInBounds_toArray, List.set_cons_zero, List.set_cons_succ, List.getElem_toArray, List.getElem_cons_zero, List.getElem_cons_succ])
                have box : Blk (wi1.alloc (.cells #[.int .i64 x.number, .int .i64 x.missing, .int .i64 x.time] 54)) wi1.heap.size 54 [.int .i64 x.number, .int .i64 x.missing, .int .i64 x.time] := Blk.at_ rfl
                have lb := box.lt
                generalize (wi1.alloc (.cells #[.int .i64 x.number, .int .i64 x.missing, .int .i64 x.time] 54)) = wi2 at *
                refine wpAnyH_ready (rs := [0]) (by kernel_rfl) (by simp) ?_
                refine AllReadyH.cons rfl (fun K hK => ?_) AllReadyH.nil
                go_simp
                have U3 : Below wi2.heap.size wi2 (wi2.alloc (.cells #[] 54)) := (Below.refl _ _).alloc (Nat.le_refl _) _
                have J3 := bel_then J2 U3
                refine hK.out _ _ (⟨(J3.cell (p := ⟨w.heap.size, 3, none⟩) hpb).trans pd, (J3.cell (p := ⟨bx, ox + i * 3, none⟩) hbx).trans x0, (J3.cell (p := ⟨bx, ox + i * 3 + 1, none⟩) hbx).trans x1, (J3.cell (p := ⟨bx, ox + i * 3 + 2, none⟩) hbx).trans x2⟩) (fun hHeld => ?_)
                clear hK K
                (try simp only [Act.put, List.setIfInBounds_toArray, List.set_cons_zero, List.set_cons_succ, List.getElem_toArray, List.getElem_cons_zero])
                replace box := box.next U3
                have own := own_base (own_empty wi2 54 3) (show wv.heap.size ≤ wi2.heap.size from J2.size)
                have hne : ∀ b, OwnB (some ⟨wi2.heap.size, 0, none⟩) b → b ≠ wi1.heap.size := fun b hb => by have h4 : wi2.heap.size = b := (by simpa [OwnB, Value.ownBlock] using hb); have h5 := lb; omega
                generalize (wi2.alloc (.cells #[] 54)) = wi3 at *
                have ownP := own
                refine wpAnyH_ready (rs := [4]) (by kernel_rfl) (by simp) ?_
                refine AllReadyH.cons rfl (fun K hK => ?_) AllReadyH.nil
                refine step_cat rfl _ _ _ (by rfl) Try.underlying30 info_impl_DeskRow rfl (by decide) (by rfl) own (by rfl) (m := k) (hpre.next J3) (row_all _) (by omega) (by omega) (by decide) (by have := J3.size; omega) ?_
                intro A4 c4 wi4 own4 o4 b4 q4
                have J4 := J3.trans b4
                refine hK.out _ _ (⟨(J4.cell (p := ⟨w.heap.size, 3, none⟩) hpb).trans pd, (J4.cell (p := ⟨bx, ox + i * 3, none⟩) hbx).trans x0, (J4.cell (p := ⟨bx, ox + i * 3 + 1, none⟩) hbx).trans x1, (J4.cell (p := ⟨bx, ox + i * 3 + 2, none⟩) hbx).trans x2⟩) (fun hHeld => ?_)
                clear hK K
                (try simp only [Act.put, List.setIfInBounds_toArray, List.set_cons_zero, List.set_cons_succ, List.getElem_toArray, List.getElem_cons_zero, List.getElem_cons_succ])
                (try simp only [Nat.zero_add])
                replace box := box.only o4 (fun h => hne _ h rfl)
                simp only [Nat.zero_add, List.nil_append] at own4
                replace own := own4
                clear own4
                replace ownP := own
                refine wpAnyH_ready (rs := [11]) (by kernel_rfl) (by simp) ?_
                refine AllReadyH.cons rfl (fun K hK => ?_) AllReadyH.nil
                refine step_cat rfl _ _ _ (by rfl) Try.underlying30 info_impl_DeskRow rfl (by decide) (by rfl) own (by rfl) (m := 1) (box.sees (s := 3) (Nat.zero_le _) rfl) (by simp [Value.oneCell']) (by omega) (by omega) (by decide) (by have := J4.size; omega) ?_
                intro A5 c5 wi5 own5 o5 b5 q5
                have J5 := J4.trans b5
                refine hK.out _ _ (⟨(J5.cell (p := ⟨w.heap.size, 3, none⟩) hpb).trans pd, (J5.cell (p := ⟨bx, ox + i * 3, none⟩) hbx).trans x0, (J5.cell (p := ⟨bx, ox + i * 3 + 1, none⟩) hbx).trans x1, (J5.cell (p := ⟨bx, ox + i * 3 + 2, none⟩) hbx).trans x2⟩) (fun hHeld => ?_)
                clear hK K
                (try simp only [Act.put, List.setIfInBounds_toArray, List.set_cons_zero, List.set_cons_succ, List.getElem_toArray, List.getElem_cons_zero, List.getElem_cons_succ])
                replace own := own5
                clear own5
                refine wpAnyH_ready (rs := [15]) (by kernel_rfl) (by simp) ?_
                refine AllReadyH.cons rfl (fun K hK => ?_) AllReadyH.nil
                refine step_cat rfl _ _ _ (by rfl) Try.underlying30 info_impl_DeskRow rfl (by decide) (by rfl) own (by rfl) (m := 0) (hsuf.next J5) (row_all _) (by omega) (by omega) (by decide) (by have := J5.size; omega) ?_
                intro A6 c6 wi6 own6 o6 b6 q6
                have J6 := J5.trans b6
                refine hK.out _ _ (⟨(J6.cell (p := ⟨w.heap.size, 3, none⟩) hpb).trans pd, (J6.cell (p := ⟨bx, ox + i * 3, none⟩) hbx).trans x0, (J6.cell (p := ⟨bx, ox + i * 3 + 1, none⟩) hbx).trans x1, (J6.cell (p := ⟨bx, ox + i * 3 + 2, none⟩) hbx).trans x2⟩) (fun hHeld => ?_)
                clear hK K
                (try simp only [Act.put, List.setIfInBounds_toArray, List.set_cons_zero, List.set_cons_succ, List.getElem_toArray, List.getElem_cons_zero, List.getElem_cons_succ])
                replace own := own6
                clear own6
                refine wpAnyH_take (i := 16) (v := ?_) rfl (by kernel_rfl) (by kernel_rfl) (by kernel_rfl) (fun _ _ _ h => h) (Or.inl ⟨by rfl, ?_⟩) (by assumption) ?_
                rotate_left 1
                · (intro w hSw; (try dsimp only at hSw); go_simp; try with_reducible rfl)
                (try simp only [Act.put, List.setIfInBounds_toArray, List.set_cons_zero, List.set_cons_succ, List.getElem_toArray, List.getElem_cons_zero, List.getElem_cons_succ])
                refine wpAnyH_done (by kernel_rfl) ?_ _
                go_wp2_with fail
                rw [show k + 1 + 0 = i + 1 by omega] at own
                obtain ⟨g4, cap4, hv4, -, -⟩ := own.form (Nat.succ_pos _)
                injection hv4 with hA4 _ _
                subst hA4
                go_roundw
                case rel => exact ⟨i + 1, g4, _, by omega, by go_num, by congr 1; omega, by rw [HIN.out, HR2.out]; exact own_base own OB.lt, PB.next J6, OB.next J6, bel_then K J6⟩
                case measure => simp [intOf]; omega
            · have hsuf := SeesFlat.drop (Sees.of_own own) (by decide) (fun _ => rfl) k hk
              have hk1 : k ≤ c' := by omega
              clear own
              go_wp2_with fail
              have J1 := (Quiet.one wv).below wv.heap.size
              refine wp_region_held_drew (S := fun w' => w'.cell? ⟨w.heap.size, 3, none⟩ = some (.slice (some ⟨bx, ox, none⟩) n3 c3) ∧ w'.cell? ⟨bx, ox + i * 3, none⟩ = some (.int .i64 x.number) ∧ w'.cell? ⟨bx, ox + i * 3 + 1, none⟩ = some (.int .i64 x.missing) ∧ w'.cell? ⟨bx, ox + i * 3 + 2, none⟩ = some (.int .i64 x.time)) (by kernel_rfl) (⟨(J1.cell (p := ⟨w.heap.size, 3, none⟩) hpb).trans pd, (J1.cell (p := ⟨bx, ox + i * 3, none⟩) hbx).trans x0, (J1.cell (p := ⟨bx, ox + i * 3 + 1, none⟩) hbx).trans x1, (J1.cell (p := ⟨bx, ox + i * 3 + 2, none⟩) hbx).trans x2⟩) (fun hHeld => ?_)
              generalize wv.drew = wi1 at *
              refine wpAnyH_take (i := 1) (v := ?_) rfl (by kernel_rfl) (by kernel_rfl) (by kernel_rfl) (fun _ _ _ h => h) (Or.inl ⟨by rfl, ?_⟩) (by assumption) ?_
              rotate_left 1
              · (intro w hSw; (try dsimp only at hSw); go_simp; try with_reducible rfl)
              (try simp only [Act.put, List.setIfInBounds_toArray, List.set_cons_zero, List.set_cons_succ, List.getElem_toArray, List.getElem_cons_zero, List.getElem_cons_succ])
              refine wpAnyH_take (i := 2) (v := ?_) rfl (by kernel_rfl) (by kernel_rfl) (by kernel_rfl) (fun _ _ _ h => h) (Or.inl ⟨by rfl, ?_⟩) (by assumption) ?_
              rotate_left 1
              · (intro w hSw; (try dsimp only at hSw); go_simp; try with_reducible rfl)
              (try simp only [Act.put, List.setIfInBounds_toArray, List.set_cons_zero, List.set_cons_succ, List.getElem_toArray, List.getElem_cons_zero, List.getElem_cons_succ])
              refine wpAnyH_take (i := 3) (v := ?_) rfl (by kernel_rfl) (by kernel_rfl) (by kernel_rfl) (fun _ _ _ h => h) (Or.inl ⟨by rfl, ?_⟩) (by assumption) ?_
              rotate_left 1
              · (intro w hSw; (try dsimp only at hSw); go_simp; try with_reducible rfl)
              (try simp only [Act.put, List.setIfInBounds_toArray, List.set_cons_zero, List.set_cons_succ, List.getElem_toArray, List.getElem_cons_zero, List.getElem_cons_succ])
              refine wpAnyH_take (i := 5) (v := ?_) rfl (by kernel_rfl) (by kernel_rfl) (by kernel_rfl) (fun _ _ _ h => h) (Or.inl ⟨by rfl, ?_⟩) (by assumption) ?_
              rotate_left 1
              · (intro w hSw; (try dsimp only at hSw); go_simp; try with_reducible rfl)
              (try simp only [Act.put, List.setIfInBounds_toArray, List.set_cons_zero, List.set_cons_succ, List.getElem_toArray, List.getElem_cons_zero, List.getElem_cons_succ])
              refine wpAnyH_take (i := 6) (v := ?_) rfl (by kernel_rfl) (by kernel_rfl) (by kernel_rfl) (fun _ _ _ h => h) (Or.inl ⟨by rfl, ?_⟩) (by assumption) ?_
              rotate_left 1
              · (intro w hSw; (try dsimp only at hSw); go_simp; try with_reducible rfl)
              (try simp only [Act.put, List.setIfInBounds_toArray, List.set_cons_zero, List.set_cons_succ, List.getElem_toArray, List.getElem_cons_zero, List.getElem_cons_succ])
              refine wpAnyH_take (i := 7) (v := ?_) rfl (by kernel_rfl) (by kernel_rfl) (by kernel_rfl) (fun _ _ _ h => h) (Or.inl ⟨by rfl, ?_⟩) (by assumption) ?_
              rotate_left 1
              · (intro w hSw; (try dsimp only at hSw); go_simp; try with_reducible rfl)
              (try simp only [Act.put, List.setIfInBounds_toArray, List.set_cons_zero, List.set_cons_succ, List.getElem_toArray, List.getElem_cons_zero, List.getElem_cons_succ])
              refine wpAnyH_take (i := 8) (v := ?_) rfl (by kernel_rfl) (by kernel_rfl) (by kernel_rfl) (fun _ _ _ h => h) (Or.inl ⟨by rfl, ?_⟩) (by assumption) ?_
              rotate_left 1
              · (intro w hSw; (try dsimp only at hSw); go_simp; try with_reducible rfl)
              (try simp only [Act.put, List.setIfInBounds_toArray, List.set_cons_zero, List.set_cons_succ, List.getElem_toArray, List.getElem_cons_zero, List.getElem_cons_succ])
              refine wpAnyH_take (i := 9) (v := ?_) rfl (by kernel_rfl) (by kernel_rfl) (by kernel_rfl) (fun _ _ _ h => h) (Or.inl ⟨by rfl, ?_⟩) (by assumption) ?_
              rotate_left 1
              · (intro w hSw; (try dsimp only at hSw); go_simp; try with_reducible rfl)
              (try simp only [Act.put, List.setIfInBounds_toArray, List.set_cons_zero, List.set_cons_succ, List.getElem_toArray, List.getElem_cons_zero, List.getElem_cons_succ])
              refine wpAnyH_take (i := 12) (v := ?_) rfl (by kernel_rfl) (by kernel_rfl) (by kernel_rfl) (fun _ _ _ h => h) (Or.inl ⟨by rfl, ?_⟩) (by assumption) ?_
              rotate_left 1
              · (intro w hSw; (try dsimp only at hSw); go_simp; try with_reducible rfl)
              (try simp only [Act.put, List.setIfInBounds_toArray, List.set_cons_zero, List.set_cons_succ, List.getElem_toArray, List.getElem_cons_zero, List.getElem_cons_succ])
              refine wpAnyH_take (i := 13) (v := ?_) rfl (by kernel_rfl) (by kernel_rfl) (by kernel_rfl) (fun _ _ _ h => h) (Or.inl ⟨by rfl, ?_⟩) (by assumption) ?_
              rotate_left 1
              · (intro w hSw; (try dsimp only at hSw); go_simp; try with_reducible rfl)
              (try simp only [Act.put, List.setIfInBounds_toArray, List.set_cons_zero, List.set_cons_succ, List.getElem_toArray, List.getElem_cons_zero, List.getElem_cons_succ])
              refine wpAnyH_take (i := 14) (v := ?_) rfl (by kernel_rfl) (by kernel_rfl) (by kernel_rfl) (fun _ _ _ h => h) (Or.inl ⟨by rfl, ?_⟩) (by assumption) ?_
              rotate_left 1
              · (intro w hSw; (try dsimp only at hSw); go_simp; try with_reducible rfl)
              (try simp only [Act.put, List.setIfInBounds_toArray, List.set_cons_zero, List.set_cons_succ, List.getElem_toArray, List.getElem_cons_zero, List.getElem_cons_succ])
              refine wpAnyH_ready (rs := [0, 10]) (by kernel_rfl) (by simp) ?_
              refine AllReadyH.cons rfl (fun K hK => ?_) ?_
              · go_simp
                have U2 : Below wi1.heap.size wi1 (wi1.alloc (.cells #[] 54)) := (Below.refl _ _).alloc (Nat.le_refl _) _
                have J2 := bel_then J1 U2
                refine hK.out _ _ (⟨(J2.cell (p := ⟨w.heap.size, 3, none⟩) hpb).trans pd, (J2.cell (p := ⟨bx, ox + i * 3, none⟩) hbx).trans x0, (J2.cell (p := ⟨bx, ox + i * 3 + 1, none⟩) hbx).trans x1, (J2.cell (p := ⟨bx, ox + i * 3 + 2, none⟩) hbx).trans x2⟩) (fun hHeld => ?_)
                clear hK K
                (try simp only [Act.put, List.setIfInBounds_toArray, List.set_cons_zero, List.set_cons_succ, List.getElem_toArray, List.getElem_cons_zero])
                have own := own_base (own_empty wi1 54 3) (show wv.heap.size ≤ wi1.heap.size from J1.size)
                generalize (wi1.alloc (.cells #[] 54)) = wi2 at *
                have ownP := own
                refine wpAnyH_ready (rs := [4, 10]) (by kernel_rfl) (by simp) ?_
                refine AllReadyH.cons rfl (fun K hK => ?_) ?_
                · refine step_cat rfl _ _ _ (by rfl) Try.underlying30 info_impl_DeskRow rfl (by decide) (by rfl) own (by rfl) (m := k) (hpre.next J2) (row_all _) (by omega) (by omega) (by decide) (by have := J2.size; omega) ?_
                  intro A3 c3 wi3 own3 o3 b3 q3
                  have J3 := J2.trans b3
                  refine hK.out _ _ (⟨(J3.cell (p := ⟨w.heap.size, 3, none⟩) hpb).trans pd, (J3.cell (p := ⟨bx, ox + i * 3, none⟩) hbx).trans x0, (J3.cell (p := ⟨bx, ox + i * 3 + 1, none⟩) hbx).trans x1, (J3.cell (p := ⟨bx, ox + i * 3 + 2, none⟩) hbx).trans x2⟩) (fun hHeld => ?_)
                  clear hK K
                  (try simp only [Act.put, List.setIfInBounds_toArray, List.set_cons_zero, List.set_cons_succ, List.getElem_toArray, List.getElem_cons_zero, List.getElem_cons_succ])
                  (try simp only [Nat.zero_add])
                  simp only [Nat.zero_add, List.nil_append] at own3
                  replace own := own3
                  clear own3
                  replace ownP := own
                  refine wpAnyH_ready (rs := [10]) (by kernel_rfl) (by simp) ?_
                  refine AllReadyH.cons rfl (fun K hK => ?_) AllReadyH.nil
                  go_simp
                  have U4 : Below wi3.heap.size wi3 (wi3.alloc (.cells #[.int .i64 x.number, .int .i64 x.missing, .int .i64 x.time] 54)) := (Below.refl _ _).alloc (Nat.le_refl _) _
                  have J4 := bel_then J3 U4
                  refine hK.out _ _ (⟨(J4.cell (p := ⟨w.heap.size, 3, none⟩) hpb).trans pd, (J4.cell (p := ⟨bx, ox + i * 3, none⟩) hbx).trans x0, (J4.cell (p := ⟨bx, ox + i * 3 + 1, none⟩) hbx).trans x1, (J4.cell (p := ⟨bx, ox + i * 3 + 2, none⟩) hbx).trans x2⟩) (fun hHeld => ?_)
                  clear hK K
                  (try simp only [Act.put, List.setIfInBounds_toArray, List.set_cons_zero, List.set_cons_succ, List.getElem_toArray, List.getElem_cons_zero, List.getElem_cons_succ])
                  replace own := own_below own U4
                  have box : Blk (wi3.alloc (.cells #[.int .i64 x.number, .int .i64 x.missing, .int .i64 x.time] 54)) wi3.heap.size 54 [.int .i64 x.number, .int .i64 x.missing, .int .i64 x.time] := Blk.at_ rfl
                  have lb := box.lt
                  have hne : ∀ b, OwnB A3 b → b ≠ wi3.heap.size := fun b hb => by have := (own_top ownP hb).2; omega
                  generalize (wi3.alloc (.cells #[.int .i64 x.number, .int .i64 x.missing, .int .i64 x.time] 54)) = wi4 at *
                  replace ownP := own
                  refine wpAnyH_ready (rs := [11]) (by kernel_rfl) (by simp) ?_
                  refine AllReadyH.cons rfl (fun K hK => ?_) AllReadyH.nil
                  refine step_cat rfl _ _ _ (by rfl) Try.underlying30 info_impl_DeskRow rfl (by decide) (by rfl) own (by rfl) (m := 1) (box.sees (s := 3) (Nat.zero_le _) rfl) (by simp [Value.oneCell']) (by omega) (by omega) (by decide) (by have := J4.size; omega) ?_
                  intro A5 c5 wi5 own5 o5 b5 q5
                  have J5 := J4.trans b5
                  refine hK.out _ _ (⟨(J5.cell (p := ⟨w.heap.size, 3, none⟩) hpb).trans pd, (J5.cell (p := ⟨bx, ox + i * 3, none⟩) hbx).trans x0, (J5.cell (p := ⟨bx, ox + i * 3 + 1, none⟩) hbx).trans x1, (J5.cell (p := ⟨bx, ox + i * 3 + 2, none⟩) hbx).trans x2⟩) (fun hHeld => ?_)
                  clear hK K
                  (try simp only [Act.put, List.setIfInBounds_toArray, List.set_cons_zero, List.set_cons_succ, List.getElem_toArray, List.getElem_cons_zero, List.getElem_cons_succ])
                  replace own := own5
                  clear own5
                  refine wpAnyH_ready (rs := [15]) (by kernel_rfl) (by simp) ?_
                  refine AllReadyH.cons rfl (fun K hK => ?_) AllReadyH.nil
                  refine step_cat rfl _ _ _ (by rfl) Try.underlying30 info_impl_DeskRow rfl (by decide) (by rfl) own (by rfl) (m := (i - k)) (hsuf.next J5) (row_all _) (by omega) (by omega) (by decide) (by have := J5.size; omega) ?_
                  intro A6 c6 wi6 own6 o6 b6 q6
                  have J6 := J5.trans b6
                  refine hK.out _ _ (⟨(J6.cell (p := ⟨w.heap.size, 3, none⟩) hpb).trans pd, (J6.cell (p := ⟨bx, ox + i * 3, none⟩) hbx).trans x0, (J6.cell (p := ⟨bx, ox + i * 3 + 1, none⟩) hbx).trans x1, (J6.cell (p := ⟨bx, ox + i * 3 + 2, none⟩) hbx).trans x2⟩) (fun hHeld => ?_)
                  clear hK K
                  (try simp only [Act.put, List.setIfInBounds_toArray, List.set_cons_zero, List.set_cons_succ, List.getElem_toArray, List.getElem_cons_zero, List.getElem_cons_succ])
                  replace own := own6
                  clear own6
                  refine wpAnyH_take (i := 16) (v := ?_) rfl (by kernel_rfl) (by kernel_rfl) (by kernel_rfl) (fun _ _ _ h => h) (Or.inl ⟨by rfl, ?_⟩) (by assumption) ?_
                  rotate_left 1
                  · (intro w hSw; (try dsimp only at hSw); go_simp; try with_reducible rfl)
                  (try simp only [Act.put, List.setIfInBounds_toArray, List.set_cons_zero, List.set_cons_succ, List.getElem_toArray, List.getElem_cons_zero, List.getElem_cons_succ])
                  refine wpAnyH_done (by kernel_rfl) ?_ _
                  go_wp2_with fail
                  rw [show k + 1 + (i - k) = i + 1 by omega] at own
                  obtain ⟨g4, cap4, hv4, -, -⟩ := own.form (Nat.succ_pos _)
                  injection hv4 with hA4 _ _
                  subst hA4
                  go_roundw
                  case rel => exact ⟨i + 1, g4, _, by omega, by go_num, by congr 1; omega, by rw [HIN.out, HR2.out]; exact own_base own OB.lt, PB.next J6, OB.next J6, bel_then K J6⟩
                  case measure => simp [intOf]; omega
                refine AllReadyH.cons rfl (fun K hK => ?_) AllReadyH.nil
                · go_simp
                  have U3 : Below wi2.heap.size wi2 (wi2.alloc (.cells #[.int .i64 x.number, .int .i64 x.missing, .int .i64 x.time] 54)) := (Below.refl _ _).alloc (Nat.le_refl _) _
                  have J3 := bel_then J2 U3
                  refine hK.out _ _ (⟨(J3.cell (p := ⟨w.heap.size, 3, none⟩) hpb).trans pd, (J3.cell (p := ⟨bx, ox + i * 3, none⟩) hbx).trans x0, (J3.cell (p := ⟨bx, ox + i * 3 + 1, none⟩) hbx).trans x1, (J3.cell (p := ⟨bx, ox + i * 3 + 2, none⟩) hbx).trans x2⟩) (fun hHeld => ?_)
                  clear hK K
                  (try simp only [Act.put, List.setIfInBounds_toArray, List.set_cons_zero, List.set_cons_succ, List.getElem_toArray, List.getElem_cons_zero, List.getElem_cons_succ])
                  replace own := own_below own U3
                  have box : Blk (wi2.alloc (.cells #[.int .i64 x.number, .int .i64 x.missing, .int .i64 x.time] 54)) wi2.heap.size 54 [.int .i64 x.number, .int .i64 x.missing, .int .i64 x.time] := Blk.at_ rfl
                  have lb := box.lt
                  have hne : ∀ b, OwnB (some ⟨wi1.heap.size, 0, none⟩) b → b ≠ wi2.heap.size := fun b hb => by have := (own_top ownP hb).2; omega
                  generalize (wi2.alloc (.cells #[.int .i64 x.number, .int .i64 x.missing, .int .i64 x.time] 54)) = wi3 at *
                  replace ownP := own
                  refine wpAnyH_ready (rs := [4]) (by kernel_rfl) (by simp) ?_
                  refine AllReadyH.cons rfl (fun K hK => ?_) AllReadyH.nil
                  refine step_cat rfl _ _ _ (by rfl) Try.underlying30 info_impl_DeskRow rfl (by decide) (by rfl) own (by rfl) (m := k) (hpre.next J3) (row_all _) (by omega) (by omega) (by decide) (by have := J3.size; omega) ?_
                  intro A4 c4 wi4 own4 o4 b4 q4
                  have J4 := J3.trans b4
                  refine hK.out _ _ (⟨(J4.cell (p := ⟨w.heap.size, 3, none⟩) hpb).trans pd, (J4.cell (p := ⟨bx, ox + i * 3, none⟩) hbx).trans x0, (J4.cell (p := ⟨bx, ox + i * 3 + 1, none⟩) hbx).trans x1, (J4.cell (p := ⟨bx, ox + i * 3 + 2, none⟩) hbx).trans x2⟩) (fun hHeld => ?_)
                  clear hK K
                  (try simp only [Act.put, List.setIfInBounds_toArray, List.set_cons_zero, List.set_cons_succ, List.getElem_toArray, List.getElem_cons_zero, List.getElem_cons_succ])
                  (try simp only [Nat.zero_add])
                  replace box := box.only o4 (fun h => hne _ h rfl)
                  simp only [Nat.zero_add, List.nil_append] at own4
                  replace own := own4
                  clear own4
                  replace ownP := own
                  refine wpAnyH_ready (rs := [11]) (by kernel_rfl) (by simp) ?_
                  refine AllReadyH.cons rfl (fun K hK => ?_) AllReadyH.nil
                  refine step_cat rfl _ _ _ (by rfl) Try.underlying30 info_impl_DeskRow rfl (by decide) (by rfl) own (by rfl) (m := 1) (box.sees (s := 3) (Nat.zero_le _) rfl) (by simp [Value.oneCell']) (by omega) (by omega) (by decide) (by have := J4.size; omega) ?_
                  intro A5 c5 wi5 own5 o5 b5 q5
                  have J5 := J4.trans b5
                  refine hK.out _ _ (⟨(J5.cell (p := ⟨w.heap.size, 3, none⟩) hpb).trans pd, (J5.cell (p := ⟨bx, ox + i * 3, none⟩) hbx).trans x0, (J5.cell (p := ⟨bx, ox + i * 3 + 1, none⟩) hbx).trans x1, (J5.cell (p := ⟨bx, ox + i * 3 + 2, none⟩) hbx).trans x2⟩) (fun hHeld => ?_)
                  clear hK K
                  (try simp only [Act.put, List.setIfInBounds_toArray, List.set_cons_zero, List.set_cons_succ, List.getElem_toArray, List.getElem_cons_zero, List.getElem_cons_succ])
                  replace own := own5
                  clear own5
                  refine wpAnyH_ready (rs := [15]) (by kernel_rfl) (by simp) ?_
                  refine AllReadyH.cons rfl (fun K hK => ?_) AllReadyH.nil
                  refine step_cat rfl _ _ _ (by rfl) Try.underlying30 info_impl_DeskRow rfl (by decide) (by rfl) own (by rfl) (m := (i - k)) (hsuf.next J5) (row_all _) (by omega) (by omega) (by decide) (by have := J5.size; omega) ?_
                  intro A6 c6 wi6 own6 o6 b6 q6
                  have J6 := J5.trans b6
                  refine hK.out _ _ (⟨(J6.cell (p := ⟨w.heap.size, 3, none⟩) hpb).trans pd, (J6.cell (p := ⟨bx, ox + i * 3, none⟩) hbx).trans x0, (J6.cell (p := ⟨bx, ox + i * 3 + 1, none⟩) hbx).trans x1, (J6.cell (p := ⟨bx, ox + i * 3 + 2, none⟩) hbx).trans x2⟩) (fun hHeld => ?_)
                  clear hK K
                  (try simp only [Act.put, List.setIfInBounds_toArray, List.set_cons_zero, List.set_cons_succ, List.getElem_toArray, List.getElem_cons_zero, List.getElem_cons_succ])
                  replace own := own6
                  clear own6
                  refine wpAnyH_take (i := 16) (v := ?_) rfl (by kernel_rfl) (by kernel_rfl) (by kernel_rfl) (fun _ _ _ h => h) (Or.inl ⟨by rfl, ?_⟩) (by assumption) ?_
                  rotate_left 1
                  · (intro w hSw; (try dsimp only at hSw); go_simp; try with_reducible rfl)
                  (try simp only [Act.put, List.setIfInBounds_toArray, List.set_cons_zero, List.set_cons_succ, List.getElem_toArray, List.getElem_cons_zero, List.getElem_cons_succ])
                  refine wpAnyH_done (by kernel_rfl) ?_ _
                  go_wp2_with fail
                  rw [show k + 1 + (i - k) = i + 1 by omega] at own
                  obtain ⟨g4, cap4, hv4, -, -⟩ := own.form (Nat.succ_pos _)
                  injection hv4 with hA4 _ _
                  subst hA4
                  go_roundw
                  case rel => exact ⟨i + 1, g4, _, by omega, by go_num, by congr 1; omega, by rw [HIN.out, HR2.out]; exact own_base own OB.lt, PB.next J6, OB.next J6, bel_then K J6⟩
                  case measure => simp [intOf]; omega
              refine AllReadyH.cons rfl (fun K hK => ?_) AllReadyH.nil
              · go_simp
                have U2 : Below wi1.heap.size wi1 (wi1.alloc (.cells #[.int .i64 x.number, .int .i64 x.missing, .int .i64 x.time] 54)) := (Below.refl _ _).alloc (Nat.le_refl _) _
                have J2 := bel_then J1 U2
                refine hK.out _ _ (⟨(J2.cell (p := ⟨w.heap.size, 3, none⟩) hpb).trans pd, (J2.cell (p := ⟨bx, ox + i * 3, none⟩) hbx).trans x0, (J2.cell (p := ⟨bx, ox + i * 3 + 1, none⟩) hbx).trans x1, (J2.cell (p := ⟨bx, ox + i * 3 + 2, none⟩) hbx).trans x2⟩) (fun hHeld => ?_)
                clear hK K
                (try simp only [Act.put, List.setIfInBounds_toArray, List.set_cons_zero, List.set_cons_succ, List.getElem_toArray, List.getElem_cons_zero, List.getElem_cons_succ])
                have box : Blk (wi1.alloc (.cells #[.int .i64 x.number, .int .i64 x.missing, .int .i64 x.time] 54)) wi1.heap.size 54 [.int .i64 x.number, .int .i64 x.missing, .int .i64 x.time] := Blk.at_ rfl
                have lb := box.lt
                generalize (wi1.alloc (.cells #[.int .i64 x.number, .int .i64 x.missing, .int .i64 x.time] 54)) = wi2 at *
                refine wpAnyH_ready (rs := [0]) (by kernel_rfl) (by simp) ?_
                refine AllReadyH.cons rfl (fun K hK => ?_) AllReadyH.nil
                go_simp
                have U3 : Below wi2.heap.size wi2 (wi2.alloc (.cells #[] 54)) := (Below.refl _ _).alloc (Nat.le_refl _) _
                have J3 := bel_then J2 U3
                refine hK.out _ _ (⟨(J3.cell (p := ⟨w.heap.size, 3, none⟩) hpb).trans pd, (J3.cell (p := ⟨bx, ox + i * 3, none⟩) hbx).trans x0, (J3.cell (p := ⟨bx, ox + i * 3 + 1, none⟩) hbx).trans x1, (J3.cell (p := ⟨bx, ox + i * 3 + 2, none⟩) hbx).trans x2⟩) (fun hHeld => ?_)
                clear hK K
                (try simp only [Act.put, List.setIfInBounds_toArray, List.set_cons_zero, List.set_cons_succ, List.getElem_toArray, List.getElem_cons_zero])
                replace box := box.next U3
                have own := own_base (own_empty wi2 54 3) (show wv.heap.size ≤ wi2.heap.size from J2.size)
                have hne : ∀ b, OwnB (some ⟨wi2.heap.size, 0, none⟩) b → b ≠ wi1.heap.size := fun b hb => by have h4 : wi2.heap.size = b := (by simpa [OwnB, Value.ownBlock] using hb); have h5 := lb; omega
                generalize (wi2.alloc (.cells #[] 54)) = wi3 at *
                have ownP := own
                refine wpAnyH_ready (rs := [4]) (by kernel_rfl) (by simp) ?_
                refine AllReadyH.cons rfl (fun K hK => ?_) AllReadyH.nil
                refine step_cat rfl _ _ _ (by rfl) Try.underlying30 info_impl_DeskRow rfl (by decide) (by rfl) own (by rfl) (m := k) (hpre.next J3) (row_all _) (by omega) (by omega) (by decide) (by have := J3.size; omega) ?_
                intro A4 c4 wi4 own4 o4 b4 q4
                have J4 := J3.trans b4
                refine hK.out _ _ (⟨(J4.cell (p := ⟨w.heap.size, 3, none⟩) hpb).trans pd, (J4.cell (p := ⟨bx, ox + i * 3, none⟩) hbx).trans x0, (J4.cell (p := ⟨bx, ox + i * 3 + 1, none⟩) hbx).trans x1, (J4.cell (p := ⟨bx, ox + i * 3 + 2, none⟩) hbx).trans x2⟩) (fun hHeld => ?_)
                clear hK K
                (try simp only [Act.put, List.setIfInBounds_toArray, List.set_cons_zero, List.set_cons_succ, List.getElem_toArray, List.getElem_cons_zero, List.getElem_cons_succ])
                (try simp only [Nat.zero_add])
                replace box := box.only o4 (fun h => hne _ h rfl)
                simp only [Nat.zero_add, List.nil_append] at own4
                replace own := own4
                clear own4
                replace ownP := own
                refine wpAnyH_ready (rs := [11]) (by kernel_rfl) (by simp) ?_
                refine AllReadyH.cons rfl (fun K hK => ?_) AllReadyH.nil
                refine step_cat rfl _ _ _ (by rfl) Try.underlying30 info_impl_DeskRow rfl (by decide) (by rfl) own (by rfl) (m := 1) (box.sees (s := 3) (Nat.zero_le _) rfl) (by simp [Value.oneCell']) (by omega) (by omega) (by decide) (by have := J4.size; omega) ?_
                intro A5 c5 wi5 own5 o5 b5 q5
                have J5 := J4.trans b5
                refine hK.out _ _ (⟨(J5.cell (p := ⟨w.heap.size, 3, none⟩) hpb).trans pd, (J5.cell (p := ⟨bx, ox + i * 3, none⟩) hbx).trans x0, (J5.cell (p := ⟨bx, ox + i * 3 + 1, none⟩) hbx).trans x1, (J5.cell (p := ⟨bx, ox + i * 3 + 2, none⟩) hbx).trans x2⟩) (fun hHeld => ?_)
                clear hK K
                (try simp only [Act.put, List.setIfInBounds_toArray, List.set_cons_zero, List.set_cons_succ, List.getElem_toArray, List.getElem_cons_zero, List.getElem_cons_succ])
                replace own := own5
                clear own5
                refine wpAnyH_ready (rs := [15]) (by kernel_rfl) (by simp) ?_
                refine AllReadyH.cons rfl (fun K hK => ?_) AllReadyH.nil
                refine step_cat rfl _ _ _ (by rfl) Try.underlying30 info_impl_DeskRow rfl (by decide) (by rfl) own (by rfl) (m := (i - k)) (hsuf.next J5) (row_all _) (by omega) (by omega) (by decide) (by have := J5.size; omega) ?_
                intro A6 c6 wi6 own6 o6 b6 q6
                have J6 := J5.trans b6
                refine hK.out _ _ (⟨(J6.cell (p := ⟨w.heap.size, 3, none⟩) hpb).trans pd, (J6.cell (p := ⟨bx, ox + i * 3, none⟩) hbx).trans x0, (J6.cell (p := ⟨bx, ox + i * 3 + 1, none⟩) hbx).trans x1, (J6.cell (p := ⟨bx, ox + i * 3 + 2, none⟩) hbx).trans x2⟩) (fun hHeld => ?_)
                clear hK K
                (try simp only [Act.put, List.setIfInBounds_toArray, List.set_cons_zero, List.set_cons_succ, List.getElem_toArray, List.getElem_cons_zero, List.getElem_cons_succ])
                replace own := own6
                clear own6
                refine wpAnyH_take (i := 16) (v := ?_) rfl (by kernel_rfl) (by kernel_rfl) (by kernel_rfl) (fun _ _ _ h => h) (Or.inl ⟨by rfl, ?_⟩) (by assumption) ?_
                rotate_left 1
                · (intro w hSw; (try dsimp only at hSw); go_simp; try with_reducible rfl)
                (try simp only [Act.put, List.setIfInBounds_toArray, List.set_cons_zero, List.set_cons_succ, List.getElem_toArray, List.getElem_cons_zero, List.getElem_cons_succ])
                refine wpAnyH_done (by kernel_rfl) ?_ _
                go_wp2_with fail
                rw [show k + 1 + (i - k) = i + 1 by omega] at own
                obtain ⟨g4, cap4, hv4, -, -⟩ := own.form (Nat.succ_pos _)
                injection hv4 with hA4 _ _
                subst hA4
                go_roundw
                case rel => exact ⟨i + 1, g4, _, by omega, by go_num, by congr 1; omega, by rw [HIN.out, HR2.out]; exact own_base own OB.lt, PB.next J6, OB.next J6, bel_then K J6⟩
                case measure => simp [intOf]; omega
          · obtain ⟨q, hkq⟩ : ∃ q, k = q + 1 := ⟨k - 1, by omega⟩
            have hq : q < ys.length := by rw [HYL.out]; omega
            have HPT := Lib.hid (fun (h : lessR x ys[q] = true) => show posR lessR ys x ys.length = posR lessR ys x q by rw [HP.out, hkq, posR_yes lessR hq h])
            have HPF := Lib.hid (fun (h : lessR x ys[q] = false) => show posR lessR ys x ys.length = k by rw [HP.out, hkq, posR_no lessR hq h])
            have hw1 : IntKind.i64.wrap ((k : Int) - 1) = (q : Int) := by rw [IntWalk.i64_in _ (by omega)]; omega
            have hgt : decide ((0 : Int) < (k : Int)) = true := decide_eq_true (by omega)
            have hi2 : (0 : Int) ≤ (q : Int) := by omega
            have hi3 : (q : Int) < (i : Int) := by omega
            have bq := (Quiet.one wr).below wr.heap.size
            replace own := own_below own bq
            replace K := bel_then K bq
            replace PB := PB.next bq
            replace OB := OB.next bq
            replace pd := (bq.cell (p := ⟨w.heap.size, 3, none⟩) hpb).trans pd
            replace x0 := (bq.cell (p := ⟨bx, ox + i * 3, none⟩) hbx).trans x0
            replace x1 := (bq.cell (p := ⟨bx, ox + i * 3 + 1, none⟩) hbx).trans x1
            replace x2 := (bq.cell (p := ⟨bx, ox + i * 3 + 2, none⟩) hbx).trans x2
            replace hbx := Nat.lt_of_lt_of_le hbx bq.size
            replace hpb := Nat.lt_of_lt_of_le hpb bq.size
            replace HHB := Lib.hid (bel_then HHB.out bq)
            obtain ⟨by_, oy, ey, hky, y0, y1, y2⟩ := (Sees.of_own own).elem3 (fun _ => rfl) (show q < i by omega)
            injection ey with ey
            injection ey with e1 e2
            subst e1 e2
            simp only [Nat.zero_add] at y0 y1 y2
            obtain ⟨y, hy⟩ : ∃ y, ys[q] = y := ⟨_, rfl⟩
            rw [show ys[q] = y from hy] at y0 y1 y2
            rw [hy] at HPT HPF
            have HKQ := Lib.hid hkq
            have HY := Lib.hid hy
            clear bq HP hy hkq
            have hgl := hgb
            go_wp2_with fail
            go_region_held3 (fun w' => w'.cell? ⟨w.heap.size, 3, none⟩ = some (.slice (some ⟨bx, ox, none⟩) n3 c3) ∧ w'.cell? ⟨bx, ox + i * 3, none⟩ = some (.int .i64 x.number) ∧ w'.cell? ⟨bx, ox + i * 3 + 1, none⟩ = some (.int .i64 x.missing) ∧ w'.cell? ⟨bx, ox + i * 3 + 2, none⟩ = some (.int .i64 x.time) ∧ w'.cell? ⟨g, q * 3, none⟩ = some (.int .i64 y.number) ∧ w'.cell? ⟨g, q * 3 + 1, none⟩ = some (.int .i64 y.missing) ∧ w'.cell? ⟨g, q * 3 + 2, none⟩ = some (.int .i64 y.time)) (go_keep)
              (first
                | (go_at_call 62
                   refine (l25Before_any x y _).mono ?_
                   rintro e wv ⟨rfl, b3⟩
                   replace own := own_below own b3
                   replace K := bel_then K b3
                   replace PB := PB.next b3
                   replace OB := OB.next b3
                   replace pd := (b3.cell (p := ⟨w.heap.size, 3, none⟩) hpb).trans pd
                   replace x0 := (b3.cell (p := ⟨bx, ox + i * 3, none⟩) hbx).trans x0
                   replace x1 := (b3.cell (p := ⟨bx, ox + i * 3 + 1, none⟩) hbx).trans x1
                   replace x2 := (b3.cell (p := ⟨bx, ox + i * 3 + 2, none⟩) hbx).trans x2
                   replace hbx := Nat.lt_of_lt_of_le hbx b3.size
                   replace hpb := Nat.lt_of_lt_of_le hpb b3.size
                   replace HHB := Lib.hid (bel_then HHB.out b3)
                   clear y0 y1 y2
                   obtain ⟨by_, oy, ey, hky, y0, y1, y2⟩ := (Sees.of_own own).elem3 (fun _ => rfl) (show q < i by omega)
                   injection ey with ey
                   injection ey with e1 e2
                   subst e1 e2
                   simp only [Nat.zero_add] at y0 y1 y2
                   rw [show ys[q] = y from HY.out] at y0 y1 y2
                   clear b3))
            cases hlt2 : lessR x y
            · have HPE := Lib.hid (HPF.out hlt2)
              clear HPT HPF y0 y1 y2 hw1 hgt hi2 hi3 hlt2
              have hk1' : k ≤ i := hk
              clear HY HKQ
              go_wp2_with fail
              have HR2 := Lib.hid (show (insR lessR ys x).flatMap DeskRow.enc = (ys.take k).flatMap DeskRow.enc ++ [.int .i64 x.number, .int .i64 x.missing, .int .i64 x.time] ++ (ys.drop k).flatMap DeskRow.enc by
                rw [insR_at lessR HPE.out, List.flatMap_append, List.flatMap_cons, List.append_assoc]; rfl)
              have hpre := SeesFlat.take (Sees.of_own own) (by decide) (fun _ => rfl) k hk
              by_cases hck : c' = k
              · have hsuf : Sees wv 0 3 (some ⟨g, 0, none⟩) 0 ((ys.drop k).flatMap DeskRow.enc) := by
                  rw [List.drop_of_length_le (by rw [HYL.out]; omega)]; exact Sees.nil _ _ _ _
                have hkc : k = c' := hck.symm
                subst hkc
                clear own
                go_wp2_with fail
                have J1 := (Quiet.one wv).below wv.heap.size
                refine wp_region_held_drew (S := fun w' => w'.cell? ⟨w.heap.size, 3, none⟩ = some (.slice (some ⟨bx, ox, none⟩) n3 c3) ∧ w'.cell? ⟨bx, ox + i * 3, none⟩ = some (.int .i64 x.number) ∧ w'.cell? ⟨bx, ox + i * 3 + 1, none⟩ = some (.int .i64 x.missing) ∧ w'.cell? ⟨bx, ox + i * 3 + 2, none⟩ = some (.int .i64 x.time)) (by kernel_rfl) (⟨(J1.cell (p := ⟨w.heap.size, 3, none⟩) hpb).trans pd, (J1.cell (p := ⟨bx, ox + i * 3, none⟩) hbx).trans x0, (J1.cell (p := ⟨bx, ox + i * 3 + 1, none⟩) hbx).trans x1, (J1.cell (p := ⟨bx, ox + i * 3 + 2, none⟩) hbx).trans x2⟩) (fun hHeld => ?_)
                generalize wv.drew = wi1 at *
                refine wpAnyH_take (i := 1) (v := ?_) rfl (by kernel_rfl) (by kernel_rfl) (by kernel_rfl) (fun _ _ _ h => h) (Or.inl ⟨by rfl, ?_⟩) (by assumption) ?_
                rotate_left 1
                · (intro w hSw; (try dsimp only at hSw); go_simp; try with_reducible rfl)
                (try simp only [Act.put, List.setIfInBounds_toArray, List.set_cons_zero, List.set_cons_succ, List.getElem_toArray, List.getElem_cons_zero, List.getElem_cons_succ])
                refine wpAnyH_take (i := 2) (v := ?_) rfl (by kernel_rfl) (by kernel_rfl) (by kernel_rfl) (fun _ _ _ h => h) (Or.inl ⟨by rfl, ?_⟩) (by assumption) ?_
                rotate_left 1
                · (intro w hSw; (try dsimp only at hSw); go_simp; try with_reducible rfl)
                (try simp only [Act.put, List.setIfInBounds_toArray, List.set_cons_zero, List.set_cons_succ, List.getElem_toArray, List.getElem_cons_zero, List.getElem_cons_succ])
                refine wpAnyH_take (i := 3) (v := ?_) rfl (by kernel_rfl) (by kernel_rfl) (by kernel_rfl) (fun _ _ _ h => h) (Or.inl ⟨by rfl, ?_⟩) (by assumption) ?_
                rotate_left 1
                · (intro w hSw; (try dsimp only at hSw); go_simp; try with_reducible rfl)
                (try simp only [Act.put, List.setIfInBounds_toArray, List.set_cons_zero, List.set_cons_succ, List.getElem_toArray, List.getElem_cons_zero, List.getElem_cons_succ])
                refine wpAnyH_take (i := 5) (v := ?_) rfl (by kernel_rfl) (by kernel_rfl) (by kernel_rfl) (fun _ _ _ h => h) (Or.inl ⟨by rfl, ?_⟩) (by assumption) ?_
                rotate_left 1
                · (intro w hSw; (try dsimp only at hSw); go_simp; try with_reducible rfl)
                (try simp only [Act.put, List.setIfInBounds_toArray, List.set_cons_zero, List.set_cons_succ, List.getElem_toArray, List.getElem_cons_zero, List.getElem_cons_succ])
                refine wpAnyH_take (i := 6) (v := ?_) rfl (by kernel_rfl) (by kernel_rfl) (by kernel_rfl) (fun _ _ _ h => h) (Or.inl ⟨by rfl, ?_⟩) (by assumption) ?_
                rotate_left 1
                · (intro w hSw; (try dsimp only at hSw); go_simp; try with_reducible rfl)
                (try simp only [Act.put, List.setIfInBounds_toArray, List.set_cons_zero, List.set_cons_succ, List.getElem_toArray, List.getElem_cons_zero, List.getElem_cons_succ])
                refine wpAnyH_take (i := 7) (v := ?_) rfl (by kernel_rfl) (by kernel_rfl) (by kernel_rfl) (fun _ _ _ h => h) (Or.inl ⟨by rfl, ?_⟩) (by assumption) ?_
                rotate_left 1
                · (intro w hSw; (try dsimp only at hSw); go_simp; try with_reducible rfl)
                (try simp only [Act.put, List.setIfInBounds_toArray, List.set_cons_zero, List.set_cons_succ, List.getElem_toArray, List.getElem_cons_zero, List.getElem_cons_succ])
                refine wpAnyH_take (i := 8) (v := ?_) rfl (by kernel_rfl) (by kernel_rfl) (by kernel_rfl) (fun _ _ _ h => h) (Or.inl ⟨by rfl, ?_⟩) (by assumption) ?_
                rotate_left 1
                · (intro w hSw; (try dsimp only at hSw); go_simp; try with_reducible rfl)
                (try simp only [Act.put, List.setIfInBounds_toArray, List.set_cons_zero, List.set_cons_succ, List.getElem_toArray, List.getElem_cons_zero, List.getElem_cons_succ])
                refine wpAnyH_take (i := 9) (v := ?_) rfl (by kernel_rfl) (by kernel_rfl) (by kernel_rfl) (fun _ _ _ h => h) (Or.inl ⟨by rfl, ?_⟩) (by assumption) ?_
                rotate_left 1
                · (intro w hSw; (try dsimp only at hSw); go_simp; try with_reducible rfl)
                (try simp only [Act.put, List.setIfInBounds_toArray, List.set_cons_zero, List.set_cons_succ, List.getElem_toArray, List.getElem_cons_zero, List.getElem_cons_succ])
                refine wpAnyH_take (i := 12) (v := ?_) rfl (by kernel_rfl) (by kernel_rfl) (by kernel_rfl) (fun _ _ _ h => h) (Or.inl ⟨by rfl, ?_⟩) (by assumption) ?_
                rotate_left 1
                · (intro w hSw; (try dsimp only at hSw); go_simp; try with_reducible rfl)
                (try simp only [Act.put, List.setIfInBounds_toArray, List.set_cons_zero, List.set_cons_succ, List.getElem_toArray, List.getElem_cons_zero, List.getElem_cons_succ])
                refine wpAnyH_take (i := 13) (v := ?_) rfl (by kernel_rfl) (by kernel_rfl) (by kernel_rfl) (fun _ _ _ h => h) (Or.inl ⟨by rfl, ?_⟩) (by assumption) ?_
                rotate_left 1
                · (intro w hSw; (try dsimp only at hSw); go_simp; try with_reducible rfl)
                (try simp only [Act.put, List.setIfInBounds_toArray, List.set_cons_zero, List.set_cons_succ, List.getElem_toArray, List.getElem_cons_zero, List.getElem_cons_succ])
                refine wpAnyH_take (i := 14) (v := ?_) rfl (by kernel_rfl) (by kernel_rfl) (by kernel_rfl) (fun _ _ _ h => h) (Or.inl ⟨by rfl, ?_⟩) (by assumption) ?_
                rotate_left 1
                · (intro w hSw; (try dsimp only at hSw); go_simp; try with_reducible rfl)
                (try simp only [Act.put, List.setIfInBounds_toArray, List.set_cons_zero, List.set_cons_succ, List.getElem_toArray, List.getElem_cons_zero, List.getElem_cons_succ])
                refine wpAnyH_ready (rs := [0, 10]) (by kernel_rfl) (by simp) ?_
                refine AllReadyH.cons rfl (fun K hK => ?_) ?_
                · go_simp
                  have U2 : Below wi1.heap.size wi1 (wi1.alloc (.cells #[] 54)) := (Below.refl _ _).alloc (Nat.le_refl _) _
                  have J2 := bel_then J1 U2
                  refine hK.out _ _ (⟨(J2.cell (p := ⟨w.heap.size, 3, none⟩) hpb).trans pd, (J2.cell (p := ⟨bx, ox + i * 3, none⟩) hbx).trans x0, (J2.cell (p := ⟨bx, ox + i * 3 + 1, none⟩) hbx).trans x1, (J2.cell (p := ⟨bx, ox + i * 3 + 2, none⟩) hbx).trans x2⟩) (fun hHeld => ?_)
                  clear hK K
                  (try simp only [Act.put, List.setIfInBounds_toArray, List.set_cons_zero, List.set_cons_succ, List.getElem_toArray, List.getElem_cons_zero])
                  have own := own_base (own_empty wi1 54 3) (show wv.heap.size ≤ wi1.heap.size from J1.size)
                  generalize (wi1.alloc (.cells #[] 54)) = wi2 at *
                  have ownP := own
                  refine wpAnyH_ready (rs := [4, 10]) (by kernel_rfl) (by simp) ?_
                  refine AllReadyH.cons rfl (fun K hK => ?_) ?_
                  · refine step_cat rfl _ _ _ (by rfl) Try.underlying30 info_impl_DeskRow rfl (by decide) (by rfl) own (by rfl) (m := k) (hpre.next J2) (row_all _) (by omega) (by omega) (by decide) (by have := J2.size; omega) ?_
                    intro A3 c3 wi3 own3 o3 b3 q3
                    have J3 := J2.trans b3
                    refine hK.out _ _ (⟨(J3.cell (p := ⟨w.heap.size, 3, none⟩) hpb).trans pd, (J3.cell (p := ⟨bx, ox + i * 3, none⟩) hbx).trans x0, (J3.cell (p := ⟨bx, ox + i * 3 + 1, none⟩) hbx).trans x1, (J3.cell (p := ⟨bx, ox + i * 3 + 2, none⟩) hbx).trans x2⟩) (fun hHeld => ?_)
                    clear hK K
                    (try simp only [Act.put, List.setIfInBounds_toArray, List.set_cons_zero, List.set_cons_succ, List.getElem_toArray, List.getElem_cons_zero, List.getElem_cons_succ])
                    (try simp only [Nat.zero_add])
                    simp only [Nat.zero_add, List.nil_append] at own3
                    replace own := own3
                    clear own3
                    replace ownP := own
                    refine wpAnyH_ready (rs := [10]) (by kernel_rfl) (by simp) ?_
                    refine AllReadyH.cons rfl (fun K hK => ?_) AllReadyH.nil
                    go_simp
                    have U4 : Below wi3.heap.size wi3 (wi3.alloc (.cells #[.int .i64 x.number, .int .i64 x.missing, .int .i64 x.time] 54)) := (Below.refl _ _).alloc (Nat.le_refl _) _
                    have J4 := bel_then J3 U4
                    refine hK.out _ _ (⟨(J4.cell (p := ⟨w.heap.size, 3, none⟩) hpb).trans pd, (J4.cell (p := ⟨bx, ox + i * 3, none⟩) hbx).trans x0, (J4.cell (p := ⟨bx, ox + i * 3 + 1, none⟩) hbx).trans x1, (J4.cell (p := ⟨bx, ox + i * 3 + 2, none⟩) hbx).trans x2⟩) (fun hHeld => ?_)
                    clear hK K
                    (try simp only [Act.put, List.setIfInBounds_toArray, List.set_cons_zero, List.set_cons_succ, List.getElem_toArray, List.getElem_cons_zero, List.getElem_cons_succ])
                    replace own := own_below own U4
                    have box : Blk (wi3.alloc (.cells #[.int .i64 x.number, .int .i64 x.missing, .int .i64 x.time] 54)) wi3.heap.size 54 [.int .i64 x.number, .int .i64 x.missing, .int .i64 x.time] := Blk.at_ rfl
                    have lb := box.lt
                    have hne : ∀ b, OwnB A3 b → b ≠ wi3.heap.size := fun b hb => by have := (own_top ownP hb).2; omega
                    generalize (wi3.alloc (.cells #[.int .i64 x.number, .int .i64 x.missing, .int .i64 x.time] 54)) = wi4 at *
                    replace ownP := own
                    refine wpAnyH_ready (rs := [11]) (by kernel_rfl) (by simp) ?_
                    refine AllReadyH.cons rfl (fun K hK => ?_) AllReadyH.nil
                    refine step_cat rfl _ _ _ (by rfl) Try.underlying30 info_impl_DeskRow rfl (by decide) (by rfl) own (by rfl) (m := 1) (box.sees (s := 3) (Nat.zero_le _) rfl) (by simp [Value.oneCell']) (by omega) (by omega) (by decide) (by have := J4.size; omega) ?_
                    intro A5 c5 wi5 own5 o5 b5 q5
                    have J5 := J4.trans b5
                    refine hK.out _ _ (⟨(J5.cell (p := ⟨w.heap.size, 3, none⟩) hpb).trans pd, (J5.cell (p := ⟨bx, ox + i * 3, none⟩) hbx).trans x0, (J5.cell (p := ⟨bx, ox + i * 3 + 1, none⟩) hbx).trans x1, (J5.cell (p := ⟨bx, ox + i * 3 + 2, none⟩) hbx).trans x2⟩) (fun hHeld => ?_)
                    clear hK K
                    (try simp only [Act.put, List.setIfInBounds_toArray, List.set_cons_zero, List.set_cons_succ, List.getElem_toArray, List.getElem_cons_zero, List.getElem_cons_succ])
                    replace own := own5
                    clear own5
                    refine wpAnyH_ready (rs := [15]) (by kernel_rfl) (by simp) ?_
                    refine AllReadyH.cons rfl (fun K hK => ?_) AllReadyH.nil
                    refine step_cat rfl _ _ _ (by rfl) Try.underlying30 info_impl_DeskRow rfl (by decide) (by rfl) own (by rfl) (m := 0) (hsuf.next J5) (row_all _) (by omega) (by omega) (by decide) (by have := J5.size; omega) ?_
                    intro A6 c6 wi6 own6 o6 b6 q6
                    have J6 := J5.trans b6
                    refine hK.out _ _ (⟨(J6.cell (p := ⟨w.heap.size, 3, none⟩) hpb).trans pd, (J6.cell (p := ⟨bx, ox + i * 3, none⟩) hbx).trans x0, (J6.cell (p := ⟨bx, ox + i * 3 + 1, none⟩) hbx).trans x1, (J6.cell (p := ⟨bx, ox + i * 3 + 2, none⟩) hbx).trans x2⟩) (fun hHeld => ?_)
                    clear hK K
                    (try simp only [Act.put, List.setIfInBounds_toArray, List.set_cons_zero, List.set_cons_succ, List.getElem_toArray, List.getElem_cons_zero, List.getElem_cons_succ])
                    replace own := own6
                    clear own6
                    refine wpAnyH_take (i := 16) (v := ?_) rfl (by kernel_rfl) (by kernel_rfl) (by kernel_rfl) (fun _ _ _ h => h) (Or.inl ⟨by rfl, ?_⟩) (by assumption) ?_
                    rotate_left 1
                    · (intro w hSw; (try dsimp only at hSw); go_simp; try with_reducible rfl)
                    (try simp only [Act.put, List.setIfInBounds_toArray, List.set_cons_zero, List.set_cons_succ, List.getElem_toArray, List.getElem_cons_zero, List.getElem_cons_succ])
                    refine wpAnyH_done (by kernel_rfl) ?_ _
                    go_wp2_with fail
                    rw [show k + 1 + 0 = i + 1 by omega] at own
                    obtain ⟨g4, cap4, hv4, -, -⟩ := own.form (Nat.succ_pos _)
                    injection hv4 with hA4 _ _
                    subst hA4
                    go_roundw
                    case rel => exact ⟨i + 1, g4, _, by omega, by go_num, by congr 1; omega, by rw [HIN.out, HR2.out]; exact own_base own OB.lt, PB.next J6, OB.next J6, bel_then K J6⟩
                    case measure => simp [intOf]; omega
                  refine AllReadyH.cons rfl (fun K hK => ?_) AllReadyH.nil
                  · go_simp
                    have U3 : Below wi2.heap.size wi2 (wi2.alloc (.cells #[.int .i64 x.number, .int .i64 x.missing, .int .i64 x.time] 54)) := (Below.refl _ _).alloc (Nat.le_refl _) _
                    have J3 := bel_then J2 U3
                    refine hK.out _ _ (⟨(J3.cell (p := ⟨w.heap.size, 3, none⟩) hpb).trans pd, (J3.cell (p := ⟨bx, ox + i * 3, none⟩) hbx).trans x0, (J3.cell (p := ⟨bx, ox + i * 3 + 1, none⟩) hbx).trans x1, (J3.cell (p := ⟨bx, ox + i * 3 + 2, none⟩) hbx).trans x2⟩) (fun hHeld => ?_)
                    clear hK K
                    (try simp only [Act.put, List.setIfInBounds_toArray, List.set_cons_zero, List.set_cons_succ, List.getElem_toArray, List.getElem_cons_zero, List.getElem_cons_succ])
                    replace own := own_below own U3
                    have box : Blk (wi2.alloc (.cells #[.int .i64 x.number, .int .i64 x.missing, .int .i64 x.time] 54)) wi2.heap.size 54 [.int .i64 x.number, .int .i64 x.missing, .int .i64 x.time] := Blk.at_ rfl
                    have lb := box.lt
                    have hne : ∀ b, OwnB (some ⟨wi1.heap.size, 0, none⟩) b → b ≠ wi2.heap.size := fun b hb => by have := (own_top ownP hb).2; omega
                    generalize (wi2.alloc (.cells #[.int .i64 x.number, .int .i64 x.missing, .int .i64 x.time] 54)) = wi3 at *
                    replace ownP := own
                    refine wpAnyH_ready (rs := [4]) (by kernel_rfl) (by simp) ?_
                    refine AllReadyH.cons rfl (fun K hK => ?_) AllReadyH.nil
                    refine step_cat rfl _ _ _ (by rfl) Try.underlying30 info_impl_DeskRow rfl (by decide) (by rfl) own (by rfl) (m := k) (hpre.next J3) (row_all _) (by omega) (by omega) (by decide) (by have := J3.size; omega) ?_
                    intro A4 c4 wi4 own4 o4 b4 q4
                    have J4 := J3.trans b4
                    refine hK.out _ _ (⟨(J4.cell (p := ⟨w.heap.size, 3, none⟩) hpb).trans pd, (J4.cell (p := ⟨bx, ox + i * 3, none⟩) hbx).trans x0, (J4.cell (p := ⟨bx, ox + i * 3 + 1, none⟩) hbx).trans x1, (J4.cell (p := ⟨bx, ox + i * 3 + 2, none⟩) hbx).trans x2⟩) (fun hHeld => ?_)
                    clear hK K
                    (try simp only [Act.put, List.setIfInBounds_toArray, List.set_cons_zero, List.set_cons_succ, List.getElem_toArray, List.getElem_cons_zero, List.getElem_cons_succ])
                    (try simp only [Nat.zero_add])
                    replace box := box.only o4 (fun h => hne _ h rfl)
                    simp only [Nat.zero_add, List.nil_append] at own4
                    replace own := own4
                    clear own4
                    replace ownP := own
                    refine wpAnyH_ready (rs := [11]) (by kernel_rfl) (by simp) ?_
                    refine AllReadyH.cons rfl (fun K hK => ?_) AllReadyH.nil
                    refine step_cat rfl _ _ _ (by rfl) Try.underlying30 info_impl_DeskRow rfl (by decide) (by rfl) own (by rfl) (m := 1) (box.sees (s := 3) (Nat.zero_le _) rfl) (by simp [Value.oneCell']) (by omega) (by omega) (by decide) (by have := J4.size; omega) ?_
                    intro A5 c5 wi5 own5 o5 b5 q5
                    have J5 := J4.trans b5
                    refine hK.out _ _ (⟨(J5.cell (p := ⟨w.heap.size, 3, none⟩) hpb).trans pd, (J5.cell (p := ⟨bx, ox + i * 3, none⟩) hbx).trans x0, (J5.cell (p := ⟨bx, ox + i * 3 + 1, none⟩) hbx).trans x1, (J5.cell (p := ⟨bx, ox + i * 3 + 2, none⟩) hbx).trans x2⟩) (fun hHeld => ?_)
                    clear hK K
                    (try simp only [Act.put, List.setIfInBounds_toArray, List.set_cons_zero, List.set_cons_succ, List.getElem_toArray, List.getElem_cons_zero, List.getElem_cons_succ])
                    replace own := own5
                    clear own5
                    refine wpAnyH_ready (rs := [15]) (by kernel_rfl) (by simp) ?_
                    refine AllReadyH.cons rfl (fun K hK => ?_) AllReadyH.nil
                    refine step_cat rfl _ _ _ (by rfl) Try.underlying30 info_impl_DeskRow rfl (by decide) (by rfl) own (by rfl) (m := 0) (hsuf.next J5) (row_all _) (by omega) (by omega) (by decide) (by have := J5.size; omega) ?_
                    intro A6 c6 wi6 own6 o6 b6 q6
                    have J6 := J5.trans b6
                    refine hK.out _ _ (⟨(J6.cell (p := ⟨w.heap.size, 3, none⟩) hpb).trans pd, (J6.cell (p := ⟨bx, ox + i * 3, none⟩) hbx).trans x0, (J6.cell (p := ⟨bx, ox + i * 3 + 1, none⟩) hbx).trans x1, (J6.cell (p := ⟨bx, ox + i * 3 + 2, none⟩) hbx).trans x2⟩) (fun hHeld => ?_)
                    clear hK K
                    (try simp only [Act.put, List.setIfInBounds_toArray, List.set_cons_zero, List.set_cons_succ, List.getElem_toArray, List.getElem_cons_zero, List.getElem_cons_succ])
                    replace own := own6
                    clear own6
                    refine wpAnyH_take (i := 16) (v := ?_) rfl (by kernel_rfl) (by kernel_rfl) (by kernel_rfl) (fun _ _ _ h => h) (Or.inl ⟨by rfl, ?_⟩) (by assumption) ?_
                    rotate_left 1
                    · (intro w hSw; (try dsimp only at hSw); go_simp; try with_reducible rfl)
                    (try simp only [Act.put, List.setIfInBounds_toArray, List.set_cons_zero, List.set_cons_succ, List.getElem_toArray, List.getElem_cons_zero, List.getElem_cons_succ])
                    refine wpAnyH_done (by kernel_rfl) ?_ _
                    go_wp2_with fail
                    rw [show k + 1 + 0 = i + 1 by omega] at own
                    obtain ⟨g4, cap4, hv4, -, -⟩ := own.form (Nat.succ_pos _)
                    injection hv4 with hA4 _ _
                    subst hA4
                    go_roundw
                    case rel => exact ⟨i + 1, g4, _, by omega, by go_num, by congr 1; omega, by rw [HIN.out, HR2.out]; exact own_base own OB.lt, PB.next J6, OB.next J6, bel_then K J6⟩
                    case measure => simp [intOf]; omega
                refine AllReadyH.cons rfl (fun K hK => ?_) AllReadyH.nil
                · go_simp
                  have U2 : Below wi1.heap.size wi1 (wi1.alloc (.cells #[.int .i64 x.number, .int .i64 x.missing, .int .i64 x.time] 54)) := (Below.refl _ _).alloc (Nat.le_refl _) _
                  have J2 := bel_then J1 U2
                  refine hK.out _ _ (⟨(J2.cell (p := ⟨w.heap.size, 3, none⟩) hpb).trans pd, (J2.cell (p := ⟨bx, ox + i * 3, none⟩) hbx).trans x0, (J2.cell (p := ⟨bx, ox + i * 3 + 1, none⟩) hbx).trans x1, (J2.cell (p := ⟨bx, ox + i * 3 + 2, none⟩) hbx).trans x2⟩) (fun hHeld => ?_)
                  clear hK K
                  (try simp only [Act.put, List.setIfInBounds_toArray, List.set_cons_zero, List.set_cons_succ, List.getElem_toArray, List.getElem_cons_zero, List.getElem_cons_succ])
                  have box : Blk (wi1.alloc (.cells #[.int .i64 x.number, .int .i64 x.missing, .int .i64 x.time] 54)) wi1.heap.size 54 [.int .i64 x.number, .int .i64 x.missing, .int .i64 x.time] := Blk.at_ rfl
                  have lb := box.lt
                  generalize (wi1.alloc (.cells #[.int .i64 x.number, .int .i64 x.missing, .int .i64 x.time] 54)) = wi2 at *
                  refine wpAnyH_ready (rs := [0]) (by kernel_rfl) (by simp) ?_
                  refine AllReadyH.cons rfl (fun K hK => ?_) AllReadyH.nil
                  go_simp
                  have U3 : Below wi2.heap.size wi2 (wi2.alloc (.cells #[] 54)) := (Below.refl _ _).alloc (Nat.le_refl _) _
                  have J3 := bel_then J2 U3
                  refine hK.out _ _ (⟨(J3.cell (p := ⟨w.heap.size, 3, none⟩) hpb).trans pd, (J3.cell (p := ⟨bx, ox + i * 3, none⟩) hbx).trans x0, (J3.cell (p := ⟨bx, ox + i * 3 + 1, none⟩) hbx).trans x1, (J3.cell (p := ⟨bx, ox + i * 3 + 2, none⟩) hbx).trans x2⟩) (fun hHeld => ?_)
                  clear hK K
                  (try simp only [Act.put, List.setIfInBounds_toArray, List.set_cons_zero, List.set_cons_succ, List.getElem_toArray, List.getElem_cons_zero])
                  replace box := box.next U3
                  have own := own_base (own_empty wi2 54 3) (show wv.heap.size ≤ wi2.heap.size from J2.size)
                  have hne : ∀ b, OwnB (some ⟨wi2.heap.size, 0, none⟩) b → b ≠ wi1.heap.size := fun b hb => by have h4 : wi2.heap.size = b := (by simpa [OwnB, Value.ownBlock] using hb); have h5 := lb; omega
                  generalize (wi2.alloc (.cells #[] 54)) = wi3 at *
                  have ownP := own
                  refine wpAnyH_ready (rs := [4]) (by kernel_rfl) (by simp) ?_
                  refine AllReadyH.cons rfl (fun K hK => ?_) AllReadyH.nil
                  refine step_cat rfl _ _ _ (by rfl) Try.underlying30 info_impl_DeskRow rfl (by decide) (by rfl) own (by rfl) (m := k) (hpre.next J3) (row_all _) (by omega) (by omega) (by decide) (by have := J3.size; omega) ?_
                  intro A4 c4 wi4 own4 o4 b4 q4
                  have J4 := J3.trans b4
                  refine hK.out _ _ (⟨(J4.cell (p := ⟨w.heap.size, 3, none⟩) hpb).trans pd, (J4.cell (p := ⟨bx, ox + i * 3, none⟩) hbx).trans x0, (J4.cell (p := ⟨bx, ox + i * 3 + 1, none⟩) hbx).trans x1, (J4.cell (p := ⟨bx, ox + i * 3 + 2, none⟩) hbx).trans x2⟩) (fun hHeld => ?_)
                  clear hK K
                  (try simp only [Act.put, List.setIfInBounds_toArray, List.set_cons_zero, List.set_cons_succ, List.getElem_toArray, List.getElem_cons_zero, List.getElem_cons_succ])
                  (try simp only [Nat.zero_add])
                  replace box := box.only o4 (fun h => hne _ h rfl)
                  simp only [Nat.zero_add, List.nil_append] at own4
                  replace own := own4
                  clear own4
                  replace ownP := own
                  refine wpAnyH_ready (rs := [11]) (by kernel_rfl) (by simp) ?_
                  refine AllReadyH.cons rfl (fun K hK => ?_) AllReadyH.nil
                  refine step_cat rfl _ _ _ (by rfl) Try.underlying30 info_impl_DeskRow rfl (by decide) (by rfl) own (by rfl) (m := 1) (box.sees (s := 3) (Nat.zero_le _) rfl) (by simp [Value.oneCell']) (by omega) (by omega) (by decide) (by have := J4.size; omega) ?_
                  intro A5 c5 wi5 own5 o5 b5 q5
                  have J5 := J4.trans b5
                  refine hK.out _ _ (⟨(J5.cell (p := ⟨w.heap.size, 3, none⟩) hpb).trans pd, (J5.cell (p := ⟨bx, ox + i * 3, none⟩) hbx).trans x0, (J5.cell (p := ⟨bx, ox + i * 3 + 1, none⟩) hbx).trans x1, (J5.cell (p := ⟨bx, ox + i * 3 + 2, none⟩) hbx).trans x2⟩) (fun hHeld => ?_)
                  clear hK K
                  (try simp only [Act.put, List.setIfInBounds_toArray, List.set_cons_zero, List.set_cons_succ, List.getElem_toArray, List.getElem_cons_zero, List.getElem_cons_succ])
                  replace own := own5
                  clear own5
                  refine wpAnyH_ready (rs := [15]) (by kernel_rfl) (by simp) ?_
                  refine AllReadyH.cons rfl (fun K hK => ?_) AllReadyH.nil
                  refine step_cat rfl _ _ _ (by rfl) Try.underlying30 info_impl_DeskRow rfl (by decide) (by rfl) own (by rfl) (m := 0) (hsuf.next J5) (row_all _) (by omega) (by omega) (by decide) (by have := J5.size; omega) ?_
                  intro A6 c6 wi6 own6 o6 b6 q6
                  have J6 := J5.trans b6
                  refine hK.out _ _ (⟨(J6.cell (p := ⟨w.heap.size, 3, none⟩) hpb).trans pd, (J6.cell (p := ⟨bx, ox + i * 3, none⟩) hbx).trans x0, (J6.cell (p := ⟨bx, ox + i * 3 + 1, none⟩) hbx).trans x1, (J6.cell (p := ⟨bx, ox + i * 3 + 2, none⟩) hbx).trans x2⟩) (fun hHeld => ?_)
                  clear hK K
                  (try simp only [Act.put, List.setIfInBounds_toArray, List.set_cons_zero, List.set_cons_succ, List.getElem_toArray, List.getElem_cons_zero, List.getElem_cons_succ])
                  replace own := own6
                  clear own6
                  refine wpAnyH_take (i := 16) (v := ?_) rfl (by kernel_rfl) (by kernel_rfl) (by kernel_rfl) (fun _ _ _ h => h) (Or.inl ⟨by rfl, ?_⟩) (by assumption) ?_
                  rotate_left 1
                  · (intro w hSw; (try dsimp only at hSw); go_simp; try with_reducible rfl)
                  (try simp only [Act.put, List.setIfInBounds_toArray, List.set_cons_zero, List.set_cons_succ, List.getElem_toArray, List.getElem_cons_zero, List.getElem_cons_succ])
                  refine wpAnyH_done (by kernel_rfl) ?_ _
                  go_wp2_with fail
                  rw [show k + 1 + 0 = i + 1 by omega] at own
                  obtain ⟨g4, cap4, hv4, -, -⟩ := own.form (Nat.succ_pos _)
                  injection hv4 with hA4 _ _
                  subst hA4
                  go_roundw
                  case rel => exact ⟨i + 1, g4, _, by omega, by go_num, by congr 1; omega, by rw [HIN.out, HR2.out]; exact own_base own OB.lt, PB.next J6, OB.next J6, bel_then K J6⟩
                  case measure => simp [intOf]; omega
              · have hsuf := SeesFlat.drop (Sees.of_own own) (by decide) (fun _ => rfl) k hk
                have hk1 : k ≤ c' := by omega
                clear own
                go_wp2_with fail
                have J1 := (Quiet.one wv).below wv.heap.size
                refine wp_region_held_drew (S := fun w' => w'.cell? ⟨w.heap.size, 3, none⟩ = some (.slice (some ⟨bx, ox, none⟩) n3 c3) ∧ w'.cell? ⟨bx, ox + i * 3, none⟩ = some (.int .i64 x.number) ∧ w'.cell? ⟨bx, ox + i * 3 + 1, none⟩ = some (.int .i64 x.missing) ∧ w'.cell? ⟨bx, ox + i * 3 + 2, none⟩ = some (.int .i64 x.time)) (by kernel_rfl) (⟨(J1.cell (p := ⟨w.heap.size, 3, none⟩) hpb).trans pd, (J1.cell (p := ⟨bx, ox + i * 3, none⟩) hbx).trans x0, (J1.cell (p := ⟨bx, ox + i * 3 + 1, none⟩) hbx).trans x1, (J1.cell (p := ⟨bx, ox + i * 3 + 2, none⟩) hbx).trans x2⟩) (fun hHeld => ?_)
                generalize wv.drew = wi1 at *
                refine wpAnyH_take (i := 1) (v := ?_) rfl (by kernel_rfl) (by kernel_rfl) (by kernel_rfl) (fun _ _ _ h => h) (Or.inl ⟨by rfl, ?_⟩) (by assumption) ?_
                rotate_left 1
                · (intro w hSw; (try dsimp only at hSw); go_simp; try with_reducible rfl)
                (try simp only [Act.put, List.setIfInBounds_toArray, List.set_cons_zero, List.set_cons_succ, List.getElem_toArray, List.getElem_cons_zero, List.getElem_cons_succ])
                refine wpAnyH_take (i := 2) (v := ?_) rfl (by kernel_rfl) (by kernel_rfl) (by kernel_rfl) (fun _ _ _ h => h) (Or.inl ⟨by rfl, ?_⟩) (by assumption) ?_
                rotate_left 1
                · (intro w hSw; (try dsimp only at hSw); go_simp; try with_reducible rfl)
                (try simp only [Act.put, List.setIfInBounds_toArray, List.set_cons_zero, List.set_cons_succ, List.getElem_toArray, List.getElem_cons_zero, List.getElem_cons_succ])
                refine wpAnyH_take (i := 3) (v := ?_) rfl (by kernel_rfl) (by kernel_rfl) (by kernel_rfl) (fun _ _ _ h => h) (Or.inl ⟨by rfl, ?_⟩) (by assumption) ?_
                rotate_left 1
                · (intro w hSw; (try dsimp only at hSw); go_simp; try with_reducible rfl)
                (try simp only [Act.put, List.setIfInBounds_toArray, List.set_cons_zero, List.set_cons_succ, List.getElem_toArray, List.getElem_cons_zero, List.getElem_cons_succ])
                refine wpAnyH_take (i := 5) (v := ?_) rfl (by kernel_rfl) (by kernel_rfl) (by kernel_rfl) (fun _ _ _ h => h) (Or.inl ⟨by rfl, ?_⟩) (by assumption) ?_
                rotate_left 1
                · (intro w hSw; (try dsimp only at hSw); go_simp; try with_reducible rfl)
                (try simp only [Act.put, List.setIfInBounds_toArray, List.set_cons_zero, List.set_cons_succ, List.getElem_toArray, List.getElem_cons_zero, List.getElem_cons_succ])
                refine wpAnyH_take (i := 6) (v := ?_) rfl (by kernel_rfl) (by kernel_rfl) (by kernel_rfl) (fun _ _ _ h => h) (Or.inl ⟨by rfl, ?_⟩) (by assumption) ?_
                rotate_left 1
                · (intro w hSw; (try dsimp only at hSw); go_simp; try with_reducible rfl)
                (try simp only [Act.put, List.setIfInBounds_toArray, List.set_cons_zero, List.set_cons_succ, List.getElem_toArray, List.getElem_cons_zero, List.getElem_cons_succ])
                refine wpAnyH_take (i := 7) (v := ?_) rfl (by kernel_rfl) (by kernel_rfl) (by kernel_rfl) (fun _ _ _ h => h) (Or.inl ⟨by rfl, ?_⟩) (by assumption) ?_
                rotate_left 1
                · (intro w hSw; (try dsimp only at hSw); go_simp; try with_reducible rfl)
                (try simp only [Act.put, List.setIfInBounds_toArray, List.set_cons_zero, List.set_cons_succ, List.getElem_toArray, List.getElem_cons_zero, List.getElem_cons_succ])
                refine wpAnyH_take (i := 8) (v := ?_) rfl (by kernel_rfl) (by kernel_rfl) (by kernel_rfl) (fun _ _ _ h => h) (Or.inl ⟨by rfl, ?_⟩) (by assumption) ?_
                rotate_left 1
                · (intro w hSw; (try dsimp only at hSw); go_simp; try with_reducible rfl)
                (try simp only [Act.put, List.setIfInBounds_toArray, List.set_cons_zero, List.set_cons_succ, List.getElem_toArray, List.getElem_cons_zero, List.getElem_cons_succ])
                refine wpAnyH_take (i := 9) (v := ?_) rfl (by kernel_rfl) (by kernel_rfl) (by kernel_rfl) (fun _ _ _ h => h) (Or.inl ⟨by rfl, ?_⟩) (by assumption) ?_
                rotate_left 1
                · (intro w hSw; (try dsimp only at hSw); go_simp; try with_reducible rfl)
                (try simp only [Act.put, List.setIfInBounds_toArray, List.set_cons_zero, List.set_cons_succ, List.getElem_toArray, List.getElem_cons_zero, List.getElem_cons_succ])
                refine wpAnyH_take (i := 12) (v := ?_) rfl (by kernel_rfl) (by kernel_rfl) (by kernel_rfl) (fun _ _ _ h => h) (Or.inl ⟨by rfl, ?_⟩) (by assumption) ?_
                rotate_left 1
                · (intro w hSw; (try dsimp only at hSw); go_simp; try with_reducible rfl)
                (try simp only [Act.put, List.setIfInBounds_toArray, List.set_cons_zero, List.set_cons_succ, List.getElem_toArray, List.getElem_cons_zero, List.getElem_cons_succ])
                refine wpAnyH_take (i := 13) (v := ?_) rfl (by kernel_rfl) (by kernel_rfl) (by kernel_rfl) (fun _ _ _ h => h) (Or.inl ⟨by rfl, ?_⟩) (by assumption) ?_
                rotate_left 1
                · (intro w hSw; (try dsimp only at hSw); go_simp; try with_reducible rfl)
                (try simp only [Act.put, List.setIfInBounds_toArray, List.set_cons_zero, List.set_cons_succ, List.getElem_toArray, List.getElem_cons_zero, List.getElem_cons_succ])
                refine wpAnyH_take (i := 14) (v := ?_) rfl (by kernel_rfl) (by kernel_rfl) (by kernel_rfl) (fun _ _ _ h => h) (Or.inl ⟨by rfl, ?_⟩) (by assumption) ?_
                rotate_left 1
                · (intro w hSw; (try dsimp only at hSw); go_simp; try with_reducible rfl)
                (try simp only [Act.put, List.setIfInBounds_toArray, List.set_cons_zero, List.set_cons_succ, List.getElem_toArray, List.getElem_cons_zero, List.getElem_cons_succ])
                refine wpAnyH_ready (rs := [0, 10]) (by kernel_rfl) (by simp) ?_
                refine AllReadyH.cons rfl (fun K hK => ?_) ?_
                · go_simp
                  have U2 : Below wi1.heap.size wi1 (wi1.alloc (.cells #[] 54)) := (Below.refl _ _).alloc (Nat.le_refl _) _
                  have J2 := bel_then J1 U2
                  refine hK.out _ _ (⟨(J2.cell (p := ⟨w.heap.size, 3, none⟩) hpb).trans pd, (J2.cell (p := ⟨bx, ox + i * 3, none⟩) hbx).trans x0, (J2.cell (p := ⟨bx, ox + i * 3 + 1, none⟩) hbx).trans x1, (J2.cell (p := ⟨bx, ox + i * 3 + 2, none⟩) hbx).trans x2⟩) (fun hHeld => ?_)
                  clear hK K
                  (try simp only [Act.put, List.setIfInBounds_toArray, List.set_cons_zero, List.set_cons_succ, List.getElem_toArray, List.getElem_cons_zero])
                  have own := own_base (own_empty wi1 54 3) (show wv.heap.size ≤ wi1.heap.size from J1.size)
                  generalize (wi1.alloc (.cells #[] 54)) = wi2 at *
                  have ownP := own
                  refine wpAnyH_ready (rs := [4, 10]) (by kernel_rfl) (by simp) ?_
                  refine AllReadyH.cons rfl (fun K hK => ?_) ?_
                  · refine step_cat rfl _ _ _ (by rfl) Try.underlying30 info_impl_DeskRow rfl (by decide) (by rfl) own (by rfl) (m := k) (hpre.next J2) (row_all _) (by omega) (by omega) (by decide) (by have := J2.size; omega) ?_
                    intro A3 c3 wi3 own3 o3 b3 q3
                    have J3 := J2.trans b3
                    refine hK.out _ _ (⟨(J3.cell (p := ⟨w.heap.size, 3, none⟩) hpb).trans pd, (J3.cell (p := ⟨bx, ox + i * 3, none⟩) hbx).trans x0, (J3.cell (p := ⟨bx, ox + i * 3 + 1, none⟩) hbx).trans x1, (J3.cell (p := ⟨bx, ox + i * 3 + 2, none⟩) hbx).trans x2⟩) (fun hHeld => ?_)
                    clear hK K
                    (try simp only [Act.put, List.setIfInBounds_toArray, List.set_cons_zero, List.set_cons_succ, List.getElem_toArray, List.getElem_cons_zero, List.getElem_cons_succ])
                    (try simp only [Nat.zero_add])
                    simp only [Nat.zero_add, List.nil_append] at own3
                    replace own := own3
                    clear own3
                    replace ownP := own
                    refine wpAnyH_ready (rs := [10]) (by kernel_rfl) (by simp) ?_
                    refine AllReadyH.cons rfl (fun K hK => ?_) AllReadyH.nil
                    go_simp
                    have U4 : Below wi3.heap.size wi3 (wi3.alloc (.cells #[.int .i64 x.number, .int .i64 x.missing, .int .i64 x.time] 54)) := (Below.refl _ _).alloc (Nat.le_refl _) _
                    have J4 := bel_then J3 U4
                    refine hK.out _ _ (⟨(J4.cell (p := ⟨w.heap.size, 3, none⟩) hpb).trans pd, (J4.cell (p := ⟨bx, ox + i * 3, none⟩) hbx).trans x0, (J4.cell (p := ⟨bx, ox + i * 3 + 1, none⟩) hbx).trans x1, (J4.cell (p := ⟨bx, ox + i * 3 + 2, none⟩) hbx).trans x2⟩) (fun hHeld => ?_)
                    clear hK K
                    (try simp only [Act.put, List.setIfInBounds_toArray, List.set_cons_zero, List.set_cons_succ, List.getElem_toArray, List.getElem_cons_zero, List.getElem_cons_succ])
                    replace own := own_below own U4
                    have box : Blk (wi3.alloc (.cells #[.int .i64 x.number, .int .i64 x.missing, .int .i64 x.time] 54)) wi3.heap.size 54 [.int .i64 x.number, .int .i64 x.missing, .int .i64 x.time] := Blk.at_ rfl
                    have lb := box.lt
                    have hne : ∀ b, OwnB A3 b → b ≠ wi3.heap.size := fun b hb => by have := (own_top ownP hb).2; omega
                    generalize (wi3.alloc (.cells #[.int .i64 x.number, .int .i64 x.missing, .int .i64 x.time] 54)) = wi4 at *
                    replace ownP := own
                    refine wpAnyH_ready (rs := [11]) (by kernel_rfl) (by simp) ?_
                    refine AllReadyH.cons rfl (fun K hK => ?_) AllReadyH.nil
                    refine step_cat rfl _ _ _ (by rfl) Try.underlying30 info_impl_DeskRow rfl (by decide) (by rfl) own (by rfl) (m := 1) (box.sees (s := 3) (Nat.zero_le _) rfl) (by simp [Value.oneCell']) (by omega) (by omega) (by decide) (by have := J4.size; omega) ?_
                    intro A5 c5 wi5 own5 o5 b5 q5
                    have J5 := J4.trans b5
                    refine hK.out _ _ (⟨(J5.cell (p := ⟨w.heap.size, 3, none⟩) hpb).trans pd, (J5.cell (p := ⟨bx, ox + i * 3, none⟩) hbx).trans x0, (J5.cell (p := ⟨bx, ox + i * 3 + 1, none⟩) hbx).trans x1, (J5.cell (p := ⟨bx, ox + i * 3 + 2, none⟩) hbx).trans x2⟩) (fun hHeld => ?_)
                    clear hK K
                    (try simp only [Act.put, List.setIfInBounds_toArray, List.set_cons_zero, List.set_cons_succ, List.getElem_toArray, List.getElem_cons_zero, List.getElem_cons_succ])
                    replace own := own5
                    clear own5
                    refine wpAnyH_ready (rs := [15]) (by kernel_rfl) (by simp) ?_
                    refine AllReadyH.cons rfl (fun K hK => ?_) AllReadyH.nil
                    refine step_cat rfl _ _ _ (by rfl) Try.underlying30 info_impl_DeskRow rfl (by decide) (by rfl) own (by rfl) (m := (i - k)) (hsuf.next J5) (row_all _) (by omega) (by omega) (by decide) (by have := J5.size; omega) ?_
                    intro A6 c6 wi6 own6 o6 b6 q6
                    have J6 := J5.trans b6
                    refine hK.out _ _ (⟨(J6.cell (p := ⟨w.heap.size, 3, none⟩) hpb).trans pd, (J6.cell (p := ⟨bx, ox + i * 3, none⟩) hbx).trans x0, (J6.cell (p := ⟨bx, ox + i * 3 + 1, none⟩) hbx).trans x1, (J6.cell (p := ⟨bx, ox + i * 3 + 2, none⟩) hbx).trans x2⟩) (fun hHeld => ?_)
                    clear hK K
                    (try simp only [Act.put, List.setIfInBounds_toArray, List.set_cons_zero, List.set_cons_succ, List.getElem_toArray, List.getElem_cons_zero, List.getElem_cons_succ])
                    replace own := own6
                    clear own6
                    refine wpAnyH_take (i := 16) (v := ?_) rfl (by kernel_rfl) (by kernel_rfl) (by kernel_rfl) (fun _ _ _ h => h) (Or.inl ⟨by rfl, ?_⟩) (by assumption) ?_
                    rotate_left 1
                    · (intro w hSw; (try dsimp only at hSw); go_simp; try with_reducible rfl)
                    (try simp only [Act.put, List.setIfInBounds_toArray, List.set_cons_zero, List.set_cons_succ, List.getElem_toArray, List.getElem_cons_zero, List.getElem_cons_succ])
                    refine wpAnyH_done (by kernel_rfl) ?_ _
                    go_wp2_with fail
                    rw [show k + 1 + (i - k) = i + 1 by omega] at own
                    obtain ⟨g4, cap4, hv4, -, -⟩ := own.form (Nat.succ_pos _)
                    injection hv4 with hA4 _ _
                    subst hA4
                    go_roundw
                    case rel => exact ⟨i + 1, g4, _, by omega, by go_num, by congr 1; omega, by rw [HIN.out, HR2.out]; exact own_base own OB.lt, PB.next J6, OB.next J6, bel_then K J6⟩
                    case measure => simp [intOf]; omega
                  refine AllReadyH.cons rfl (fun K hK => ?_) AllReadyH.nil
                  · go_simp
                    have U3 : Below wi2.heap.size wi2 (wi2.alloc (.cells #[.int .i64 x.number, .int .i64 x.missing, .int .i64 x.time] 54)) := (Below.refl _ _).alloc (Nat.le_refl _) _
                    have J3 := bel_then J2 U3
                    refine hK.out _ _ (⟨(J3.cell (p := ⟨w.heap.size, 3, none⟩) hpb).trans pd, (J3.cell (p := ⟨bx, ox + i * 3, none⟩) hbx).trans x0, (J3.cell (p := ⟨bx, ox + i * 3 + 1, none⟩) hbx).trans x1, (J3.cell (p := ⟨bx, ox + i * 3 + 2, none⟩) hbx).trans x2⟩) (fun hHeld => ?_)
                    clear hK K
                    (try simp only [Act.put, List.setIfInBounds_toArray, List.set_cons_zero, List.set_cons_succ, List.getElem_toArray, List.getElem_cons_zero, List.getElem_cons_succ])
                    replace own := own_below own U3
                    have box : Blk (wi2.alloc (.cells #[.int .i64 x.number, .int .i64 x.missing, .int .i64 x.time] 54)) wi2.heap.size 54 [.int .i64 x.number, .int .i64 x.missing, .int .i64 x.time] := Blk.at_ rfl
                    have lb := box.lt
                    have hne : ∀ b, OwnB (some ⟨wi1.heap.size, 0, none⟩) b → b ≠ wi2.heap.size := fun b hb => by have := (own_top ownP hb).2; omega
                    generalize (wi2.alloc (.cells #[.int .i64 x.number, .int .i64 x.missing, .int .i64 x.time] 54)) = wi3 at *
                    replace ownP := own
                    refine wpAnyH_ready (rs := [4]) (by kernel_rfl) (by simp) ?_
                    refine AllReadyH.cons rfl (fun K hK => ?_) AllReadyH.nil
                    refine step_cat rfl _ _ _ (by rfl) Try.underlying30 info_impl_DeskRow rfl (by decide) (by rfl) own (by rfl) (m := k) (hpre.next J3) (row_all _) (by omega) (by omega) (by decide) (by have := J3.size; omega) ?_
                    intro A4 c4 wi4 own4 o4 b4 q4
                    have J4 := J3.trans b4
                    refine hK.out _ _ (⟨(J4.cell (p := ⟨w.heap.size, 3, none⟩) hpb).trans pd, (J4.cell (p := ⟨bx, ox + i * 3, none⟩) hbx).trans x0, (J4.cell (p := ⟨bx, ox + i * 3 + 1, none⟩) hbx).trans x1, (J4.cell (p := ⟨bx, ox + i * 3 + 2, none⟩) hbx).trans x2⟩) (fun hHeld => ?_)
                    clear hK K
                    (try simp only [Act.put, List.setIfInBounds_toArray, List.set_cons_zero, List.set_cons_succ, List.getElem_toArray, List.getElem_cons_zero, List.getElem_cons_succ])
                    (try simp only [Nat.zero_add])
                    replace box := box.only o4 (fun h => hne _ h rfl)
                    simp only [Nat.zero_add, List.nil_append] at own4
                    replace own := own4
                    clear own4
                    replace ownP := own
                    refine wpAnyH_ready (rs := [11]) (by kernel_rfl) (by simp) ?_
                    refine AllReadyH.cons rfl (fun K hK => ?_) AllReadyH.nil
                    refine step_cat rfl _ _ _ (by rfl) Try.underlying30 info_impl_DeskRow rfl (by decide) (by rfl) own (by rfl) (m := 1) (box.sees (s := 3) (Nat.zero_le _) rfl) (by simp [Value.oneCell']) (by omega) (by omega) (by decide) (by have := J4.size; omega) ?_
                    intro A5 c5 wi5 own5 o5 b5 q5
                    have J5 := J4.trans b5
                    refine hK.out _ _ (⟨(J5.cell (p := ⟨w.heap.size, 3, none⟩) hpb).trans pd, (J5.cell (p := ⟨bx, ox + i * 3, none⟩) hbx).trans x0, (J5.cell (p := ⟨bx, ox + i * 3 + 1, none⟩) hbx).trans x1, (J5.cell (p := ⟨bx, ox + i * 3 + 2, none⟩) hbx).trans x2⟩) (fun hHeld => ?_)
                    clear hK K
                    (try simp only [Act.put, List.setIfInBounds_toArray, List.set_cons_zero, List.set_cons_succ, List.getElem_toArray, List.getElem_cons_zero, List.getElem_cons_succ])
                    replace own := own5
                    clear own5
                    refine wpAnyH_ready (rs := [15]) (by kernel_rfl) (by simp) ?_
                    refine AllReadyH.cons rfl (fun K hK => ?_) AllReadyH.nil
                    refine step_cat rfl _ _ _ (by rfl) Try.underlying30 info_impl_DeskRow rfl (by decide) (by rfl) own (by rfl) (m := (i - k)) (hsuf.next J5) (row_all _) (by omega) (by omega) (by decide) (by have := J5.size; omega) ?_
                    intro A6 c6 wi6 own6 o6 b6 q6
                    have J6 := J5.trans b6
                    refine hK.out _ _ (⟨(J6.cell (p := ⟨w.heap.size, 3, none⟩) hpb).trans pd, (J6.cell (p := ⟨bx, ox + i * 3, none⟩) hbx).trans x0, (J6.cell (p := ⟨bx, ox + i * 3 + 1, none⟩) hbx).trans x1, (J6.cell (p := ⟨bx, ox + i * 3 + 2, none⟩) hbx).trans x2⟩) (fun hHeld => ?_)
                    clear hK K
                    (try simp only [Act.put, List.setIfInBounds_toArray, List.set_cons_zero, List.set_cons_succ, List.getElem_toArray, List.getElem_cons_zero, List.getElem_cons_succ])
                    replace own := own6
                    clear own6
                    refine wpAnyH_take (i := 16) (v := ?_) rfl (by kernel_rfl) (by kernel_rfl) (by kernel_rfl) (fun _ _ _ h => h) (Or.inl ⟨by rfl, ?_⟩) (by assumption) ?_
                    rotate_left 1
                    · (intro w hSw; (try dsimp only at hSw); go_simp; try with_reducible rfl)
                    (try simp only [Act.put, List.setIfInBounds_toArray, List.set_cons_zero, List.set_cons_succ, List.getElem_toArray, List.getElem_cons_zero, List.getElem_cons_succ])
                    refine wpAnyH_done (by kernel_rfl) ?_ _
                    go_wp2_with fail
                    rw [show k + 1 + (i - k) = i + 1 by omega] at own
                    obtain ⟨g4, cap4, hv4, -, -⟩ := own.form (Nat.succ_pos _)
                    injection hv4 with hA4 _ _
                    subst hA4
                    go_roundw
                    case rel => exact ⟨i + 1, g4, _, by omega, by go_num, by congr 1; omega, by rw [HIN.out, HR2.out]; exact own_base own OB.lt, PB.next J6, OB.next J6, bel_then K J6⟩
                    case measure => simp [intOf]; omega
                refine AllReadyH.cons rfl (fun K hK => ?_) AllReadyH.nil
                · go_simp
                  have U2 : Below wi1.heap.size wi1 (wi1.alloc (.cells #[.int .i64 x.number, .int .i64 x.missing, .int .i64 x.time] 54)) := (Below.refl _ _).alloc (Nat.le_refl _) _
                  have J2 := bel_then J1 U2
                  refine hK.out _ _ (⟨(J2.cell (p := ⟨w.heap.size, 3, none⟩) hpb).trans pd, (J2.cell (p := ⟨bx, ox + i * 3, none⟩) hbx).trans x0, (J2.cell (p := ⟨bx, ox + i * 3 + 1, none⟩) hbx).trans x1, (J2.cell (p := ⟨bx, ox + i * 3 + 2, none⟩) hbx).trans x2⟩) (fun hHeld => ?_)
                  clear hK K
                  (try simp only [Act.put, List.setIfInBounds_toArray, List.set_cons_zero, List.set_cons_succ, List.getElem_toArray, List.getElem_cons_zero, List.getElem_cons_succ])
                  have box : Blk (wi1.alloc (.cells #[.int .i64 x.number, .int .i64 x.missing, .int .i64 x.time] 54)) wi1.heap.size 54 [.int .i64 x.number, .int .i64 x.missing, .int .i64 x.time] := Blk.at_ rfl
                  have lb := box.lt
                  generalize (wi1.alloc (.cells #[.int .i64 x.number, .int .i64 x.missing, .int .i64 x.time] 54)) = wi2 at *
                  refine wpAnyH_ready (rs := [0]) (by kernel_rfl) (by simp) ?_
                  refine AllReadyH.cons rfl (fun K hK => ?_) AllReadyH.nil
                  go_simp
                  have U3 : Below wi2.heap.size wi2 (wi2.alloc (.cells #[] 54)) := (Below.refl _ _).alloc (Nat.le_refl _) _
                  have J3 := bel_then J2 U3
                  refine hK.out _ _ (⟨(J3.cell (p := ⟨w.heap.size, 3, none⟩) hpb).trans pd, (J3.cell (p := ⟨bx, ox + i * 3, none⟩) hbx).trans x0, (J3.cell (p := ⟨bx, ox + i * 3 + 1, none⟩) hbx).trans x1, (J3.cell (p := ⟨bx, ox + i * 3 + 2, none⟩) hbx).trans x2⟩) (fun hHeld => ?_)
                  clear hK K
                  (try simp only [Act.put, List.setIfInBounds_toArray, List.set_cons_zero, List.set_cons_succ, List.getElem_toArray, List.getElem_cons_zero])
                  replace box := box.next U3
                  have own := own_base (own_empty wi2 54 3) (show wv.heap.size ≤ wi2.heap.size from J2.size)
                  have hne : ∀ b, OwnB (some ⟨wi2.heap.size, 0, none⟩) b → b ≠ wi1.heap.size := fun b hb => by have h4 : wi2.heap.size = b := (by simpa [OwnB, Value.ownBlock] using hb); have h5 := lb; omega
                  generalize (wi2.alloc (.cells #[] 54)) = wi3 at *
                  have ownP := own
                  refine wpAnyH_ready (rs := [4]) (by kernel_rfl) (by simp) ?_
                  refine AllReadyH.cons rfl (fun K hK => ?_) AllReadyH.nil
                  refine step_cat rfl _ _ _ (by rfl) Try.underlying30 info_impl_DeskRow rfl (by decide) (by rfl) own (by rfl) (m := k) (hpre.next J3) (row_all _) (by omega) (by omega) (by decide) (by have := J3.size; omega) ?_
                  intro A4 c4 wi4 own4 o4 b4 q4
                  have J4 := J3.trans b4
                  refine hK.out _ _ (⟨(J4.cell (p := ⟨w.heap.size, 3, none⟩) hpb).trans pd, (J4.cell (p := ⟨bx, ox + i * 3, none⟩) hbx).trans x0, (J4.cell (p := ⟨bx, ox + i * 3 + 1, none⟩) hbx).trans x1, (J4.cell (p := ⟨bx, ox + i * 3 + 2, none⟩) hbx).trans x2⟩) (fun hHeld => ?_)
                  clear hK K
                  (try simp only [Act.put, List.setIfInBounds_toArray, List.set_cons_zero, List.set_cons_succ, List.getElem_toArray, List.getElem_cons_zero, List.getElem_cons_succ])
                  (try simp only [Nat.zero_add])
                  replace box := box.only o4 (fun h => hne _ h rfl)
                  simp only [Nat.zero_add, List.nil_append] at own4
                  replace own := own4
                  clear own4
                  replace ownP := own
                  refine wpAnyH_ready (rs := [11]) (by kernel_rfl) (by simp) ?_
                  refine AllReadyH.cons rfl (fun K hK => ?_) AllReadyH.nil
                  refine step_cat rfl _ _ _ (by rfl) Try.underlying30 info_impl_DeskRow rfl (by decide) (by rfl) own (by rfl) (m := 1) (box.sees (s := 3) (Nat.zero_le _) rfl) (by simp [Value.oneCell']) (by omega) (by omega) (by decide) (by have := J4.size; omega) ?_
                  intro A5 c5 wi5 own5 o5 b5 q5
                  have J5 := J4.trans b5
                  refine hK.out _ _ (⟨(J5.cell (p := ⟨w.heap.size, 3, none⟩) hpb).trans pd, (J5.cell (p := ⟨bx, ox + i * 3, none⟩) hbx).trans x0, (J5.cell (p := ⟨bx, ox + i * 3 + 1, none⟩) hbx).trans x1, (J5.cell (p := ⟨bx, ox + i * 3 + 2, none⟩) hbx).trans x2⟩) (fun hHeld => ?_)
                  clear hK K
                  (try simp only [Act.put, List.setIfInBounds_toArray, List.set_cons_zero, List.set_cons_succ, List.getElem_toArray, List.getElem_cons_zero, List.getElem_cons_succ])
                  replace own := own5
                  clear own5
                  refine wpAnyH_ready (rs := [15]) (by kernel_rfl) (by simp) ?_
                  refine AllReadyH.cons rfl (fun K hK => ?_) AllReadyH.nil
                  refine step_cat rfl _ _ _ (by rfl) Try.underlying30 info_impl_DeskRow rfl (by decide) (by rfl) own (by rfl) (m := (i - k)) (hsuf.next J5) (row_all _) (by omega) (by omega) (by decide) (by have := J5.size; omega) ?_
                  intro A6 c6 wi6 own6 o6 b6 q6
                  have J6 := J5.trans b6
                  refine hK.out _ _ (⟨(J6.cell (p := ⟨w.heap.size, 3, none⟩) hpb).trans pd, (J6.cell (p := ⟨bx, ox + i * 3, none⟩) hbx).trans x0, (J6.cell (p := ⟨bx, ox + i * 3 + 1, none⟩) hbx).trans x1, (J6.cell (p := ⟨bx, ox + i * 3 + 2, none⟩) hbx).trans x2⟩) (fun hHeld => ?_)
                  clear hK K
                  (try simp only [Act.put, List.setIfInBounds_toArray, List.set_cons_zero, List.set_cons_succ, List.getElem_toArray, List.getElem_cons_zero, List.getElem_cons_succ])
                  replace own := own6
                  clear own6
                  refine wpAnyH_take (i := 16) (v := ?_) rfl (by kernel_rfl) (by kernel_rfl) (by kernel_rfl) (fun _ _ _ h => h) (Or.inl ⟨by rfl, ?_⟩) (by assumption) ?_
                  rotate_left 1
                  · (intro w hSw; (try dsimp only at hSw); go_simp; try with_reducible rfl)
                  (try simp only [Act.put, List.setIfInBounds_toArray, List.set_cons_zero, List.set_cons_succ, List.getElem_toArray, List.getElem_cons_zero, List.getElem_cons_succ])
                  refine wpAnyH_done (by kernel_rfl) ?_ _
                  go_wp2_with fail
                  rw [show k + 1 + (i - k) = i + 1 by omega] at own
                  obtain ⟨g4, cap4, hv4, -, -⟩ := own.form (Nat.succ_pos _)
                  injection hv4 with hA4 _ _
                  subst hA4
                  go_roundw
                  case rel => exact ⟨i + 1, g4, _, by omega, by go_num, by congr 1; omega, by rw [HIN.out, HR2.out]; exact own_base own OB.lt, PB.next J6, OB.next J6, bel_then K J6⟩
                  case measure => simp [intOf]; omega
            · have HPE := Lib.hid (HPT.out hlt2)
              have hkq := HKQ.out
              clear HPT HPF y0 y1 y2 hgt hlt2
              go_wp2_with fail
              go_roundw
              case rel => exact ⟨q, by omega, rfl, HPE, HHB.out⟩
              case measure => simp [intOf]; omega
      · obtain rfl : i = n3 := by omega
        rw [List.take_of_length_le (by rw [HL.out]; exact Nat.le_refl _)] at own
        obtain ⟨R, hR⟩ : ∃ R, sortR lessR d.done = R := ⟨_, rfl⟩
        rw [hR] at own HRM
        have HRL := Lib.hid (show R.length = i by rw [← hR, sortR_length]; exact HL.out)
        have hO := OB.own (base := w.heap.size + 1) (s := 1) (n := 0) (Nat.le_refl _) rfl (by simp [maxLen])
        have hne : ¬ OwnB (some ⟨w.heap.size + 1, 0, none⟩) g := fun hb => by
          have h5 : w.heap.size + 1 = g := (by simpa [OwnB, Value.ownBlock] using hb)
          have h6 := (own_top own (b := g) (by simp [OwnB, Value.ownBlock])).1
          omega
        clear hR
        go_wp2_with fail
        clear pc PB hpb
        obtain ⟨wo, hwo⟩ : ∃ wo : World, wo = wr := ⟨_, rfl⟩
        subst hwo
        go_loopw [4, 8] (fun v iv wr => ∃ (t : Nat) (A' : Option Addr) (cz : Nat), t ≤ i ∧ iv = .int .i64 (t : Int) ∧ v = .slice A' t cz ∧ wr.ownsRow (w.heap.size + 1) 3 1 (.slice A' t cz) t (ints ((R.take t).map DeskRow.number)) ∧ wr.ownsRow (w.heap.size + 2) 54 3 (.slice (some ⟨g, 0, none⟩) i c') i (R.flatMap DeskRow.enc) ∧ (¬ OwnB A' g) ∧ wo.heap.size ≤ wr.heap.size ∧ Below w.heap.size w wr) (fun _ iv _ => i - (intOf iv).toNat)
        case atStart => exact ⟨0, _, 0, Nat.zero_le _, rfl, rfl, hO, own, hne, Nat.le_refl _, K⟩
        case round =>
          obtain ⟨t, A', cz, ht, rfl, rfl, ow, orow, hap, hzr, hb⟩ := hrel
          by_cases hlt3 : t < i
          · have htR : t < R.length := by rw [HRL.out]; exact hlt3
            obtain ⟨bb, off, ebb, hkx, x0, x1, x2⟩ := (Sees.of_own orow).elem3 (fun _ => rfl) hlt3
            injection ebb with ebb
            injection ebb with e1 e2
            subst e1 e2
            simp only [Nat.zero_add] at x0 x1 x2
            have HN := Lib.hid (nums_next R htR)
            have hblt := World.block_lt_of_cell? wr _ x0
            have hnp : (t : Int) < (i : Int) := by omega
            have hgz := (own_top orow (b := g) (by simp [OwnB, Value.ownBlock])).2
            have hzo := OB.lt
            go_wp2_with (at_builtin; go_loud (refine wpList_pushNew rfl _ _ _ rfl Try.underlying22 info_int rfl (by decide) rfl ow rfl (by simp) (by rfl) (by rfl) (by omega) (by decide) (by omega) ?_); intro A9 c9 w9 o9 h9 b9 q9)
            go_roundw
            case rel => exact ⟨t + 1, A9, c9, by omega, by go_num, rfl, by rw [HN.out]; simpa [ints] using o9, own_only orow h9 (fun b' hb' hb2 => by have h5 : g = b' := (by simpa [OwnB, Value.ownBlock] using hb'); subst h5; exact hap hb2), (fun hb' => (q9 g hb').elim hap (fun h5 => by omega)), by have h8 := h9.size; omega, hb.trans (b9.mono (by omega))⟩
            case measure => simp [intOf]; omega
          · obtain rfl : t = i := by omega
            go_wp2_with fail
            go_ret2
            rw [HRM.out]
            have e1 : R.take t = R := List.take_of_length_le (by rw [HRL.out]; exact Nat.le_refl _)
            rw [e1] at ow
            have e2 : (R.map DeskRow.number).length = t := by rw [List.length_map]; exact HRL.out
            exact ⟨A', cz, by show Ending.returned (.tuple #[.slice A' t cz, .bool true]) = .returned (.tuple #[.slice A' (R.map DeskRow.number).length cz, .bool true]); rw [e2], by show wr.ownsRow w.heap.size 3 1 (.slice A' (R.map DeskRow.number).length cz) (R.map DeskRow.number).length (ints (R.map DeskRow.number)); rw [e2]; exact own_low ow (by omega), hb⟩

end Go.Proofs.Ytkeffhnkhmalpaa
