/- Lines sorted, by the program and by the reference. -/
import Derived.Test.YtbcblmbpjecilaaGreatDoorSorted
namespace Go.Proofs.YtbcblmbpjecilaaGreatDoor
open Go.RowKit

/-- Lines in memory of the call's own. -/
def GivesLn (w : World) (R : List ReportLine) (e : Ending) (w' : World) : Prop := ∃ A c, e = .returned (.slice A R.length c) ∧ w'.ownsRow w.heap.size 41 4 (.slice A R.length c) R.length (R.flatMap ReportLine.enc) ∧ Below w.heap.size w w'
def sortL (xs : List ReportLine) : List ReportLine := sortR lessL xs
theorem sortL_eq (xs : List ReportLine) : sortR (ltOf' cfL) xs = sortL xs := by
  unfold sortL
  rw [show (ltOf' cfL : ReportLine → ReportLine → Bool) = lessL from funext fun x => funext fun y => lessL_eq x y]
theorem givesLn_of {w w' : World} {R : List ReportLine} {A : Option Addr} {n c : Nat} (hl : R.length = n) (own : w'.ownsRow w.heap.size 41 4 (.slice A n c) n (R.flatMap ReportLine.enc)) (K : Below w.heap.size w w') : GivesLn w R (.returned (.slice A n c)) w' := by
  subst hl
  exact ⟨A, c, rfl, own, K⟩
theorem line_all (xs : List ReportLine) : (xs.flatMap ReportLine.enc).all Value.oneCell' = true := by
  rw [List.all_eq_true]
  intro v hv
  obtain ⟨x, _, h⟩ := List.mem_flatMap.1 hv
  simp only [ReportLine.enc, List.mem_cons, List.not_mem_nil, or_false] at h
  rcases h with rfl | rfl | rfl | rfl <;> rfl
theorem Sees.drop_ {α : Type} {enc : α → List Value} {w : World} {lo s n b : Nat} {xs : List α} (h : Sees w lo s (some ⟨b, 0, none⟩) n (xs.flatMap enc)) (hs : 0 < s) (henc : ∀ x, (enc x).length = s) (k : Nat) (hk : k ≤ n) : Sees w lo s (some ⟨b, k * s, none⟩) (n - k) ((xs.drop k).flatMap enc) := by
  have hl := h.count hs henc
  refine ⟨by rw [flatMap_len _ (fun x _ => henc x), List.length_drop, hl], fun h0 => ?_⟩
  obtain ⟨b', off', e, h1, h2, h3⟩ := h.at' (by omega)
  obtain ⟨rfl, rfl⟩ : b = b' ∧ 0 = off' := by simpa using e
  refine ⟨b, k * s, rfl, h1, h2, fun j u hu => ?_⟩
  have hj : j < (n - k) * s := by
    have := (List.getElem?_eq_some_iff.1 hu).1
    rwa [flatMap_len _ (fun x _ => henc x), List.length_drop, hl] at this
  have h4 := h3 (k * s + j) u (by
    have e1 : xs.flatMap enc = (xs.take k).flatMap enc ++ (xs.drop k).flatMap enc := by rw [← List.flatMap_append, List.take_append_drop]
    rw [e1, List.getElem?_append_right (by rw [flatMap_len _ (fun x _ => henc x), List.length_take]; have : min k xs.length = k := by omega
                                           rw [this]; omega), flatMap_len _ (fun x _ => henc x), List.length_take, show min k xs.length = k by omega, Nat.add_sub_cancel_left, hu])
  rwa [Nat.zero_add] at h4

set_option maxRecDepth 100000 in
set_option maxHeartbeats 1000000 in
theorem sortedLines_any (A : Option Addr) (n c : Nat) (xs : List ReportLine) (w : World) (hx : Sees w 0 4 A n (xs.flatMap ReportLine.enc)) (hn : n ≤ 12) :
    Calls Tryz.prog 33 #[.slice A n c] w (GivesLn w (sortL xs)) := by
  have hl := hx.count (by decide) (fun _ => rfl)
  have HL := Lib.hid (show (sortL xs).length = n by rw [← sortL_eq, sortR_length]; exact hl)
  have K0 : Below w.heap.size w (w.alloc (.cells #[] 41)) := (Below.refl _ _).alloc (Nat.le_refl _) _
  have O0 := own_empty w 41 4
  go_enter Tryz.func33, Tryz.ntmps33
  go_wp2_with (at_builtin; go_loud (refine wpList_cat rfl _ _ _ rfl Tryz.underlying30 info_impl_ReportLine rfl (by decide) rfl O0 rfl (hx.next K0) (line_all _) (by omega) (by omega) (by decide) (by simp) ?_); intro A1 c1 w1 o1 h1 b1 q1)
  simp only [Nat.zero_add, List.nil_append] at o1
  have K1 := K0.trans b1
  refine (SortFunc_ReportLine 50 #[] cfL (fun _ => True) _ _ n c1 A1 xs _ o1 hn sortedLines1_compares (fun _ _ => trivial)).mono ?_
  rintro e w2 ⟨rfl, o2, h2⟩
  have K2 := K1.trans (h2.below (fun k hk => (own_top o1 hk).1) K1.size)
  rw [sortL_eq] at o2
  go_wp2_with fail
  go_ret
  exact givesLn_of HL.out o2 K2

set_option maxRecDepth 100000 in
set_option maxHeartbeats 8000000 in
theorem l26Sort_any (A : Option Addr) (n c : Nat) (xs : List ReportLine) (w : World) (hx : Sees w 0 4 A n (xs.flatMap ReportLine.enc)) (hn : n ≤ 12) :
    Calls Tryz.prog 35 #[.slice A n c] w (GivesLn w (sortL xs)) := by
  have hl := hx.count (by decide) (fun _ => rfl)
  have HL := Lib.hid hl
  have K0 : Below w.heap.size w (w.alloc (.cells #[] 41)) := (Below.refl _ _).alloc (Nat.le_refl _) _
  have O0 := own_empty w 41 4
  clear hl
  go_enter Tryz.func35, Tryz.ntmps35
  go_wp2_with fail
  go_loopw [3, 4] (fun v iv wr => ∃ (i g c' : Nat), i ≤ n ∧ iv = .int .i64 (i : Int) ∧ v = .slice (some ⟨g, 0, none⟩) i c' ∧ wr.ownsRow w.heap.size 41 4 (.slice (some ⟨g, 0, none⟩) i c') i ((sortL (xs.take i)).flatMap ReportLine.enc) ∧ Below w.heap.size w wr) (fun _ iv _ => n - (intOf iv).toNat)
  case atStart => exact ⟨0, _, _, Nat.zero_le _, rfl, rfl, O0, K0⟩
  case round =>
    obtain ⟨i, g, c', hi, rfl, rfl, own, K⟩ := hrel
    clear O0 K0
    by_cases hlt : i < n
    · have hix : i < xs.length := by rw [HL.out]; exact hlt
      have HIN := Lib.hid (show sortL (xs.take (i + 1)) = insR lessL (sortL (xs.take i)) xs[i] from sortR_next lessL hix)
      have HYL := Lib.hid (show (sortL (xs.take i)).length = i by unfold sortL; rw [sortR_length, List.length_take]; omega)
      obtain ⟨bx, ox, rfl, hkx, x0, x1, x2, x3⟩ := (hx.next K).elem4 (fun _ => rfl) hlt
      have hbx := World.block_lt_of_cell? wr _ x0
      obtain ⟨ys, hys⟩ : ∃ ys, sortL (xs.take i) = ys := ⟨_, rfl⟩
      rw [hys] at own HIN HYL
      obtain ⟨x, hxi⟩ : ∃ x, xs[i] = x := ⟨_, rfl⟩
      rw [hxi] at HIN
      rw [show xs[i] = x from hxi] at x0 x1 x2 x3
      have HXI := Lib.hid hxi
      clear hys hxi
      obtain ⟨hic, hgb⟩ : i ≤ c' ∧ g < wr.heap.size := by
        rcases own_row own with ⟨h, _⟩ | ⟨g', rest, h1, h2, h3, h4, h5, h6⟩
        · cases h
        · obtain rfl : g = g' := by simpa using h1
          exact ⟨h5, h3.lt⟩
      go_wp2_with fail
      obtain ⟨wo, hwo⟩ : ∃ wo : World, wo = wr := ⟨_, rfl⟩
      subst hwo
      go_loopw [5] (fun kv wx => ∃ k : Nat, k ≤ i ∧ kv = .int .i64 (k : Int) ∧ Hid (posR lessL ys x ys.length = posR lessL ys x k) ∧ Below wo.heap.size wo wx) (fun kv _ => (intOf kv).toNat)
      case atStart => exact ⟨i, Nat.le_refl _, rfl, Lib.hid (by rw [HYL.out]), Below.refl _ _⟩
      case round =>
        obtain ⟨k, hk, rfl, HP, hb⟩ := hrel
        replace own := own_below own hb
        replace K := bel_then K hb
        replace x0 := (hb.cell (p := ⟨bx, ox + i * 4, none⟩) hbx).trans x0
        replace x1 := (hb.cell (p := ⟨bx, ox + i * 4 + 1, none⟩) hbx).trans x1
        replace x2 := (hb.cell (p := ⟨bx, ox + i * 4 + 2, none⟩) hbx).trans x2
        replace x3 := (hb.cell (p := ⟨bx, ox + i * 4 + 3, none⟩) hbx).trans x3
        have hbx0 := hbx
        replace hbx := Nat.lt_of_lt_of_le hbx hb.size
        have HHB := Lib.hid hb
        clear hb
        rcases Nat.eq_zero_or_pos k with hk0 | hk0
        · have HPE := Lib.hid (show posR lessL ys x ys.length = k by rw [HP.out, hk0]; rfl)
          have hnot : ¬ 0 < k := by omega
          clear HP hk0
          go_wp2_with fail
          go_quiet (fail)
          have bq := (Quiet.mk wr nq).below wr.heap.size
          replace own := own_below own bq
          replace K := bel_then K bq
          replace x0 := (bq.cell (p := ⟨bx, ox + i * 4, none⟩) hbx).trans x0
          replace x1 := (bq.cell (p := ⟨bx, ox + i * 4 + 1, none⟩) hbx).trans x1
          replace x2 := (bq.cell (p := ⟨bx, ox + i * 4 + 2, none⟩) hbx).trans x2
          replace x3 := (bq.cell (p := ⟨bx, ox + i * 4 + 3, none⟩) hbx).trans x3
          replace hbx := Nat.lt_of_lt_of_le hbx bq.size
          clear bq
          generalize wr.drewN nq = wv at *
          have HR2 := Lib.hid (show (insR lessL ys x).flatMap ReportLine.enc = (ys.take k).flatMap ReportLine.enc ++ [.string x.name, .string x.club, .int .i64 x.status, .int .i64 x.time] ++ (ys.drop k).flatMap ReportLine.enc by
            rw [insR_at lessL HPE.out, List.flatMap_append, List.flatMap_cons, List.append_assoc]; rfl)
          have hpre := (Sees.of_own own).take_ (by decide) (fun _ => rfl) k hk
          by_cases hck : c' = k
          · have hsuf : Sees wv 0 4 (some ⟨g, 0, none⟩) 0 ((ys.drop k).flatMap ReportLine.enc) := by
              rw [List.drop_of_length_le (by rw [HYL.out]; omega)]; exact Sees.nil _ _ _ _
            have hkc : k = c' := hck.symm
            subst hkc
            clear own
            go_wp2_with fail
            have J1 := (Quiet.one wv).below wv.heap.size
            refine wp_region_held_drew (S := fun w' => w'.cell? ⟨bx, ox + i * 4, none⟩ = some (.string x.name) ∧ w'.cell? ⟨bx, ox + i * 4 + 1, none⟩ = some (.string x.club) ∧ w'.cell? ⟨bx, ox + i * 4 + 2, none⟩ = some (.int .i64 x.status) ∧ w'.cell? ⟨bx, ox + i * 4 + 3, none⟩ = some (.int .i64 x.time)) (by kernel_rfl) (⟨(J1.cell (p := ⟨bx, ox + i * 4, none⟩) hbx).trans x0, (J1.cell (p := ⟨bx, ox + i * 4 + 1, none⟩) hbx).trans x1, (J1.cell (p := ⟨bx, ox + i * 4 + 2, none⟩) hbx).trans x2, (J1.cell (p := ⟨bx, ox + i * 4 + 3, none⟩) hbx).trans x3⟩) (fun hHeld => ?_)
            generalize wv.drew = wi1 at *
            refine wpAnyH_take (i := 1) (v := ?_) rfl (by kernel_rfl) (by kernel_rfl) (by kernel_rfl) (fun _ _ _ h => h) (Or.inl ⟨by rfl, ?_⟩) (by assumption) ?_
            rotate_left 1
            · (intro w hSw; (try dsimp only at hSw); go_simp; try with_reducible rfl)
            (try simp only [Act.put, List.setIfInBounds_toArray, List.set_cons_zero, List.set_cons_succ, List.getElem_toArray, List.getElem_cons_zero, List.getElem_cons_succ])
            refine wpAnyH_take (i := 2) (v := ?_) rfl (by kernel_rfl) (by kernel_rfl) (by kernel_rfl) (fun _ _ _ h => h) (Or.inl ⟨by rfl, ?_⟩) (by assumption) ?_
            rotate_left 1
            · (intro w hSw; (try dsimp only at hSw); go_simp; try with_reducible rfl)
            (try simp only [Act.put, List.setIfInBounds_toArray, List.set_cons_zero, List.set_cons_succ, List.getElem_toArray, List.getElem_cons_zero, List.getElem_cons_succ])
            refine wpAnyH_take (i := 3) (v := ?_) rfl (by kernel_rfl) (by kernel_rfl) (by kernel_rfl) (fun _ _ _ h => h) (Or.inl ⟨by rfl, ?_⟩) (by assumption) ?_
            rotate_left 1
            · (intro w hSw; (try dsimp only at hSw); go_simp; try with_reducible rfl)
            (try simp only [Act.put, List.setIfInBounds_toArray, List.set_cons_zero, List.set_cons_succ, List.getElem_toArray, List.getElem_cons_zero, List.getElem_cons_succ])
            refine wpAnyH_take (i := 5) (v := ?_) rfl (by kernel_rfl) (by kernel_rfl) (by kernel_rfl) (fun _ _ _ h => h) (Or.inl ⟨by rfl, ?_⟩) (by assumption) ?_
            rotate_left 1
            · (intro w hSw; (try dsimp only at hSw); go_simp; try with_reducible rfl)
            (try simp only [Act.put, List.setIfInBounds_toArray, List.set_cons_zero, List.set_cons_succ, List.getElem_toArray, List.getElem_cons_zero, List.getElem_cons_succ])
            refine wpAnyH_take (i := 6) (v := ?_) rfl (by kernel_rfl) (by kernel_rfl) (by kernel_rfl) (fun _ _ _ h => h) (Or.inl ⟨by rfl, ?_⟩) (by assumption) ?_
            rotate_left 1
            · (intro w hSw; (try dsimp only at hSw); go_simp; try with_reducible rfl)
            (try simp only [Act.put, List.setIfInBounds_toArray, List.set_cons_zero, List.set_cons_succ, List.getElem_toArray, List.getElem_cons_zero, List.getElem_cons_succ])
            refine wpAnyH_take (i := 7) (v := ?_) rfl (by kernel_rfl) (by kernel_rfl) (by kernel_rfl) (fun _ _ _ h => h) (Or.inl ⟨by rfl, ?_⟩) (by assumption) ?_
            rotate_left 1
            · (intro w hSw; (try dsimp only at hSw); go_simp; try with_reducible rfl)
            (try simp only [Act.put, List.setIfInBounds_toArray, List.set_cons_zero, List.set_cons_succ, List.getElem_toArray, List.getElem_cons_zero, List.getElem_cons_succ])
            refine wpAnyH_take (i := 8) (v := ?_) rfl (by kernel_rfl) (by kernel_rfl) (by kernel_rfl) (fun _ _ _ h => h) (Or.inl ⟨by rfl, ?_⟩) (by assumption) ?_
            rotate_left 1
            · (intro w hSw; (try dsimp only at hSw); go_simp; try with_reducible rfl)
            (try simp only [Act.put, List.setIfInBounds_toArray, List.set_cons_zero, List.set_cons_succ, List.getElem_toArray, List.getElem_cons_zero, List.getElem_cons_succ])
            refine wpAnyH_take (i := 11) (v := ?_) rfl (by kernel_rfl) (by kernel_rfl) (by kernel_rfl) (fun _ _ _ h => h) (Or.inl ⟨by rfl, ?_⟩) (by assumption) ?_
            rotate_left 1
            · (intro w hSw; (try dsimp only at hSw); go_simp; try with_reducible rfl)
            (try simp only [Act.put, List.setIfInBounds_toArray, List.set_cons_zero, List.set_cons_succ, List.getElem_toArray, List.getElem_cons_zero, List.getElem_cons_succ])
            refine wpAnyH_take (i := 12) (v := ?_) rfl (by kernel_rfl) (by kernel_rfl) (by kernel_rfl) (fun _ _ _ h => h) (Or.inl ⟨by rfl, ?_⟩) (by assumption) ?_
            rotate_left 1
            · (intro w hSw; (try dsimp only at hSw); go_simp; try with_reducible rfl)
            (try simp only [Act.put, List.setIfInBounds_toArray, List.set_cons_zero, List.set_cons_succ, List.getElem_toArray, List.getElem_cons_zero, List.getElem_cons_succ])
            refine wpAnyH_take (i := 13) (v := ?_) rfl (by kernel_rfl) (by kernel_rfl) (by kernel_rfl) (fun _ _ _ h => h) (Or.inl ⟨by rfl, ?_⟩) (by assumption) ?_
            rotate_left 1
            · (intro w hSw; (try dsimp only at hSw); go_simp; try with_reducible rfl)
            (try simp only [Act.put, List.setIfInBounds_toArray, List.set_cons_zero, List.set_cons_succ, List.getElem_toArray, List.getElem_cons_zero, List.getElem_cons_succ])
            refine wpAnyH_ready (rs := [0, 9]) (by kernel_rfl) (by simp) ?_
            refine AllReadyH.cons rfl (fun K hK => ?_) ?_
            · go_simp
              have U2 : Below wi1.heap.size wi1 (wi1.alloc (.cells #[] 41)) := (Below.refl _ _).alloc (Nat.le_refl _) _
              have J2 := bel_then J1 U2
              refine hK.out _ _ (⟨(J2.cell (p := ⟨bx, ox + i * 4, none⟩) hbx).trans x0, (J2.cell (p := ⟨bx, ox + i * 4 + 1, none⟩) hbx).trans x1, (J2.cell (p := ⟨bx, ox + i * 4 + 2, none⟩) hbx).trans x2, (J2.cell (p := ⟨bx, ox + i * 4 + 3, none⟩) hbx).trans x3⟩) (fun hHeld => ?_)
              clear hK K
              (try simp only [Act.put, List.setIfInBounds_toArray, List.set_cons_zero, List.set_cons_succ, List.getElem_toArray, List.getElem_cons_zero])
              have own := own_base (own_empty wi1 41 4) (show wv.heap.size ≤ wi1.heap.size from J1.size)
              generalize (wi1.alloc (.cells #[] 41)) = wi2 at *
              have ownP := own
              refine wpAnyH_ready (rs := [4, 9]) (by kernel_rfl) (by simp) ?_
              refine AllReadyH.cons rfl (fun K hK => ?_) ?_
              · refine step_cat rfl _ _ _ (by rfl) Tryz.underlying30 info_impl_ReportLine rfl (by decide) (by rfl) own (by rfl) (m := k) (hpre.next J2) (line_all _) (by omega) (by omega) (by decide) (by have := J2.size; omega) ?_
                intro A3 c3 wi3 own3 o3 b3 q3
                have J3 := J2.trans b3
                refine hK.out _ _ (⟨(J3.cell (p := ⟨bx, ox + i * 4, none⟩) hbx).trans x0, (J3.cell (p := ⟨bx, ox + i * 4 + 1, none⟩) hbx).trans x1, (J3.cell (p := ⟨bx, ox + i * 4 + 2, none⟩) hbx).trans x2, (J3.cell (p := ⟨bx, ox + i * 4 + 3, none⟩) hbx).trans x3⟩) (fun hHeld => ?_)
                clear hK K
                (try simp only [Act.put, List.setIfInBounds_toArray, List.set_cons_zero, List.set_cons_succ, List.getElem_toArray, List.getElem_cons_zero, List.getElem_cons_succ])
                (try simp only [Nat.zero_add])
                simp only [Nat.zero_add, List.nil_append] at own3
                replace own := own3
                clear own3
                replace ownP := own
                refine wpAnyH_ready (rs := [9]) (by kernel_rfl) (by simp) ?_
                refine AllReadyH.cons rfl (fun K hK => ?_) AllReadyH.nil
                go_simp
                have U4 : Below wi3.heap.size wi3 (wi3.alloc (.cells #[.string x.name, .string x.club, .int .i64 x.status, .int .i64 x.time] 41)) := (Below.refl _ _).alloc (Nat.le_refl _) _
                have J4 := bel_then J3 U4
                refine hK.out _ _ (⟨(J4.cell (p := ⟨bx, ox + i * 4, none⟩) hbx).trans x0, (J4.cell (p := ⟨bx, ox + i * 4 + 1, none⟩) hbx).trans x1, (J4.cell (p := ⟨bx, ox + i * 4 + 2, none⟩) hbx).trans x2, (J4.cell (p := ⟨bx, ox + i * 4 + 3, none⟩) hbx).trans x3⟩) (fun hHeld => ?_)
                clear hK K
                (try simp only [Act.put, List.setIfInBounds_toArray, List.set_cons_zero, List.set_cons_succ, List.getElem_toArray, List.getElem_cons_zero, List.getElem_cons_succ])
                replace own := own_below own U4
                have box : Blk (wi3.alloc (.cells #[.string x.name, .string x.club, .int .i64 x.status, .int .i64 x.time] 41)) wi3.heap.size 41 [.string x.name, .string x.club, .int .i64 x.status, .int .i64 x.time] := Blk.at_ rfl
                have lb := box.lt
                have hne : ∀ b, OwnB A3 b → b ≠ wi3.heap.size := fun b hb => by have := (own_top ownP hb).2; omega
                generalize (wi3.alloc (.cells #[.string x.name, .string x.club, .int .i64 x.status, .int .i64 x.time] 41)) = wi4 at *
                replace ownP := own
                refine wpAnyH_ready (rs := [10]) (by kernel_rfl) (by simp) ?_
                refine AllReadyH.cons rfl (fun K hK => ?_) AllReadyH.nil
                refine step_cat rfl _ _ _ (by rfl) Tryz.underlying30 info_impl_ReportLine rfl (by decide) (by rfl) own (by rfl) (m := 1) (box.sees (s := 4) (Nat.zero_le _) rfl) (by simp [Value.oneCell']) (by omega) (by omega) (by decide) (by have := J4.size; omega) ?_
                intro A5 c5 wi5 own5 o5 b5 q5
                have J5 := J4.trans b5
                refine hK.out _ _ (⟨(J5.cell (p := ⟨bx, ox + i * 4, none⟩) hbx).trans x0, (J5.cell (p := ⟨bx, ox + i * 4 + 1, none⟩) hbx).trans x1, (J5.cell (p := ⟨bx, ox + i * 4 + 2, none⟩) hbx).trans x2, (J5.cell (p := ⟨bx, ox + i * 4 + 3, none⟩) hbx).trans x3⟩) (fun hHeld => ?_)
                clear hK K
                (try simp only [Act.put, List.setIfInBounds_toArray, List.set_cons_zero, List.set_cons_succ, List.getElem_toArray, List.getElem_cons_zero, List.getElem_cons_succ])
                replace own := own5
                clear own5
                refine wpAnyH_ready (rs := [14]) (by kernel_rfl) (by simp) ?_
                refine AllReadyH.cons rfl (fun K hK => ?_) AllReadyH.nil
                refine step_cat rfl _ _ _ (by rfl) Tryz.underlying30 info_impl_ReportLine rfl (by decide) (by rfl) own (by rfl) (m := 0) (hsuf.next J5) (line_all _) (by omega) (by omega) (by decide) (by have := J5.size; omega) ?_
                intro A6 c6 wi6 own6 o6 b6 q6
                have J6 := J5.trans b6
                refine hK.out _ _ (⟨(J6.cell (p := ⟨bx, ox + i * 4, none⟩) hbx).trans x0, (J6.cell (p := ⟨bx, ox + i * 4 + 1, none⟩) hbx).trans x1, (J6.cell (p := ⟨bx, ox + i * 4 + 2, none⟩) hbx).trans x2, (J6.cell (p := ⟨bx, ox + i * 4 + 3, none⟩) hbx).trans x3⟩) (fun hHeld => ?_)
                clear hK K
                (try simp only [Act.put, List.setIfInBounds_toArray, List.set_cons_zero, List.set_cons_succ, List.getElem_toArray, List.getElem_cons_zero, List.getElem_cons_succ])
                replace own := own6
                clear own6
                refine wpAnyH_take (i := 15) (v := ?_) rfl (by kernel_rfl) (by kernel_rfl) (by kernel_rfl) (fun _ _ _ h => h) (Or.inl ⟨by rfl, ?_⟩) (by assumption) ?_
                rotate_left 1
                · (intro w hSw; (try dsimp only at hSw); go_simp; try with_reducible rfl)
                (try simp only [Act.put, List.setIfInBounds_toArray, List.set_cons_zero, List.set_cons_succ, List.getElem_toArray, List.getElem_cons_zero, List.getElem_cons_succ])
                refine wpAnyH_done (by kernel_rfl) ?_ _
                go_wp2_with fail
                rw [show k + 1 + 0 = i + 1 by omega] at own
                obtain ⟨g4, cap4, hv4, -, -⟩ := own.form (Nat.succ_pos _)
                injection hv4 with hA4 _ _
                subst hA4
                go_roundw
                case rel => exact ⟨i + 1, g4, _, by omega, by go_num, by congr 1; omega, by rw [HIN.out, HR2.out]; exact own_base own K.size, bel_then K J6⟩
                case measure => simp [intOf]; omega
              refine AllReadyH.cons rfl (fun K hK => ?_) AllReadyH.nil
              · go_simp
                have U3 : Below wi2.heap.size wi2 (wi2.alloc (.cells #[.string x.name, .string x.club, .int .i64 x.status, .int .i64 x.time] 41)) := (Below.refl _ _).alloc (Nat.le_refl _) _
                have J3 := bel_then J2 U3
                refine hK.out _ _ (⟨(J3.cell (p := ⟨bx, ox + i * 4, none⟩) hbx).trans x0, (J3.cell (p := ⟨bx, ox + i * 4 + 1, none⟩) hbx).trans x1, (J3.cell (p := ⟨bx, ox + i * 4 + 2, none⟩) hbx).trans x2, (J3.cell (p := ⟨bx, ox + i * 4 + 3, none⟩) hbx).trans x3⟩) (fun hHeld => ?_)
                clear hK K
                (try simp only [Act.put, List.setIfInBounds_toArray, List.set_cons_zero, List.set_cons_succ, List.getElem_toArray, List.getElem_cons_zero, List.getElem_cons_succ])
                replace own := own_below own U3
                have box : Blk (wi2.alloc (.cells #[.string x.name, .string x.club, .int .i64 x.status, .int .i64 x.time] 41)) wi2.heap.size 41 [.string x.name, .string x.club, .int .i64 x.status, .int .i64 x.time] := Blk.at_ rfl
                have lb := box.lt
                have hne : ∀ b, OwnB (some ⟨wi1.heap.size, 0, none⟩) b → b ≠ wi2.heap.size := fun b hb => by have := (own_top ownP hb).2; omega
                generalize (wi2.alloc (.cells #[.string x.name, .string x.club, .int .i64 x.status, .int .i64 x.time] 41)) = wi3 at *
                replace ownP := own
                refine wpAnyH_ready (rs := [4]) (by kernel_rfl) (by simp) ?_
                refine AllReadyH.cons rfl (fun K hK => ?_) AllReadyH.nil
                refine step_cat rfl _ _ _ (by rfl) Tryz.underlying30 info_impl_ReportLine rfl (by decide) (by rfl) own (by rfl) (m := k) (hpre.next J3) (line_all _) (by omega) (by omega) (by decide) (by have := J3.size; omega) ?_
                intro A4 c4 wi4 own4 o4 b4 q4
                have J4 := J3.trans b4
                refine hK.out _ _ (⟨(J4.cell (p := ⟨bx, ox + i * 4, none⟩) hbx).trans x0, (J4.cell (p := ⟨bx, ox + i * 4 + 1, none⟩) hbx).trans x1, (J4.cell (p := ⟨bx, ox + i * 4 + 2, none⟩) hbx).trans x2, (J4.cell (p := ⟨bx, ox + i * 4 + 3, none⟩) hbx).trans x3⟩) (fun hHeld => ?_)
                clear hK K
                (try simp only [Act.put, List.setIfInBounds_toArray, List.set_cons_zero, List.set_cons_succ, List.getElem_toArray, List.getElem_cons_zero, List.getElem_cons_succ])
                (try simp only [Nat.zero_add])
                replace box := box.only o4 (fun h => hne _ h rfl)
                simp only [Nat.zero_add, List.nil_append] at own4
                replace own := own4
                clear own4
                replace ownP := own
                refine wpAnyH_ready (rs := [10]) (by kernel_rfl) (by simp) ?_
                refine AllReadyH.cons rfl (fun K hK => ?_) AllReadyH.nil
                refine step_cat rfl _ _ _ (by rfl) Tryz.underlying30 info_impl_ReportLine rfl (by decide) (by rfl) own (by rfl) (m := 1) (box.sees (s := 4) (Nat.zero_le _) rfl) (by simp [Value.oneCell']) (by omega) (by omega) (by decide) (by have := J4.size; omega) ?_
                intro A5 c5 wi5 own5 o5 b5 q5
                have J5 := J4.trans b5
                refine hK.out _ _ (⟨(J5.cell (p := ⟨bx, ox + i * 4, none⟩) hbx).trans x0, (J5.cell (p := ⟨bx, ox + i * 4 + 1, none⟩) hbx).trans x1, (J5.cell (p := ⟨bx, ox + i * 4 + 2, none⟩) hbx).trans x2, (J5.cell (p := ⟨bx, ox + i * 4 + 3, none⟩) hbx).trans x3⟩) (fun hHeld => ?_)
                clear hK K
                (try simp only [Act.put, List.setIfInBounds_toArray, List.set_cons_zero, List.set_cons_succ, List.getElem_toArray, List.getElem_cons_zero, List.getElem_cons_succ])
                replace own := own5
                clear own5
                refine wpAnyH_ready (rs := [14]) (by kernel_rfl) (by simp) ?_
                refine AllReadyH.cons rfl (fun K hK => ?_) AllReadyH.nil
                refine step_cat rfl _ _ _ (by rfl) Tryz.underlying30 info_impl_ReportLine rfl (by decide) (by rfl) own (by rfl) (m := 0) (hsuf.next J5) (line_all _) (by omega) (by omega) (by decide) (by have := J5.size; omega) ?_
                intro A6 c6 wi6 own6 o6 b6 q6
                have J6 := J5.trans b6
                refine hK.out _ _ (⟨(J6.cell (p := ⟨bx, ox + i * 4, none⟩) hbx).trans x0, (J6.cell (p := ⟨bx, ox + i * 4 + 1, none⟩) hbx).trans x1, (J6.cell (p := ⟨bx, ox + i * 4 + 2, none⟩) hbx).trans x2, (J6.cell (p := ⟨bx, ox + i * 4 + 3, none⟩) hbx).trans x3⟩) (fun hHeld => ?_)
                clear hK K
                (try simp only [Act.put, List.setIfInBounds_toArray, List.set_cons_zero, List.set_cons_succ, List.getElem_toArray, List.getElem_cons_zero, List.getElem_cons_succ])
                replace own := own6
                clear own6
                refine wpAnyH_take (i := 15) (v := ?_) rfl (by kernel_rfl) (by kernel_rfl) (by kernel_rfl) (fun _ _ _ h => h) (Or.inl ⟨by rfl, ?_⟩) (by assumption) ?_
                rotate_left 1
                · (intro w hSw; (try dsimp only at hSw); go_simp; try with_reducible rfl)
                (try simp only [Act.put, List.setIfInBounds_toArray, List.set_cons_zero, List.set_cons_succ, List.getElem_toArray, List.getElem_cons_zero, List.getElem_cons_succ])
                refine wpAnyH_done (by kernel_rfl) ?_ _
                go_wp2_with fail
                rw [show k + 1 + 0 = i + 1 by omega] at own
                obtain ⟨g4, cap4, hv4, -, -⟩ := own.form (Nat.succ_pos _)
                injection hv4 with hA4 _ _
                subst hA4
                go_roundw
                case rel => exact ⟨i + 1, g4, _, by omega, by go_num, by congr 1; omega, by rw [HIN.out, HR2.out]; exact own_base own K.size, bel_then K J6⟩
                case measure => simp [intOf]; omega
            refine AllReadyH.cons rfl (fun K hK => ?_) AllReadyH.nil
            · go_simp
              have U2 : Below wi1.heap.size wi1 (wi1.alloc (.cells #[.string x.name, .string x.club, .int .i64 x.status, .int .i64 x.time] 41)) := (Below.refl _ _).alloc (Nat.le_refl _) _
              have J2 := bel_then J1 U2
              refine hK.out _ _ (⟨(J2.cell (p := ⟨bx, ox + i * 4, none⟩) hbx).trans x0, (J2.cell (p := ⟨bx, ox + i * 4 + 1, none⟩) hbx).trans x1, (J2.cell (p := ⟨bx, ox + i * 4 + 2, none⟩) hbx).trans x2, (J2.cell (p := ⟨bx, ox + i * 4 + 3, none⟩) hbx).trans x3⟩) (fun hHeld => ?_)
              clear hK K
              (try simp only [Act.put, List.setIfInBounds_toArray, List.set_cons_zero, List.set_cons_succ, List.getElem_toArray, List.getElem_cons_zero, List.getElem_cons_succ])
              have box : Blk (wi1.alloc (.cells #[.string x.name, .string x.club, .int .i64 x.status, .int .i64 x.time] 41)) wi1.heap.size 41 [.string x.name, .string x.club, .int .i64 x.status, .int .i64 x.time] := Blk.at_ rfl
              have lb := box.lt
              generalize (wi1.alloc (.cells #[.string x.name, .string x.club, .int .i64 x.status, .int .i64 x.time] 41)) = wi2 at *
              refine wpAnyH_ready (rs := [0]) (by kernel_rfl) (by simp) ?_
              refine AllReadyH.cons rfl (fun K hK => ?_) AllReadyH.nil
              go_simp
              have U3 : Below wi2.heap.size wi2 (wi2.alloc (.cells #[] 41)) := (Below.refl _ _).alloc (Nat.le_refl _) _
              have J3 := bel_then J2 U3
              refine hK.out _ _ (⟨(J3.cell (p := ⟨bx, ox + i * 4, none⟩) hbx).trans x0, (J3.cell (p := ⟨bx, ox + i * 4 + 1, none⟩) hbx).trans x1, (J3.cell (p := ⟨bx, ox + i * 4 + 2, none⟩) hbx).trans x2, (J3.cell (p := ⟨bx, ox + i * 4 + 3, none⟩) hbx).trans x3⟩) (fun hHeld => ?_)
              clear hK K
              (try simp only [Act.put, List.setIfInBounds_toArray, List.set_cons_zero, List.set_cons_succ, List.getElem_toArray, List.getElem_cons_zero])
              replace box := box.next U3
              have own := own_base (own_empty wi2 41 4) (show wv.heap.size ≤ wi2.heap.size from J2.size)
              have hne : ∀ b, OwnB (some ⟨wi2.heap.size, 0, none⟩) b → b ≠ wi1.heap.size := fun b hb => by have h4 : wi2.heap.size = b := (by simpa [OwnB, Value.ownBlock] using hb); have h5 := lb; omega
              generalize (wi2.alloc (.cells #[] 41)) = wi3 at *
              have ownP := own
              refine wpAnyH_ready (rs := [4]) (by kernel_rfl) (by simp) ?_
              refine AllReadyH.cons rfl (fun K hK => ?_) AllReadyH.nil
              refine step_cat rfl _ _ _ (by rfl) Tryz.underlying30 info_impl_ReportLine rfl (by decide) (by rfl) own (by rfl) (m := k) (hpre.next J3) (line_all _) (by omega) (by omega) (by decide) (by have := J3.size; omega) ?_
              intro A4 c4 wi4 own4 o4 b4 q4
              have J4 := J3.trans b4
              refine hK.out _ _ (⟨(J4.cell (p := ⟨bx, ox + i * 4, none⟩) hbx).trans x0, (J4.cell (p := ⟨bx, ox + i * 4 + 1, none⟩) hbx).trans x1, (J4.cell (p := ⟨bx, ox + i * 4 + 2, none⟩) hbx).trans x2, (J4.cell (p := ⟨bx, ox + i * 4 + 3, none⟩) hbx).trans x3⟩) (fun hHeld => ?_)
              clear hK K
              (try simp only [Act.put, List.setIfInBounds_toArray, List.set_cons_zero, List.set_cons_succ, List.getElem_toArray, List.getElem_cons_zero, List.getElem_cons_succ])
              (try simp only [Nat.zero_add])
              replace box := box.only o4 (fun h => hne _ h rfl)
              simp only [Nat.zero_add, List.nil_append] at own4
              replace own := own4
              clear own4
              replace ownP := own
              refine wpAnyH_ready (rs := [10]) (by kernel_rfl) (by simp) ?_
              refine AllReadyH.cons rfl (fun K hK => ?_) AllReadyH.nil
              refine step_cat rfl _ _ _ (by rfl) Tryz.underlying30 info_impl_ReportLine rfl (by decide) (by rfl) own (by rfl) (m := 1) (box.sees (s := 4) (Nat.zero_le _) rfl) (by simp [Value.oneCell']) (by omega) (by omega) (by decide) (by have := J4.size; omega) ?_
              intro A5 c5 wi5 own5 o5 b5 q5
              have J5 := J4.trans b5
              refine hK.out _ _ (⟨(J5.cell (p := ⟨bx, ox + i * 4, none⟩) hbx).trans x0, (J5.cell (p := ⟨bx, ox + i * 4 + 1, none⟩) hbx).trans x1, (J5.cell (p := ⟨bx, ox + i * 4 + 2, none⟩) hbx).trans x2, (J5.cell (p := ⟨bx, ox + i * 4 + 3, none⟩) hbx).trans x3⟩) (fun hHeld => ?_)
              clear hK K
              (try simp only [Act.put, List.setIfInBounds_toArray, List.set_cons_zero, List.set_cons_succ, List.getElem_toArray, List.getElem_cons_zero, List.getElem_cons_succ])
              replace own := own5
              clear own5
              refine wpAnyH_ready (rs := [14]) (by kernel_rfl) (by simp) ?_
              refine AllReadyH.cons rfl (fun K hK => ?_) AllReadyH.nil
              refine step_cat rfl _ _ _ (by rfl) Tryz.underlying30 info_impl_ReportLine rfl (by decide) (by rfl) own (by rfl) (m := 0) (hsuf.next J5) (line_all _) (by omega) (by omega) (by decide) (by have := J5.size; omega) ?_
              intro A6 c6 wi6 own6 o6 b6 q6
              have J6 := J5.trans b6
              refine hK.out _ _ (⟨(J6.cell (p := ⟨bx, ox + i * 4, none⟩) hbx).trans x0, (J6.cell (p := ⟨bx, ox + i * 4 + 1, none⟩) hbx).trans x1, (J6.cell (p := ⟨bx, ox + i * 4 + 2, none⟩) hbx).trans x2, (J6.cell (p := ⟨bx, ox + i * 4 + 3, none⟩) hbx).trans x3⟩) (fun hHeld => ?_)
              clear hK K
              (try simp only [Act.put, List.setIfInBounds_toArray, List.set_cons_zero, List.set_cons_succ, List.getElem_toArray, List.getElem_cons_zero, List.getElem_cons_succ])
              replace own := own6
              clear own6
              refine wpAnyH_take (i := 15) (v := ?_) rfl (by kernel_rfl) (by kernel_rfl) (by kernel_rfl) (fun _ _ _ h => h) (Or.inl ⟨by rfl, ?_⟩) (by assumption) ?_
              rotate_left 1
              · (intro w hSw; (try dsimp only at hSw); go_simp; try with_reducible rfl)
              (try simp only [Act.put, List.setIfInBounds_toArray, List.set_cons_zero, List.set_cons_succ, List.getElem_toArray, List.getElem_cons_zero, List.getElem_cons_succ])
              refine wpAnyH_done (by kernel_rfl) ?_ _
              go_wp2_with fail
              rw [show k + 1 + 0 = i + 1 by omega] at own
              obtain ⟨g4, cap4, hv4, -, -⟩ := own.form (Nat.succ_pos _)
              injection hv4 with hA4 _ _
              subst hA4
              go_roundw
              case rel => exact ⟨i + 1, g4, _, by omega, by go_num, by congr 1; omega, by rw [HIN.out, HR2.out]; exact own_base own K.size, bel_then K J6⟩
              case measure => simp [intOf]; omega
          · have hsuf := (Sees.of_own own).drop_ (by decide) (fun _ => rfl) k hk
            have hk1 : k ≤ c' := by omega
            clear own
            go_wp2_with fail
            have J1 := (Quiet.one wv).below wv.heap.size
            refine wp_region_held_drew (S := fun w' => w'.cell? ⟨bx, ox + i * 4, none⟩ = some (.string x.name) ∧ w'.cell? ⟨bx, ox + i * 4 + 1, none⟩ = some (.string x.club) ∧ w'.cell? ⟨bx, ox + i * 4 + 2, none⟩ = some (.int .i64 x.status) ∧ w'.cell? ⟨bx, ox + i * 4 + 3, none⟩ = some (.int .i64 x.time)) (by kernel_rfl) (⟨(J1.cell (p := ⟨bx, ox + i * 4, none⟩) hbx).trans x0, (J1.cell (p := ⟨bx, ox + i * 4 + 1, none⟩) hbx).trans x1, (J1.cell (p := ⟨bx, ox + i * 4 + 2, none⟩) hbx).trans x2, (J1.cell (p := ⟨bx, ox + i * 4 + 3, none⟩) hbx).trans x3⟩) (fun hHeld => ?_)
            generalize wv.drew = wi1 at *
            refine wpAnyH_take (i := 1) (v := ?_) rfl (by kernel_rfl) (by kernel_rfl) (by kernel_rfl) (fun _ _ _ h => h) (Or.inl ⟨by rfl, ?_⟩) (by assumption) ?_
            rotate_left 1
            · (intro w hSw; (try dsimp only at hSw); go_simp; try with_reducible rfl)
            (try simp only [Act.put, List.setIfInBounds_toArray, List.set_cons_zero, List.set_cons_succ, List.getElem_toArray, List.getElem_cons_zero, List.getElem_cons_succ])
            refine wpAnyH_take (i := 2) (v := ?_) rfl (by kernel_rfl) (by kernel_rfl) (by kernel_rfl) (fun _ _ _ h => h) (Or.inl ⟨by rfl, ?_⟩) (by assumption) ?_
            rotate_left 1
            · (intro w hSw; (try dsimp only at hSw); go_simp; try with_reducible rfl)
            (try simp only [Act.put, List.setIfInBounds_toArray, List.set_cons_zero, List.set_cons_succ, List.getElem_toArray, List.getElem_cons_zero, List.getElem_cons_succ])
            refine wpAnyH_take (i := 3) (v := ?_) rfl (by kernel_rfl) (by kernel_rfl) (by kernel_rfl) (fun _ _ _ h => h) (Or.inl ⟨by rfl, ?_⟩) (by assumption) ?_
            rotate_left 1
            · (intro w hSw; (try dsimp only at hSw); go_simp; try with_reducible rfl)
            (try simp only [Act.put, List.setIfInBounds_toArray, List.set_cons_zero, List.set_cons_succ, List.getElem_toArray, List.getElem_cons_zero, List.getElem_cons_succ])
            refine wpAnyH_take (i := 5) (v := ?_) rfl (by kernel_rfl) (by kernel_rfl) (by kernel_rfl) (fun _ _ _ h => h) (Or.inl ⟨by rfl, ?_⟩) (by assumption) ?_
            rotate_left 1
            · (intro w hSw; (try dsimp only at hSw); go_simp; try with_reducible rfl)
            (try simp only [Act.put, List.setIfInBounds_toArray, List.set_cons_zero, List.set_cons_succ, List.getElem_toArray, List.getElem_cons_zero, List.getElem_cons_succ])
            refine wpAnyH_take (i := 6) (v := ?_) rfl (by kernel_rfl) (by kernel_rfl) (by kernel_rfl) (fun _ _ _ h => h) (Or.inl ⟨by rfl, ?_⟩) (by assumption) ?_
            rotate_left 1
            · (intro w hSw; (try dsimp only at hSw); go_simp; try with_reducible rfl)
            (try simp only [Act.put, List.setIfInBounds_toArray, List.set_cons_zero, List.set_cons_succ, List.getElem_toArray, List.getElem_cons_zero, List.getElem_cons_succ])
            refine wpAnyH_take (i := 7) (v := ?_) rfl (by kernel_rfl) (by kernel_rfl) (by kernel_rfl) (fun _ _ _ h => h) (Or.inl ⟨by rfl, ?_⟩) (by assumption) ?_
            rotate_left 1
            · (intro w hSw; (try dsimp only at hSw); go_simp; try with_reducible rfl)
            (try simp only [Act.put, List.setIfInBounds_toArray, List.set_cons_zero, List.set_cons_succ, List.getElem_toArray, List.getElem_cons_zero, List.getElem_cons_succ])
            refine wpAnyH_take (i := 8) (v := ?_) rfl (by kernel_rfl) (by kernel_rfl) (by kernel_rfl) (fun _ _ _ h => h) (Or.inl ⟨by rfl, ?_⟩) (by assumption) ?_
            rotate_left 1
            · (intro w hSw; (try dsimp only at hSw); go_simp; try with_reducible rfl)
            (try simp only [Act.put, List.setIfInBounds_toArray, List.set_cons_zero, List.set_cons_succ, List.getElem_toArray, List.getElem_cons_zero, List.getElem_cons_succ])
            refine wpAnyH_take (i := 11) (v := ?_) rfl (by kernel_rfl) (by kernel_rfl) (by kernel_rfl) (fun _ _ _ h => h) (Or.inl ⟨by rfl, ?_⟩) (by assumption) ?_
            rotate_left 1
            · (intro w hSw; (try dsimp only at hSw); go_simp; try with_reducible rfl)
            (try simp only [Act.put, List.setIfInBounds_toArray, List.set_cons_zero, List.set_cons_succ, List.getElem_toArray, List.getElem_cons_zero, List.getElem_cons_succ])
            refine wpAnyH_take (i := 12) (v := ?_) rfl (by kernel_rfl) (by kernel_rfl) (by kernel_rfl) (fun _ _ _ h => h) (Or.inl ⟨by rfl, ?_⟩) (by assumption) ?_
            rotate_left 1
            · (intro w hSw; (try dsimp only at hSw); go_simp; try with_reducible rfl)
            (try simp only [Act.put, List.setIfInBounds_toArray, List.set_cons_zero, List.set_cons_succ, List.getElem_toArray, List.getElem_cons_zero, List.getElem_cons_succ])
            refine wpAnyH_take (i := 13) (v := ?_) rfl (by kernel_rfl) (by kernel_rfl) (by kernel_rfl) (fun _ _ _ h => h) (Or.inl ⟨by rfl, ?_⟩) (by assumption) ?_
            rotate_left 1
            · (intro w hSw; (try dsimp only at hSw); go_simp; try with_reducible rfl)
            (try simp only [Act.put, List.setIfInBounds_toArray, List.set_cons_zero, List.set_cons_succ, List.getElem_toArray, List.getElem_cons_zero, List.getElem_cons_succ])
            refine wpAnyH_ready (rs := [0, 9]) (by kernel_rfl) (by simp) ?_
            refine AllReadyH.cons rfl (fun K hK => ?_) ?_
            · go_simp
              have U2 : Below wi1.heap.size wi1 (wi1.alloc (.cells #[] 41)) := (Below.refl _ _).alloc (Nat.le_refl _) _
              have J2 := bel_then J1 U2
              refine hK.out _ _ (⟨(J2.cell (p := ⟨bx, ox + i * 4, none⟩) hbx).trans x0, (J2.cell (p := ⟨bx, ox + i * 4 + 1, none⟩) hbx).trans x1, (J2.cell (p := ⟨bx, ox + i * 4 + 2, none⟩) hbx).trans x2, (J2.cell (p := ⟨bx, ox + i * 4 + 3, none⟩) hbx).trans x3⟩) (fun hHeld => ?_)
              clear hK K
              (try simp only [Act.put, List.setIfInBounds_toArray, List.set_cons_zero, List.set_cons_succ, List.getElem_toArray, List.getElem_cons_zero])
              have own := own_base (own_empty wi1 41 4) (show wv.heap.size ≤ wi1.heap.size from J1.size)
              generalize (wi1.alloc (.cells #[] 41)) = wi2 at *
              have ownP := own
              refine wpAnyH_ready (rs := [4, 9]) (by kernel_rfl) (by simp) ?_
              refine AllReadyH.cons rfl (fun K hK => ?_) ?_
              · refine step_cat rfl _ _ _ (by rfl) Tryz.underlying30 info_impl_ReportLine rfl (by decide) (by rfl) own (by rfl) (m := k) (hpre.next J2) (line_all _) (by omega) (by omega) (by decide) (by have := J2.size; omega) ?_
                intro A3 c3 wi3 own3 o3 b3 q3
                have J3 := J2.trans b3
                refine hK.out _ _ (⟨(J3.cell (p := ⟨bx, ox + i * 4, none⟩) hbx).trans x0, (J3.cell (p := ⟨bx, ox + i * 4 + 1, none⟩) hbx).trans x1, (J3.cell (p := ⟨bx, ox + i * 4 + 2, none⟩) hbx).trans x2, (J3.cell (p := ⟨bx, ox + i * 4 + 3, none⟩) hbx).trans x3⟩) (fun hHeld => ?_)
                clear hK K
                (try simp only [Act.put, List.setIfInBounds_toArray, List.set_cons_zero, List.set_cons_succ, List.getElem_toArray, List.getElem_cons_zero, List.getElem_cons_succ])
                (try simp only [Nat.zero_add])
                simp only [Nat.zero_add, List.nil_append] at own3
                replace own := own3
                clear own3
                replace ownP := own
                refine wpAnyH_ready (rs := [9]) (by kernel_rfl) (by simp) ?_
                refine AllReadyH.cons rfl (fun K hK => ?_) AllReadyH.nil
                go_simp
                have U4 : Below wi3.heap.size wi3 (wi3.alloc (.cells #[.string x.name, .string x.club, .int .i64 x.status, .int .i64 x.time] 41)) := (Below.refl _ _).alloc (Nat.le_refl _) _
                have J4 := bel_then J3 U4
                refine hK.out _ _ (⟨(J4.cell (p := ⟨bx, ox + i * 4, none⟩) hbx).trans x0, (J4.cell (p := ⟨bx, ox + i * 4 + 1, none⟩) hbx).trans x1, (J4.cell (p := ⟨bx, ox + i * 4 + 2, none⟩) hbx).trans x2, (J4.cell (p := ⟨bx, ox + i * 4 + 3, none⟩) hbx).trans x3⟩) (fun hHeld => ?_)
                clear hK K
                (try simp only [Act.put, List.setIfInBounds_toArray, List.set_cons_zero, List.set_cons_succ, List.getElem_toArray, List.getElem_cons_zero, List.getElem_cons_succ])
                replace own := own_below own U4
                have box : Blk (wi3.alloc (.cells #[.string x.name, .string x.club, .int .i64 x.status, .int .i64 x.time] 41)) wi3.heap.size 41 [.string x.name, .string x.club, .int .i64 x.status, .int .i64 x.time] := Blk.at_ rfl
                have lb := box.lt
                have hne : ∀ b, OwnB A3 b → b ≠ wi3.heap.size := fun b hb => by have := (own_top ownP hb).2; omega
                generalize (wi3.alloc (.cells #[.string x.name, .string x.club, .int .i64 x.status, .int .i64 x.time] 41)) = wi4 at *
                replace ownP := own
                refine wpAnyH_ready (rs := [10]) (by kernel_rfl) (by simp) ?_
                refine AllReadyH.cons rfl (fun K hK => ?_) AllReadyH.nil
                refine step_cat rfl _ _ _ (by rfl) Tryz.underlying30 info_impl_ReportLine rfl (by decide) (by rfl) own (by rfl) (m := 1) (box.sees (s := 4) (Nat.zero_le _) rfl) (by simp [Value.oneCell']) (by omega) (by omega) (by decide) (by have := J4.size; omega) ?_
                intro A5 c5 wi5 own5 o5 b5 q5
                have J5 := J4.trans b5
                refine hK.out _ _ (⟨(J5.cell (p := ⟨bx, ox + i * 4, none⟩) hbx).trans x0, (J5.cell (p := ⟨bx, ox + i * 4 + 1, none⟩) hbx).trans x1, (J5.cell (p := ⟨bx, ox + i * 4 + 2, none⟩) hbx).trans x2, (J5.cell (p := ⟨bx, ox + i * 4 + 3, none⟩) hbx).trans x3⟩) (fun hHeld => ?_)
                clear hK K
                (try simp only [Act.put, List.setIfInBounds_toArray, List.set_cons_zero, List.set_cons_succ, List.getElem_toArray, List.getElem_cons_zero, List.getElem_cons_succ])
                replace own := own5
                clear own5
                refine wpAnyH_ready (rs := [14]) (by kernel_rfl) (by simp) ?_
                refine AllReadyH.cons rfl (fun K hK => ?_) AllReadyH.nil
                refine step_cat rfl _ _ _ (by rfl) Tryz.underlying30 info_impl_ReportLine rfl (by decide) (by rfl) own (by rfl) (m := (i - k)) (hsuf.next J5) (line_all _) (by omega) (by omega) (by decide) (by have := J5.size; omega) ?_
                intro A6 c6 wi6 own6 o6 b6 q6
                have J6 := J5.trans b6
                refine hK.out _ _ (⟨(J6.cell (p := ⟨bx, ox + i * 4, none⟩) hbx).trans x0, (J6.cell (p := ⟨bx, ox + i * 4 + 1, none⟩) hbx).trans x1, (J6.cell (p := ⟨bx, ox + i * 4 + 2, none⟩) hbx).trans x2, (J6.cell (p := ⟨bx, ox + i * 4 + 3, none⟩) hbx).trans x3⟩) (fun hHeld => ?_)
                clear hK K
                (try simp only [Act.put, List.setIfInBounds_toArray, List.set_cons_zero, List.set_cons_succ, List.getElem_toArray, List.getElem_cons_zero, List.getElem_cons_succ])
                replace own := own6
                clear own6
                refine wpAnyH_take (i := 15) (v := ?_) rfl (by kernel_rfl) (by kernel_rfl) (by kernel_rfl) (fun _ _ _ h => h) (Or.inl ⟨by rfl, ?_⟩) (by assumption) ?_
                rotate_left 1
                · (intro w hSw; (try dsimp only at hSw); go_simp; try with_reducible rfl)
                (try simp only [Act.put, List.setIfInBounds_toArray, List.set_cons_zero, List.set_cons_succ, List.getElem_toArray, List.getElem_cons_zero, List.getElem_cons_succ])
                refine wpAnyH_done (by kernel_rfl) ?_ _
                go_wp2_with fail
                rw [show k + 1 + (i - k) = i + 1 by omega] at own
                obtain ⟨g4, cap4, hv4, -, -⟩ := own.form (Nat.succ_pos _)
                injection hv4 with hA4 _ _
                subst hA4
                go_roundw
                case rel => exact ⟨i + 1, g4, _, by omega, by go_num, by congr 1; omega, by rw [HIN.out, HR2.out]; exact own_base own K.size, bel_then K J6⟩
                case measure => simp [intOf]; omega
              refine AllReadyH.cons rfl (fun K hK => ?_) AllReadyH.nil
              · go_simp
                have U3 : Below wi2.heap.size wi2 (wi2.alloc (.cells #[.string x.name, .string x.club, .int .i64 x.status, .int .i64 x.time] 41)) := (Below.refl _ _).alloc (Nat.le_refl _) _
                have J3 := bel_then J2 U3
                refine hK.out _ _ (⟨(J3.cell (p := ⟨bx, ox + i * 4, none⟩) hbx).trans x0, (J3.cell (p := ⟨bx, ox + i * 4 + 1, none⟩) hbx).trans x1, (J3.cell (p := ⟨bx, ox + i * 4 + 2, none⟩) hbx).trans x2, (J3.cell (p := ⟨bx, ox + i * 4 + 3, none⟩) hbx).trans x3⟩) (fun hHeld => ?_)
                clear hK K
                (try simp only [Act.put, List.setIfInBounds_toArray, List.set_cons_zero, List.set_cons_succ, List.getElem_toArray, List.getElem_cons_zero, List.getElem_cons_succ])
                replace own := own_below own U3
                have box : Blk (wi2.alloc (.cells #[.string x.name, .string x.club, .int .i64 x.status, .int .i64 x.time] 41)) wi2.heap.size 41 [.string x.name, .string x.club, .int .i64 x.status, .int .i64 x.time] := Blk.at_ rfl
                have lb := box.lt
                have hne : ∀ b, OwnB (some ⟨wi1.heap.size, 0, none⟩) b → b ≠ wi2.heap.size := fun b hb => by have := (own_top ownP hb).2; omega
                generalize (wi2.alloc (.cells #[.string x.name, .string x.club, .int .i64 x.status, .int .i64 x.time] 41)) = wi3 at *
                replace ownP := own
                refine wpAnyH_ready (rs := [4]) (by kernel_rfl) (by simp) ?_
                refine AllReadyH.cons rfl (fun K hK => ?_) AllReadyH.nil
                refine step_cat rfl _ _ _ (by rfl) Tryz.underlying30 info_impl_ReportLine rfl (by decide) (by rfl) own (by rfl) (m := k) (hpre.next J3) (line_all _) (by omega) (by omega) (by decide) (by have := J3.size; omega) ?_
                intro A4 c4 wi4 own4 o4 b4 q4
                have J4 := J3.trans b4
                refine hK.out _ _ (⟨(J4.cell (p := ⟨bx, ox + i * 4, none⟩) hbx).trans x0, (J4.cell (p := ⟨bx, ox + i * 4 + 1, none⟩) hbx).trans x1, (J4.cell (p := ⟨bx, ox + i * 4 + 2, none⟩) hbx).trans x2, (J4.cell (p := ⟨bx, ox + i * 4 + 3, none⟩) hbx).trans x3⟩) (fun hHeld => ?_)
                clear hK K
                (try simp only [Act.put, List.setIfInBounds_toArray, List.set_cons_zero, List.set_cons_succ, List.getElem_toArray, List.getElem_cons_zero, List.getElem_cons_succ])
                (try simp only [Nat.zero_add])
                replace box := box.only o4 (fun h => hne _ h rfl)
                simp only [Nat.zero_add, List.nil_append] at own4
                replace own := own4
                clear own4
                replace ownP := own
                refine wpAnyH_ready (rs := [10]) (by kernel_rfl) (by simp) ?_
                refine AllReadyH.cons rfl (fun K hK => ?_) AllReadyH.nil
                refine step_cat rfl _ _ _ (by rfl) Tryz.underlying30 info_impl_ReportLine rfl (by decide) (by rfl) own (by rfl) (m := 1) (box.sees (s := 4) (Nat.zero_le _) rfl) (by simp [Value.oneCell']) (by omega) (by omega) (by decide) (by have := J4.size; omega) ?_
                intro A5 c5 wi5 own5 o5 b5 q5
                have J5 := J4.trans b5
                refine hK.out _ _ (⟨(J5.cell (p := ⟨bx, ox + i * 4, none⟩) hbx).trans x0, (J5.cell (p := ⟨bx, ox + i * 4 + 1, none⟩) hbx).trans x1, (J5.cell (p := ⟨bx, ox + i * 4 + 2, none⟩) hbx).trans x2, (J5.cell (p := ⟨bx, ox + i * 4 + 3, none⟩) hbx).trans x3⟩) (fun hHeld => ?_)
                clear hK K
                (try simp only [Act.put, List.setIfInBounds_toArray, List.set_cons_zero, List.set_cons_succ, List.getElem_toArray, List.getElem_cons_zero, List.getElem_cons_succ])
                replace own := own5
                clear own5
                refine wpAnyH_ready (rs := [14]) (by kernel_rfl) (by simp) ?_
                refine AllReadyH.cons rfl (fun K hK => ?_) AllReadyH.nil
                refine step_cat rfl _ _ _ (by rfl) Tryz.underlying30 info_impl_ReportLine rfl (by decide) (by rfl) own (by rfl) (m := (i - k)) (hsuf.next J5) (line_all _) (by omega) (by omega) (by decide) (by have := J5.size; omega) ?_
                intro A6 c6 wi6 own6 o6 b6 q6
                have J6 := J5.trans b6
                refine hK.out _ _ (⟨(J6.cell (p := ⟨bx, ox + i * 4, none⟩) hbx).trans x0, (J6.cell (p := ⟨bx, ox + i * 4 + 1, none⟩) hbx).trans x1, (J6.cell (p := ⟨bx, ox + i * 4 + 2, none⟩) hbx).trans x2, (J6.cell (p := ⟨bx, ox + i * 4 + 3, none⟩) hbx).trans x3⟩) (fun hHeld => ?_)
                clear hK K
                (try simp only [Act.put, List.setIfInBounds_toArray, List.set_cons_zero, List.set_cons_succ, List.getElem_toArray, List.getElem_cons_zero, List.getElem_cons_succ])
                replace own := own6
                clear own6
                refine wpAnyH_take (i := 15) (v := ?_) rfl (by kernel_rfl) (by kernel_rfl) (by kernel_rfl) (fun _ _ _ h => h) (Or.inl ⟨by rfl, ?_⟩) (by assumption) ?_
                rotate_left 1
                · (intro w hSw; (try dsimp only at hSw); go_simp; try with_reducible rfl)
                (try simp only [Act.put, List.setIfInBounds_toArray, List.set_cons_zero, List.set_cons_succ, List.getElem_toArray, List.getElem_cons_zero, List.getElem_cons_succ])
                refine wpAnyH_done (by kernel_rfl) ?_ _
                go_wp2_with fail
                rw [show k + 1 + (i - k) = i + 1 by omega] at own
                obtain ⟨g4, cap4, hv4, -, -⟩ := own.form (Nat.succ_pos _)
                injection hv4 with hA4 _ _
                subst hA4
                go_roundw
                case rel => exact ⟨i + 1, g4, _, by omega, by go_num, by congr 1; omega, by rw [HIN.out, HR2.out]; exact own_base own K.size, bel_then K J6⟩
                case measure => simp [intOf]; omega
            refine AllReadyH.cons rfl (fun K hK => ?_) AllReadyH.nil
            · go_simp
              have U2 : Below wi1.heap.size wi1 (wi1.alloc (.cells #[.string x.name, .string x.club, .int .i64 x.status, .int .i64 x.time] 41)) := (Below.refl _ _).alloc (Nat.le_refl _) _
              have J2 := bel_then J1 U2
              refine hK.out _ _ (⟨(J2.cell (p := ⟨bx, ox + i * 4, none⟩) hbx).trans x0, (J2.cell (p := ⟨bx, ox + i * 4 + 1, none⟩) hbx).trans x1, (J2.cell (p := ⟨bx, ox + i * 4 + 2, none⟩) hbx).trans x2, (J2.cell (p := ⟨bx, ox + i * 4 + 3, none⟩) hbx).trans x3⟩) (fun hHeld => ?_)
              clear hK K
              (try simp only [Act.put, List.setIfInBounds_toArray, List.set_cons_zero, List.set_cons_succ, List.getElem_toArray, List.getElem_cons_zero, List.getElem_cons_succ])
              have box : Blk (wi1.alloc (.cells #[.string x.name, .string x.club, .int .i64 x.status, .int .i64 x.time] 41)) wi1.heap.size 41 [.string x.name, .string x.club, .int .i64 x.status, .int .i64 x.time] := Blk.at_ rfl
              have lb := box.lt
              generalize (wi1.alloc (.cells #[.string x.name, .string x.club, .int .i64 x.status, .int .i64 x.time] 41)) = wi2 at *
              refine wpAnyH_ready (rs := [0]) (by kernel_rfl) (by simp) ?_
              refine AllReadyH.cons rfl (fun K hK => ?_) AllReadyH.nil
              go_simp
              have U3 : Below wi2.heap.size wi2 (wi2.alloc (.cells #[] 41)) := (Below.refl _ _).alloc (Nat.le_refl _) _
              have J3 := bel_then J2 U3
              refine hK.out _ _ (⟨(J3.cell (p := ⟨bx, ox + i * 4, none⟩) hbx).trans x0, (J3.cell (p := ⟨bx, ox + i * 4 + 1, none⟩) hbx).trans x1, (J3.cell (p := ⟨bx, ox + i * 4 + 2, none⟩) hbx).trans x2, (J3.cell (p := ⟨bx, ox + i * 4 + 3, none⟩) hbx).trans x3⟩) (fun hHeld => ?_)
              clear hK K
              (try simp only [Act.put, List.setIfInBounds_toArray, List.set_cons_zero, List.set_cons_succ, List.getElem_toArray, List.getElem_cons_zero])
              replace box := box.next U3
              have own := own_base (own_empty wi2 41 4) (show wv.heap.size ≤ wi2.heap.size from J2.size)
              have hne : ∀ b, OwnB (some ⟨wi2.heap.size, 0, none⟩) b → b ≠ wi1.heap.size := fun b hb => by have h4 : wi2.heap.size = b := (by simpa [OwnB, Value.ownBlock] using hb); have h5 := lb; omega
              generalize (wi2.alloc (.cells #[] 41)) = wi3 at *
              have ownP := own
              refine wpAnyH_ready (rs := [4]) (by kernel_rfl) (by simp) ?_
              refine AllReadyH.cons rfl (fun K hK => ?_) AllReadyH.nil
              refine step_cat rfl _ _ _ (by rfl) Tryz.underlying30 info_impl_ReportLine rfl (by decide) (by rfl) own (by rfl) (m := k) (hpre.next J3) (line_all _) (by omega) (by omega) (by decide) (by have := J3.size; omega) ?_
              intro A4 c4 wi4 own4 o4 b4 q4
              have J4 := J3.trans b4
              refine hK.out _ _ (⟨(J4.cell (p := ⟨bx, ox + i * 4, none⟩) hbx).trans x0, (J4.cell (p := ⟨bx, ox + i * 4 + 1, none⟩) hbx).trans x1, (J4.cell (p := ⟨bx, ox + i * 4 + 2, none⟩) hbx).trans x2, (J4.cell (p := ⟨bx, ox + i * 4 + 3, none⟩) hbx).trans x3⟩) (fun hHeld => ?_)
              clear hK K
              (try simp only [Act.put, List.setIfInBounds_toArray, List.set_cons_zero, List.set_cons_succ, List.getElem_toArray, List.getElem_cons_zero, List.getElem_cons_succ])
              (try simp only [Nat.zero_add])
              replace box := box.only o4 (fun h => hne _ h rfl)
              simp only [Nat.zero_add, List.nil_append] at own4
              replace own := own4
              clear own4
              replace ownP := own
              refine wpAnyH_ready (rs := [10]) (by kernel_rfl) (by simp) ?_
              refine AllReadyH.cons rfl (fun K hK => ?_) AllReadyH.nil
              refine step_cat rfl _ _ _ (by rfl) Tryz.underlying30 info_impl_ReportLine rfl (by decide) (by rfl) own (by rfl) (m := 1) (box.sees (s := 4) (Nat.zero_le _) rfl) (by simp [Value.oneCell']) (by omega) (by omega) (by decide) (by have := J4.size; omega) ?_
              intro A5 c5 wi5 own5 o5 b5 q5
              have J5 := J4.trans b5
              refine hK.out _ _ (⟨(J5.cell (p := ⟨bx, ox + i * 4, none⟩) hbx).trans x0, (J5.cell (p := ⟨bx, ox + i * 4 + 1, none⟩) hbx).trans x1, (J5.cell (p := ⟨bx, ox + i * 4 + 2, none⟩) hbx).trans x2, (J5.cell (p := ⟨bx, ox + i * 4 + 3, none⟩) hbx).trans x3⟩) (fun hHeld => ?_)
              clear hK K
              (try simp only [Act.put, List.setIfInBounds_toArray, List.set_cons_zero, List.set_cons_succ, List.getElem_toArray, List.getElem_cons_zero, List.getElem_cons_succ])
              replace own := own5
              clear own5
              refine wpAnyH_ready (rs := [14]) (by kernel_rfl) (by simp) ?_
              refine AllReadyH.cons rfl (fun K hK => ?_) AllReadyH.nil
              refine step_cat rfl _ _ _ (by rfl) Tryz.underlying30 info_impl_ReportLine rfl (by decide) (by rfl) own (by rfl) (m := (i - k)) (hsuf.next J5) (line_all _) (by omega) (by omega) (by decide) (by have := J5.size; omega) ?_
              intro A6 c6 wi6 own6 o6 b6 q6
              have J6 := J5.trans b6
              refine hK.out _ _ (⟨(J6.cell (p := ⟨bx, ox + i * 4, none⟩) hbx).trans x0, (J6.cell (p := ⟨bx, ox + i * 4 + 1, none⟩) hbx).trans x1, (J6.cell (p := ⟨bx, ox + i * 4 + 2, none⟩) hbx).trans x2, (J6.cell (p := ⟨bx, ox + i * 4 + 3, none⟩) hbx).trans x3⟩) (fun hHeld => ?_)
              clear hK K
              (try simp only [Act.put, List.setIfInBounds_toArray, List.set_cons_zero, List.set_cons_succ, List.getElem_toArray, List.getElem_cons_zero, List.getElem_cons_succ])
              replace own := own6
              clear own6
              refine wpAnyH_take (i := 15) (v := ?_) rfl (by kernel_rfl) (by kernel_rfl) (by kernel_rfl) (fun _ _ _ h => h) (Or.inl ⟨by rfl, ?_⟩) (by assumption) ?_
              rotate_left 1
              · (intro w hSw; (try dsimp only at hSw); go_simp; try with_reducible rfl)
              (try simp only [Act.put, List.setIfInBounds_toArray, List.set_cons_zero, List.set_cons_succ, List.getElem_toArray, List.getElem_cons_zero, List.getElem_cons_succ])
              refine wpAnyH_done (by kernel_rfl) ?_ _
              go_wp2_with fail
              rw [show k + 1 + (i - k) = i + 1 by omega] at own
              obtain ⟨g4, cap4, hv4, -, -⟩ := own.form (Nat.succ_pos _)
              injection hv4 with hA4 _ _
              subst hA4
              go_roundw
              case rel => exact ⟨i + 1, g4, _, by omega, by go_num, by congr 1; omega, by rw [HIN.out, HR2.out]; exact own_base own K.size, bel_then K J6⟩
              case measure => simp [intOf]; omega
        · obtain ⟨q, hkq⟩ : ∃ q, k = q + 1 := ⟨k - 1, by omega⟩
          have hq : q < ys.length := by rw [HYL.out]; omega
          have HPT := Lib.hid (fun (h : lessL x ys[q] = true) => show posR lessL ys x ys.length = posR lessL ys x q by rw [HP.out, hkq, posR_yes lessL hq h])
          have HPF := Lib.hid (fun (h : lessL x ys[q] = false) => show posR lessL ys x ys.length = k by rw [HP.out, hkq, posR_no lessL hq h])
          have hw1 : IntKind.i64.wrap ((k : Int) - 1) = (q : Int) := by rw [IntWalk.i64_in _ (by omega)]; omega
          have hgt : decide ((0 : Int) < (k : Int)) = true := decide_eq_true (by omega)
          have hi2 : (0 : Int) ≤ (q : Int) := by omega
          have hi3 : (q : Int) < (i : Int) := by omega
          have bq := (Quiet.one wr).below wr.heap.size
          replace own := own_below own bq
          replace K := bel_then K bq
          replace x0 := (bq.cell (p := ⟨bx, ox + i * 4, none⟩) hbx).trans x0
          replace x1 := (bq.cell (p := ⟨bx, ox + i * 4 + 1, none⟩) hbx).trans x1
          replace x2 := (bq.cell (p := ⟨bx, ox + i * 4 + 2, none⟩) hbx).trans x2
          replace x3 := (bq.cell (p := ⟨bx, ox + i * 4 + 3, none⟩) hbx).trans x3
          replace hbx := Nat.lt_of_lt_of_le hbx bq.size
          replace HHB := Lib.hid (bel_then HHB.out bq)
          obtain ⟨by_, oy, ey, hky, y0, y1, y2, y3⟩ := (Sees.of_own own).elem4 (fun _ => rfl) (show q < i by omega)
          injection ey with ey
          injection ey with e1 e2
          subst e1 e2
          simp only [Nat.zero_add] at y0 y1 y2 y3
          obtain ⟨y, hy⟩ : ∃ y, ys[q] = y := ⟨_, rfl⟩
          rw [show ys[q] = y from hy] at y0 y1 y2 y3
          rw [hy] at HPT HPF
          have HKQ := Lib.hid hkq
          have HY := Lib.hid hy
          clear bq HP hy hkq
          have hgl := hgb
          go_wp2_with fail
          go_region_held3 (fun w' => w'.cell? ⟨bx, ox + i * 4, none⟩ = some (.string x.name) ∧ w'.cell? ⟨bx, ox + i * 4 + 1, none⟩ = some (.string x.club) ∧ w'.cell? ⟨bx, ox + i * 4 + 2, none⟩ = some (.int .i64 x.status) ∧ w'.cell? ⟨bx, ox + i * 4 + 3, none⟩ = some (.int .i64 x.time) ∧ w'.cell? ⟨g, q * 4, none⟩ = some (.string y.name) ∧ w'.cell? ⟨g, q * 4 + 1, none⟩ = some (.string y.club) ∧ w'.cell? ⟨g, q * 4 + 2, none⟩ = some (.int .i64 y.status) ∧ w'.cell? ⟨g, q * 4 + 3, none⟩ = some (.int .i64 y.time)) (go_keep)
            (first
              | (go_at_call 55
                 refine (l26Less_any x y _).mono ?_
                 rintro e wv ⟨rfl, b3⟩
                 replace own := own_below own b3
                 replace K := bel_then K b3
                 replace HHB := Lib.hid (bel_then HHB.out b3)
                 replace x0 := (b3.cell (p := ⟨bx, ox + i * 4, none⟩) hbx).trans x0
                 replace x1 := (b3.cell (p := ⟨bx, ox + i * 4 + 1, none⟩) hbx).trans x1
                 replace x2 := (b3.cell (p := ⟨bx, ox + i * 4 + 2, none⟩) hbx).trans x2
                 replace x3 := (b3.cell (p := ⟨bx, ox + i * 4 + 3, none⟩) hbx).trans x3
                 replace hbx := Nat.lt_of_lt_of_le hbx b3.size
                 clear y0 y1 y2 y3
                 obtain ⟨by_, oy, ey, hky, y0, y1, y2, y3⟩ := (Sees.of_own own).elem4 (fun _ => rfl) (show q < i by omega)
                 injection ey with ey
                 injection ey with e1 e2
                 subst e1 e2
                 simp only [Nat.zero_add] at y0 y1 y2 y3
                 rw [show ys[q] = y from HY.out] at y0 y1 y2 y3
                 clear b3))
          cases hlt2 : lessL x y
          · have HPE := Lib.hid (HPF.out hlt2)
            clear HPT HPF y0 y1 y2 y3 hw1 hgt hi2 hi3 hlt2
            have hk1' : k ≤ i := hk
            clear HY HKQ
            go_wp2_with fail
            have HR2 := Lib.hid (show (insR lessL ys x).flatMap ReportLine.enc = (ys.take k).flatMap ReportLine.enc ++ [.string x.name, .string x.club, .int .i64 x.status, .int .i64 x.time] ++ (ys.drop k).flatMap ReportLine.enc by
              rw [insR_at lessL HPE.out, List.flatMap_append, List.flatMap_cons, List.append_assoc]; rfl)
            have hpre := (Sees.of_own own).take_ (by decide) (fun _ => rfl) k hk
            by_cases hck : c' = k
            · have hsuf : Sees wv 0 4 (some ⟨g, 0, none⟩) 0 ((ys.drop k).flatMap ReportLine.enc) := by
                rw [List.drop_of_length_le (by rw [HYL.out]; omega)]; exact Sees.nil _ _ _ _
              have hkc : k = c' := hck.symm
              subst hkc
              clear own
              go_wp2_with fail
              have J1 := (Quiet.one wv).below wv.heap.size
              refine wp_region_held_drew (S := fun w' => w'.cell? ⟨bx, ox + i * 4, none⟩ = some (.string x.name) ∧ w'.cell? ⟨bx, ox + i * 4 + 1, none⟩ = some (.string x.club) ∧ w'.cell? ⟨bx, ox + i * 4 + 2, none⟩ = some (.int .i64 x.status) ∧ w'.cell? ⟨bx, ox + i * 4 + 3, none⟩ = some (.int .i64 x.time)) (by kernel_rfl) (⟨(J1.cell (p := ⟨bx, ox + i * 4, none⟩) hbx).trans x0, (J1.cell (p := ⟨bx, ox + i * 4 + 1, none⟩) hbx).trans x1, (J1.cell (p := ⟨bx, ox + i * 4 + 2, none⟩) hbx).trans x2, (J1.cell (p := ⟨bx, ox + i * 4 + 3, none⟩) hbx).trans x3⟩) (fun hHeld => ?_)
              generalize wv.drew = wi1 at *
              refine wpAnyH_take (i := 1) (v := ?_) rfl (by kernel_rfl) (by kernel_rfl) (by kernel_rfl) (fun _ _ _ h => h) (Or.inl ⟨by rfl, ?_⟩) (by assumption) ?_
              rotate_left 1
              · (intro w hSw; (try dsimp only at hSw); go_simp; try with_reducible rfl)
              (try simp only [Act.put, List.setIfInBounds_toArray, List.set_cons_zero, List.set_cons_succ, List.getElem_toArray, List.getElem_cons_zero, List.getElem_cons_succ])
              refine wpAnyH_take (i := 2) (v := ?_) rfl (by kernel_rfl) (by kernel_rfl) (by kernel_rfl) (fun _ _ _ h => h) (Or.inl ⟨by rfl, ?_⟩) (by assumption) ?_
              rotate_left 1
              · (intro w hSw; (try dsimp only at hSw); go_simp; try with_reducible rfl)
              (try simp only [Act.put, List.setIfInBounds_toArray, List.set_cons_zero, List.set_cons_succ, List.getElem_toArray, List.getElem_cons_zero, List.getElem_cons_succ])
              refine wpAnyH_take (i := 3) (v := ?_) rfl (by kernel_rfl) (by kernel_rfl) (by kernel_rfl) (fun _ _ _ h => h) (Or.inl ⟨by rfl, ?_⟩) (by assumption) ?_
              rotate_left 1
              · (intro w hSw; (try dsimp only at hSw); go_simp; try with_reducible rfl)
              (try simp only [Act.put, List.setIfInBounds_toArray, List.set_cons_zero, List.set_cons_succ, List.getElem_toArray, List.getElem_cons_zero, List.getElem_cons_succ])
              refine wpAnyH_take (i := 5) (v := ?_) rfl (by kernel_rfl) (by kernel_rfl) (by kernel_rfl) (fun _ _ _ h => h) (Or.inl ⟨by rfl, ?_⟩) (by assumption) ?_
              rotate_left 1
              · (intro w hSw; (try dsimp only at hSw); go_simp; try with_reducible rfl)
              (try simp only [Act.put, List.setIfInBounds_toArray, List.set_cons_zero, List.set_cons_succ, List.getElem_toArray, List.getElem_cons_zero, List.getElem_cons_succ])
              refine wpAnyH_take (i := 6) (v := ?_) rfl (by kernel_rfl) (by kernel_rfl) (by kernel_rfl) (fun _ _ _ h => h) (Or.inl ⟨by rfl, ?_⟩) (by assumption) ?_
              rotate_left 1
              · (intro w hSw; (try dsimp only at hSw); go_simp; try with_reducible rfl)
              (try simp only [Act.put, List.setIfInBounds_toArray, List.set_cons_zero, List.set_cons_succ, List.getElem_toArray, List.getElem_cons_zero, List.getElem_cons_succ])
              refine wpAnyH_take (i := 7) (v := ?_) rfl (by kernel_rfl) (by kernel_rfl) (by kernel_rfl) (fun _ _ _ h => h) (Or.inl ⟨by rfl, ?_⟩) (by assumption) ?_
              rotate_left 1
              · (intro w hSw; (try dsimp only at hSw); go_simp; try with_reducible rfl)
              (try simp only [Act.put, List.setIfInBounds_toArray, List.set_cons_zero, List.set_cons_succ, List.getElem_toArray, List.getElem_cons_zero, List.getElem_cons_succ])
              refine wpAnyH_take (i := 8) (v := ?_) rfl (by kernel_rfl) (by kernel_rfl) (by kernel_rfl) (fun _ _ _ h => h) (Or.inl ⟨by rfl, ?_⟩) (by assumption) ?_
              rotate_left 1
              · (intro w hSw; (try dsimp only at hSw); go_simp; try with_reducible rfl)
              (try simp only [Act.put, List.setIfInBounds_toArray, List.set_cons_zero, List.set_cons_succ, List.getElem_toArray, List.getElem_cons_zero, List.getElem_cons_succ])
              refine wpAnyH_take (i := 11) (v := ?_) rfl (by kernel_rfl) (by kernel_rfl) (by kernel_rfl) (fun _ _ _ h => h) (Or.inl ⟨by rfl, ?_⟩) (by assumption) ?_
              rotate_left 1
              · (intro w hSw; (try dsimp only at hSw); go_simp; try with_reducible rfl)
              (try simp only [Act.put, List.setIfInBounds_toArray, List.set_cons_zero, List.set_cons_succ, List.getElem_toArray, List.getElem_cons_zero, List.getElem_cons_succ])
              refine wpAnyH_take (i := 12) (v := ?_) rfl (by kernel_rfl) (by kernel_rfl) (by kernel_rfl) (fun _ _ _ h => h) (Or.inl ⟨by rfl, ?_⟩) (by assumption) ?_
              rotate_left 1
              · (intro w hSw; (try dsimp only at hSw); go_simp; try with_reducible rfl)
              (try simp only [Act.put, List.setIfInBounds_toArray, List.set_cons_zero, List.set_cons_succ, List.getElem_toArray, List.getElem_cons_zero, List.getElem_cons_succ])
              refine wpAnyH_take (i := 13) (v := ?_) rfl (by kernel_rfl) (by kernel_rfl) (by kernel_rfl) (fun _ _ _ h => h) (Or.inl ⟨by rfl, ?_⟩) (by assumption) ?_
              rotate_left 1
              · (intro w hSw; (try dsimp only at hSw); go_simp; try with_reducible rfl)
              (try simp only [Act.put, List.setIfInBounds_toArray, List.set_cons_zero, List.set_cons_succ, List.getElem_toArray, List.getElem_cons_zero, List.getElem_cons_succ])
              refine wpAnyH_ready (rs := [0, 9]) (by kernel_rfl) (by simp) ?_
              refine AllReadyH.cons rfl (fun K hK => ?_) ?_
              · go_simp
                have U2 : Below wi1.heap.size wi1 (wi1.alloc (.cells #[] 41)) := (Below.refl _ _).alloc (Nat.le_refl _) _
                have J2 := bel_then J1 U2
                refine hK.out _ _ (⟨(J2.cell (p := ⟨bx, ox + i * 4, none⟩) hbx).trans x0, (J2.cell (p := ⟨bx, ox + i * 4 + 1, none⟩) hbx).trans x1, (J2.cell (p := ⟨bx, ox + i * 4 + 2, none⟩) hbx).trans x2, (J2.cell (p := ⟨bx, ox + i * 4 + 3, none⟩) hbx).trans x3⟩) (fun hHeld => ?_)
                clear hK K
                (try simp only [Act.put, List.setIfInBounds_toArray, List.set_cons_zero, List.set_cons_succ, List.getElem_toArray, List.getElem_cons_zero])
                have own := own_base (own_empty wi1 41 4) (show wv.heap.size ≤ wi1.heap.size from J1.size)
                generalize (wi1.alloc (.cells #[] 41)) = wi2 at *
                have ownP := own
                refine wpAnyH_ready (rs := [4, 9]) (by kernel_rfl) (by simp) ?_
                refine AllReadyH.cons rfl (fun K hK => ?_) ?_
                · refine step_cat rfl _ _ _ (by rfl) Tryz.underlying30 info_impl_ReportLine rfl (by decide) (by rfl) own (by rfl) (m := k) (hpre.next J2) (line_all _) (by omega) (by omega) (by decide) (by have := J2.size; omega) ?_
                  intro A3 c3 wi3 own3 o3 b3 q3
                  have J3 := J2.trans b3
                  refine hK.out _ _ (⟨(J3.cell (p := ⟨bx, ox + i * 4, none⟩) hbx).trans x0, (J3.cell (p := ⟨bx, ox + i * 4 + 1, none⟩) hbx).trans x1, (J3.cell (p := ⟨bx, ox + i * 4 + 2, none⟩) hbx).trans x2, (J3.cell (p := ⟨bx, ox + i * 4 + 3, none⟩) hbx).trans x3⟩) (fun hHeld => ?_)
                  clear hK K
                  (try simp only [Act.put, List.setIfInBounds_toArray, List.set_cons_zero, List.set_cons_succ, List.getElem_toArray, List.getElem_cons_zero, List.getElem_cons_succ])
                  (try simp only [Nat.zero_add])
                  simp only [Nat.zero_add, List.nil_append] at own3
                  replace own := own3
                  clear own3
                  replace ownP := own
                  refine wpAnyH_ready (rs := [9]) (by kernel_rfl) (by simp) ?_
                  refine AllReadyH.cons rfl (fun K hK => ?_) AllReadyH.nil
                  go_simp
                  have U4 : Below wi3.heap.size wi3 (wi3.alloc (.cells #[.string x.name, .string x.club, .int .i64 x.status, .int .i64 x.time] 41)) := (Below.refl _ _).alloc (Nat.le_refl _) _
                  have J4 := bel_then J3 U4
                  refine hK.out _ _ (⟨(J4.cell (p := ⟨bx, ox + i * 4, none⟩) hbx).trans x0, (J4.cell (p := ⟨bx, ox + i * 4 + 1, none⟩) hbx).trans x1, (J4.cell (p := ⟨bx, ox + i * 4 + 2, none⟩) hbx).trans x2, (J4.cell (p := ⟨bx, ox + i * 4 + 3, none⟩) hbx).trans x3⟩) (fun hHeld => ?_)
                  clear hK K
                  (try simp only [Act.put, List.setIfInBounds_toArray, List.set_cons_zero, List.set_cons_succ, List.getElem_toArray, List.getElem_cons_zero, List.getElem_cons_succ])
                  replace own := own_below own U4
                  have box : Blk (wi3.alloc (.cells #[.string x.name, .string x.club, .int .i64 x.status, .int .i64 x.time] 41)) wi3.heap.size 41 [.string x.name, .string x.club, .int .i64 x.status, .int .i64 x.time] := Blk.at_ rfl
                  have lb := box.lt
                  have hne : ∀ b, OwnB A3 b → b ≠ wi3.heap.size := fun b hb => by have := (own_top ownP hb).2; omega
                  generalize (wi3.alloc (.cells #[.string x.name, .string x.club, .int .i64 x.status, .int .i64 x.time] 41)) = wi4 at *
                  replace ownP := own
                  refine wpAnyH_ready (rs := [10]) (by kernel_rfl) (by simp) ?_
                  refine AllReadyH.cons rfl (fun K hK => ?_) AllReadyH.nil
                  refine step_cat rfl _ _ _ (by rfl) Tryz.underlying30 info_impl_ReportLine rfl (by decide) (by rfl) own (by rfl) (m := 1) (box.sees (s := 4) (Nat.zero_le _) rfl) (by simp [Value.oneCell']) (by omega) (by omega) (by decide) (by have := J4.size; omega) ?_
                  intro A5 c5 wi5 own5 o5 b5 q5
                  have J5 := J4.trans b5
                  refine hK.out _ _ (⟨(J5.cell (p := ⟨bx, ox + i * 4, none⟩) hbx).trans x0, (J5.cell (p := ⟨bx, ox + i * 4 + 1, none⟩) hbx).trans x1, (J5.cell (p := ⟨bx, ox + i * 4 + 2, none⟩) hbx).trans x2, (J5.cell (p := ⟨bx, ox + i * 4 + 3, none⟩) hbx).trans x3⟩) (fun hHeld => ?_)
                  clear hK K
                  (try simp only [Act.put, List.setIfInBounds_toArray, List.set_cons_zero, List.set_cons_succ, List.getElem_toArray, List.getElem_cons_zero, List.getElem_cons_succ])
                  replace own := own5
                  clear own5
                  refine wpAnyH_ready (rs := [14]) (by kernel_rfl) (by simp) ?_
                  refine AllReadyH.cons rfl (fun K hK => ?_) AllReadyH.nil
                  refine step_cat rfl _ _ _ (by rfl) Tryz.underlying30 info_impl_ReportLine rfl (by decide) (by rfl) own (by rfl) (m := 0) (hsuf.next J5) (line_all _) (by omega) (by omega) (by decide) (by have := J5.size; omega) ?_
                  intro A6 c6 wi6 own6 o6 b6 q6
                  have J6 := J5.trans b6
                  refine hK.out _ _ (⟨(J6.cell (p := ⟨bx, ox + i * 4, none⟩) hbx).trans x0, (J6.cell (p := ⟨bx, ox + i * 4 + 1, none⟩) hbx).trans x1, (J6.cell (p := ⟨bx, ox + i * 4 + 2, none⟩) hbx).trans x2, (J6.cell (p := ⟨bx, ox + i * 4 + 3, none⟩) hbx).trans x3⟩) (fun hHeld => ?_)
                  clear hK K
                  (try simp only [Act.put, List.setIfInBounds_toArray, List.set_cons_zero, List.set_cons_succ, List.getElem_toArray, List.getElem_cons_zero, List.getElem_cons_succ])
                  replace own := own6
                  clear own6
                  refine wpAnyH_take (i := 15) (v := ?_) rfl (by kernel_rfl) (by kernel_rfl) (by kernel_rfl) (fun _ _ _ h => h) (Or.inl ⟨by rfl, ?_⟩) (by assumption) ?_
                  rotate_left 1
                  · (intro w hSw; (try dsimp only at hSw); go_simp; try with_reducible rfl)
                  (try simp only [Act.put, List.setIfInBounds_toArray, List.set_cons_zero, List.set_cons_succ, List.getElem_toArray, List.getElem_cons_zero, List.getElem_cons_succ])
                  refine wpAnyH_done (by kernel_rfl) ?_ _
                  go_wp2_with fail
                  rw [show k + 1 + 0 = i + 1 by omega] at own
                  obtain ⟨g4, cap4, hv4, -, -⟩ := own.form (Nat.succ_pos _)
                  injection hv4 with hA4 _ _
                  subst hA4
                  go_roundw
                  case rel => exact ⟨i + 1, g4, _, by omega, by go_num, by congr 1; omega, by rw [HIN.out, HR2.out]; exact own_base own K.size, bel_then K J6⟩
                  case measure => simp [intOf]; omega
                refine AllReadyH.cons rfl (fun K hK => ?_) AllReadyH.nil
                · go_simp
                  have U3 : Below wi2.heap.size wi2 (wi2.alloc (.cells #[.string x.name, .string x.club, .int .i64 x.status, .int .i64 x.time] 41)) := (Below.refl _ _).alloc (Nat.le_refl _) _
                  have J3 := bel_then J2 U3
                  refine hK.out _ _ (⟨(J3.cell (p := ⟨bx, ox + i * 4, none⟩) hbx).trans x0, (J3.cell (p := ⟨bx, ox + i * 4 + 1, none⟩) hbx).trans x1, (J3.cell (p := ⟨bx, ox + i * 4 + 2, none⟩) hbx).trans x2, (J3.cell (p := ⟨bx, ox + i * 4 + 3, none⟩) hbx).trans x3⟩) (fun hHeld => ?_)
                  clear hK K
                  (try simp only [Act.put, List.setIfInBounds_toArray, List.set_cons_zero, List.set_cons_succ, List.getElem_toArray, List.getElem_cons_zero, List.getElem_cons_succ])
                  replace own := own_below own U3
                  have box : Blk (wi2.alloc (.cells #[.string x.name, .string x.club, .int .i64 x.status, .int .i64 x.time] 41)) wi2.heap.size 41 [.string x.name, .string x.club, .int .i64 x.status, .int .i64 x.time] := Blk.at_ rfl
                  have lb := box.lt
                  have hne : ∀ b, OwnB (some ⟨wi1.heap.size, 0, none⟩) b → b ≠ wi2.heap.size := fun b hb => by have := (own_top ownP hb).2; omega
                  generalize (wi2.alloc (.cells #[.string x.name, .string x.club, .int .i64 x.status, .int .i64 x.time] 41)) = wi3 at *
                  replace ownP := own
                  refine wpAnyH_ready (rs := [4]) (by kernel_rfl) (by simp) ?_
                  refine AllReadyH.cons rfl (fun K hK => ?_) AllReadyH.nil
                  refine step_cat rfl _ _ _ (by rfl) Tryz.underlying30 info_impl_ReportLine rfl (by decide) (by rfl) own (by rfl) (m := k) (hpre.next J3) (line_all _) (by omega) (by omega) (by decide) (by have := J3.size; omega) ?_
                  intro A4 c4 wi4 own4 o4 b4 q4
                  have J4 := J3.trans b4
                  refine hK.out _ _ (⟨(J4.cell (p := ⟨bx, ox + i * 4, none⟩) hbx).trans x0, (J4.cell (p := ⟨bx, ox + i * 4 + 1, none⟩) hbx).trans x1, (J4.cell (p := ⟨bx, ox + i * 4 + 2, none⟩) hbx).trans x2, (J4.cell (p := ⟨bx, ox + i * 4 + 3, none⟩) hbx).trans x3⟩) (fun hHeld => ?_)
                  clear hK K
                  (try simp only [Act.put, List.setIfInBounds_toArray, List.set_cons_zero, List.set_cons_succ, List.getElem_toArray, List.getElem_cons_zero, List.getElem_cons_succ])
                  (try simp only [Nat.zero_add])
                  replace box := box.only o4 (fun h => hne _ h rfl)
                  simp only [Nat.zero_add, List.nil_append] at own4
                  replace own := own4
                  clear own4
                  replace ownP := own
                  refine wpAnyH_ready (rs := [10]) (by kernel_rfl) (by simp) ?_
                  refine AllReadyH.cons rfl (fun K hK => ?_) AllReadyH.nil
                  refine step_cat rfl _ _ _ (by rfl) Tryz.underlying30 info_impl_ReportLine rfl (by decide) (by rfl) own (by rfl) (m := 1) (box.sees (s := 4) (Nat.zero_le _) rfl) (by simp [Value.oneCell']) (by omega) (by omega) (by decide) (by have := J4.size; omega) ?_
                  intro A5 c5 wi5 own5 o5 b5 q5
                  have J5 := J4.trans b5
                  refine hK.out _ _ (⟨(J5.cell (p := ⟨bx, ox + i * 4, none⟩) hbx).trans x0, (J5.cell (p := ⟨bx, ox + i * 4 + 1, none⟩) hbx).trans x1, (J5.cell (p := ⟨bx, ox + i * 4 + 2, none⟩) hbx).trans x2, (J5.cell (p := ⟨bx, ox + i * 4 + 3, none⟩) hbx).trans x3⟩) (fun hHeld => ?_)
                  clear hK K
                  (try simp only [Act.put, List.setIfInBounds_toArray, List.set_cons_zero, List.set_cons_succ, List.getElem_toArray, List.getElem_cons_zero, List.getElem_cons_succ])
                  replace own := own5
                  clear own5
                  refine wpAnyH_ready (rs := [14]) (by kernel_rfl) (by simp) ?_
                  refine AllReadyH.cons rfl (fun K hK => ?_) AllReadyH.nil
                  refine step_cat rfl _ _ _ (by rfl) Tryz.underlying30 info_impl_ReportLine rfl (by decide) (by rfl) own (by rfl) (m := 0) (hsuf.next J5) (line_all _) (by omega) (by omega) (by decide) (by have := J5.size; omega) ?_
                  intro A6 c6 wi6 own6 o6 b6 q6
                  have J6 := J5.trans b6
                  refine hK.out _ _ (⟨(J6.cell (p := ⟨bx, ox + i * 4, none⟩) hbx).trans x0, (J6.cell (p := ⟨bx, ox + i * 4 + 1, none⟩) hbx).trans x1, (J6.cell (p := ⟨bx, ox + i * 4 + 2, none⟩) hbx).trans x2, (J6.cell (p := ⟨bx, ox + i * 4 + 3, none⟩) hbx).trans x3⟩) (fun hHeld => ?_)
                  clear hK K
                  (try simp only [Act.put, List.setIfInBounds_toArray, List.set_cons_zero, List.set_cons_succ, List.getElem_toArray, List.getElem_cons_zero, List.getElem_cons_succ])
                  replace own := own6
                  clear own6
                  refine wpAnyH_take (i := 15) (v := ?_) rfl (by kernel_rfl) (by kernel_rfl) (by kernel_rfl) (fun _ _ _ h => h) (Or.inl ⟨by rfl, ?_⟩) (by assumption) ?_
                  rotate_left 1
                  · (intro w hSw; (try dsimp only at hSw); go_simp; try with_reducible rfl)
                  (try simp only [Act.put, List.setIfInBounds_toArray, List.set_cons_zero, List.set_cons_succ, List.getElem_toArray, List.getElem_cons_zero, List.getElem_cons_succ])
                  refine wpAnyH_done (by kernel_rfl) ?_ _
                  go_wp2_with fail
                  rw [show k + 1 + 0 = i + 1 by omega] at own
                  obtain ⟨g4, cap4, hv4, -, -⟩ := own.form (Nat.succ_pos _)
                  injection hv4 with hA4 _ _
                  subst hA4
                  go_roundw
                  case rel => exact ⟨i + 1, g4, _, by omega, by go_num, by congr 1; omega, by rw [HIN.out, HR2.out]; exact own_base own K.size, bel_then K J6⟩
                  case measure => simp [intOf]; omega
              refine AllReadyH.cons rfl (fun K hK => ?_) AllReadyH.nil
              · go_simp
                have U2 : Below wi1.heap.size wi1 (wi1.alloc (.cells #[.string x.name, .string x.club, .int .i64 x.status, .int .i64 x.time] 41)) := (Below.refl _ _).alloc (Nat.le_refl _) _
                have J2 := bel_then J1 U2
                refine hK.out _ _ (⟨(J2.cell (p := ⟨bx, ox + i * 4, none⟩) hbx).trans x0, (J2.cell (p := ⟨bx, ox + i * 4 + 1, none⟩) hbx).trans x1, (J2.cell (p := ⟨bx, ox + i * 4 + 2, none⟩) hbx).trans x2, (J2.cell (p := ⟨bx, ox + i * 4 + 3, none⟩) hbx).trans x3⟩) (fun hHeld => ?_)
                clear hK K
                (try simp only [Act.put, List.setIfInBounds_toArray, List.set_cons_zero, List.set_cons_succ, List.getElem_toArray, List.getElem_cons_zero, List.getElem_cons_succ])
                have box : Blk (wi1.alloc (.cells #[.string x.name, .string x.club, .int .i64 x.status, .int .i64 x.time] 41)) wi1.heap.size 41 [.string x.name, .string x.club, .int .i64 x.status, .int .i64 x.time] := Blk.at_ rfl
                have lb := box.lt
                generalize (wi1.alloc (.cells #[.string x.name, .string x.club, .int .i64 x.status, .int .i64 x.time] 41)) = wi2 at *
                refine wpAnyH_ready (rs := [0]) (by kernel_rfl) (by simp) ?_
                refine AllReadyH.cons rfl (fun K hK => ?_) AllReadyH.nil
                go_simp
                have U3 : Below wi2.heap.size wi2 (wi2.alloc (.cells #[] 41)) := (Below.refl _ _).alloc (Nat.le_refl _) _
                have J3 := bel_then J2 U3
                refine hK.out _ _ (⟨(J3.cell (p := ⟨bx, ox + i * 4, none⟩) hbx).trans x0, (J3.cell (p := ⟨bx, ox + i * 4 + 1, none⟩) hbx).trans x1, (J3.cell (p := ⟨bx, ox + i * 4 + 2, none⟩) hbx).trans x2, (J3.cell (p := ⟨bx, ox + i * 4 + 3, none⟩) hbx).trans x3⟩) (fun hHeld => ?_)
                clear hK K
                (try simp only [Act.put, List.setIfInBounds_toArray, List.set_cons_zero, List.set_cons_succ, List.getElem_toArray, List.getElem_cons_zero])
                replace box := box.next U3
                have own := own_base (own_empty wi2 41 4) (show wv.heap.size ≤ wi2.heap.size from J2.size)
                have hne : ∀ b, OwnB (some ⟨wi2.heap.size, 0, none⟩) b → b ≠ wi1.heap.size := fun b hb => by have h4 : wi2.heap.size = b := (by simpa [OwnB, Value.ownBlock] using hb); have h5 := lb; omega
                generalize (wi2.alloc (.cells #[] 41)) = wi3 at *
                have ownP := own
                refine wpAnyH_ready (rs := [4]) (by kernel_rfl) (by simp) ?_
                refine AllReadyH.cons rfl (fun K hK => ?_) AllReadyH.nil
                refine step_cat rfl _ _ _ (by rfl) Tryz.underlying30 info_impl_ReportLine rfl (by decide) (by rfl) own (by rfl) (m := k) (hpre.next J3) (line_all _) (by omega) (by omega) (by decide) (by have := J3.size; omega) ?_
                intro A4 c4 wi4 own4 o4 b4 q4
                have J4 := J3.trans b4
                refine hK.out _ _ (⟨(J4.cell (p := ⟨bx, ox + i * 4, none⟩) hbx).trans x0, (J4.cell (p := ⟨bx, ox + i * 4 + 1, none⟩) hbx).trans x1, (J4.cell (p := ⟨bx, ox + i * 4 + 2, none⟩) hbx).trans x2, (J4.cell (p := ⟨bx, ox + i * 4 + 3, none⟩) hbx).trans x3⟩) (fun hHeld => ?_)
                clear hK K
                (try simp only [Act.put, List.setIfInBounds_toArray, List.set_cons_zero, List.set_cons_succ, List.getElem_toArray, List.getElem_cons_zero, List.getElem_cons_succ])
                (try simp only [Nat.zero_add])
                replace box := box.only o4 (fun h => hne _ h rfl)
                simp only [Nat.zero_add, List.nil_append] at own4
                replace own := own4
                clear own4
                replace ownP := own
                refine wpAnyH_ready (rs := [10]) (by kernel_rfl) (by simp) ?_
                refine AllReadyH.cons rfl (fun K hK => ?_) AllReadyH.nil
                refine step_cat rfl _ _ _ (by rfl) Tryz.underlying30 info_impl_ReportLine rfl (by decide) (by rfl) own (by rfl) (m := 1) (box.sees (s := 4) (Nat.zero_le _) rfl) (by simp [Value.oneCell']) (by omega) (by omega) (by decide) (by have := J4.size; omega) ?_
                intro A5 c5 wi5 own5 o5 b5 q5
                have J5 := J4.trans b5
                refine hK.out _ _ (⟨(J5.cell (p := ⟨bx, ox + i * 4, none⟩) hbx).trans x0, (J5.cell (p := ⟨bx, ox + i * 4 + 1, none⟩) hbx).trans x1, (J5.cell (p := ⟨bx, ox + i * 4 + 2, none⟩) hbx).trans x2, (J5.cell (p := ⟨bx, ox + i * 4 + 3, none⟩) hbx).trans x3⟩) (fun hHeld => ?_)
                clear hK K
                (try simp only [Act.put, List.setIfInBounds_toArray, List.set_cons_zero, List.set_cons_succ, List.getElem_toArray, List.getElem_cons_zero, List.getElem_cons_succ])
                replace own := own5
                clear own5
                refine wpAnyH_ready (rs := [14]) (by kernel_rfl) (by simp) ?_
                refine AllReadyH.cons rfl (fun K hK => ?_) AllReadyH.nil
                refine step_cat rfl _ _ _ (by rfl) Tryz.underlying30 info_impl_ReportLine rfl (by decide) (by rfl) own (by rfl) (m := 0) (hsuf.next J5) (line_all _) (by omega) (by omega) (by decide) (by have := J5.size; omega) ?_
                intro A6 c6 wi6 own6 o6 b6 q6
                have J6 := J5.trans b6
                refine hK.out _ _ (⟨(J6.cell (p := ⟨bx, ox + i * 4, none⟩) hbx).trans x0, (J6.cell (p := ⟨bx, ox + i * 4 + 1, none⟩) hbx).trans x1, (J6.cell (p := ⟨bx, ox + i * 4 + 2, none⟩) hbx).trans x2, (J6.cell (p := ⟨bx, ox + i * 4 + 3, none⟩) hbx).trans x3⟩) (fun hHeld => ?_)
                clear hK K
                (try simp only [Act.put, List.setIfInBounds_toArray, List.set_cons_zero, List.set_cons_succ, List.getElem_toArray, List.getElem_cons_zero, List.getElem_cons_succ])
                replace own := own6
                clear own6
                refine wpAnyH_take (i := 15) (v := ?_) rfl (by kernel_rfl) (by kernel_rfl) (by kernel_rfl) (fun _ _ _ h => h) (Or.inl ⟨by rfl, ?_⟩) (by assumption) ?_
                rotate_left 1
                · (intro w hSw; (try dsimp only at hSw); go_simp; try with_reducible rfl)
                (try simp only [Act.put, List.setIfInBounds_toArray, List.set_cons_zero, List.set_cons_succ, List.getElem_toArray, List.getElem_cons_zero, List.getElem_cons_succ])
                refine wpAnyH_done (by kernel_rfl) ?_ _
                go_wp2_with fail
                rw [show k + 1 + 0 = i + 1 by omega] at own
                obtain ⟨g4, cap4, hv4, -, -⟩ := own.form (Nat.succ_pos _)
                injection hv4 with hA4 _ _
                subst hA4
                go_roundw
                case rel => exact ⟨i + 1, g4, _, by omega, by go_num, by congr 1; omega, by rw [HIN.out, HR2.out]; exact own_base own K.size, bel_then K J6⟩
                case measure => simp [intOf]; omega
            · have hsuf := (Sees.of_own own).drop_ (by decide) (fun _ => rfl) k hk
              have hk1 : k ≤ c' := by omega
              clear own
              go_wp2_with fail
              have J1 := (Quiet.one wv).below wv.heap.size
              refine wp_region_held_drew (S := fun w' => w'.cell? ⟨bx, ox + i * 4, none⟩ = some (.string x.name) ∧ w'.cell? ⟨bx, ox + i * 4 + 1, none⟩ = some (.string x.club) ∧ w'.cell? ⟨bx, ox + i * 4 + 2, none⟩ = some (.int .i64 x.status) ∧ w'.cell? ⟨bx, ox + i * 4 + 3, none⟩ = some (.int .i64 x.time)) (by kernel_rfl) (⟨(J1.cell (p := ⟨bx, ox + i * 4, none⟩) hbx).trans x0, (J1.cell (p := ⟨bx, ox + i * 4 + 1, none⟩) hbx).trans x1, (J1.cell (p := ⟨bx, ox + i * 4 + 2, none⟩) hbx).trans x2, (J1.cell (p := ⟨bx, ox + i * 4 + 3, none⟩) hbx).trans x3⟩) (fun hHeld => ?_)
              generalize wv.drew = wi1 at *
              refine wpAnyH_take (i := 1) (v := ?_) rfl (by kernel_rfl) (by kernel_rfl) (by kernel_rfl) (fun _ _ _ h => h) (Or.inl ⟨by rfl, ?_⟩) (by assumption) ?_
              rotate_left 1
              · (intro w hSw; (try dsimp only at hSw); go_simp; try with_reducible rfl)
              (try simp only [Act.put, List.setIfInBounds_toArray, List.set_cons_zero, List.set_cons_succ, List.getElem_toArray, List.getElem_cons_zero, List.getElem_cons_succ])
              refine wpAnyH_take (i := 2) (v := ?_) rfl (by kernel_rfl) (by kernel_rfl) (by kernel_rfl) (fun _ _ _ h => h) (Or.inl ⟨by rfl, ?_⟩) (by assumption) ?_
              rotate_left 1
              · (intro w hSw; (try dsimp only at hSw); go_simp; try with_reducible rfl)
              (try simp only [Act.put, List.setIfInBounds_toArray, List.set_cons_zero, List.set_cons_succ, List.getElem_toArray, List.getElem_cons_zero, List.getElem_cons_succ])
              refine wpAnyH_take (i := 3) (v := ?_) rfl (by kernel_rfl) (by kernel_rfl) (by kernel_rfl) (fun _ _ _ h => h) (Or.inl ⟨by rfl, ?_⟩) (by assumption) ?_
              rotate_left 1
              · (intro w hSw; (try dsimp only at hSw); go_simp; try with_reducible rfl)
              (try simp only [Act.put, List.setIfInBounds_toArray, List.set_cons_zero, List.set_cons_succ, List.getElem_toArray, List.getElem_cons_zero, List.getElem_cons_succ])
              refine wpAnyH_take (i := 5) (v := ?_) rfl (by kernel_rfl) (by kernel_rfl) (by kernel_rfl) (fun _ _ _ h => h) (Or.inl ⟨by rfl, ?_⟩) (by assumption) ?_
              rotate_left 1
              · (intro w hSw; (try dsimp only at hSw); go_simp; try with_reducible rfl)
              (try simp only [Act.put, List.setIfInBounds_toArray, List.set_cons_zero, List.set_cons_succ, List.getElem_toArray, List.getElem_cons_zero, List.getElem_cons_succ])
              refine wpAnyH_take (i := 6) (v := ?_) rfl (by kernel_rfl) (by kernel_rfl) (by kernel_rfl) (fun _ _ _ h => h) (Or.inl ⟨by rfl, ?_⟩) (by assumption) ?_
              rotate_left 1
              · (intro w hSw; (try dsimp only at hSw); go_simp; try with_reducible rfl)
              (try simp only [Act.put, List.setIfInBounds_toArray, List.set_cons_zero, List.set_cons_succ, List.getElem_toArray, List.getElem_cons_zero, List.getElem_cons_succ])
              refine wpAnyH_take (i := 7) (v := ?_) rfl (by kernel_rfl) (by kernel_rfl) (by kernel_rfl) (fun _ _ _ h => h) (Or.inl ⟨by rfl, ?_⟩) (by assumption) ?_
              rotate_left 1
              · (intro w hSw; (try dsimp only at hSw); go_simp; try with_reducible rfl)
              (try simp only [Act.put, List.setIfInBounds_toArray, List.set_cons_zero, List.set_cons_succ, List.getElem_toArray, List.getElem_cons_zero, List.getElem_cons_succ])
              refine wpAnyH_take (i := 8) (v := ?_) rfl (by kernel_rfl) (by kernel_rfl) (by kernel_rfl) (fun _ _ _ h => h) (Or.inl ⟨by rfl, ?_⟩) (by assumption) ?_
              rotate_left 1
              · (intro w hSw; (try dsimp only at hSw); go_simp; try with_reducible rfl)
              (try simp only [Act.put, List.setIfInBounds_toArray, List.set_cons_zero, List.set_cons_succ, List.getElem_toArray, List.getElem_cons_zero, List.getElem_cons_succ])
              refine wpAnyH_take (i := 11) (v := ?_) rfl (by kernel_rfl) (by kernel_rfl) (by kernel_rfl) (fun _ _ _ h => h) (Or.inl ⟨by rfl, ?_⟩) (by assumption) ?_
              rotate_left 1
              · (intro w hSw; (try dsimp only at hSw); go_simp; try with_reducible rfl)
              (try simp only [Act.put, List.setIfInBounds_toArray, List.set_cons_zero, List.set_cons_succ, List.getElem_toArray, List.getElem_cons_zero, List.getElem_cons_succ])
              refine wpAnyH_take (i := 12) (v := ?_) rfl (by kernel_rfl) (by kernel_rfl) (by kernel_rfl) (fun _ _ _ h => h) (Or.inl ⟨by rfl, ?_⟩) (by assumption) ?_
              rotate_left 1
              · (intro w hSw; (try dsimp only at hSw); go_simp; try with_reducible rfl)
              (try simp only [Act.put, List.setIfInBounds_toArray, List.set_cons_zero, List.set_cons_succ, List.getElem_toArray, List.getElem_cons_zero, List.getElem_cons_succ])
              refine wpAnyH_take (i := 13) (v := ?_) rfl (by kernel_rfl) (by kernel_rfl) (by kernel_rfl) (fun _ _ _ h => h) (Or.inl ⟨by rfl, ?_⟩) (by assumption) ?_
              rotate_left 1
              · (intro w hSw; (try dsimp only at hSw); go_simp; try with_reducible rfl)
              (try simp only [Act.put, List.setIfInBounds_toArray, List.set_cons_zero, List.set_cons_succ, List.getElem_toArray, List.getElem_cons_zero, List.getElem_cons_succ])
              refine wpAnyH_ready (rs := [0, 9]) (by kernel_rfl) (by simp) ?_
              refine AllReadyH.cons rfl (fun K hK => ?_) ?_
              · go_simp
                have U2 : Below wi1.heap.size wi1 (wi1.alloc (.cells #[] 41)) := (Below.refl _ _).alloc (Nat.le_refl _) _
                have J2 := bel_then J1 U2
                refine hK.out _ _ (⟨(J2.cell (p := ⟨bx, ox + i * 4, none⟩) hbx).trans x0, (J2.cell (p := ⟨bx, ox + i * 4 + 1, none⟩) hbx).trans x1, (J2.cell (p := ⟨bx, ox + i * 4 + 2, none⟩) hbx).trans x2, (J2.cell (p := ⟨bx, ox + i * 4 + 3, none⟩) hbx).trans x3⟩) (fun hHeld => ?_)
                clear hK K
                (try simp only [Act.put, List.setIfInBounds_toArray, List.set_cons_zero, List.set_cons_succ, List.getElem_toArray, List.getElem_cons_zero])
                have own := own_base (own_empty wi1 41 4) (show wv.heap.size ≤ wi1.heap.size from J1.size)
                generalize (wi1.alloc (.cells #[] 41)) = wi2 at *
                have ownP := own
                refine wpAnyH_ready (rs := [4, 9]) (by kernel_rfl) (by simp) ?_
                refine AllReadyH.cons rfl (fun K hK => ?_) ?_
                · refine step_cat rfl _ _ _ (by rfl) Tryz.underlying30 info_impl_ReportLine rfl (by decide) (by rfl) own (by rfl) (m := k) (hpre.next J2) (line_all _) (by omega) (by omega) (by decide) (by have := J2.size; omega) ?_
                  intro A3 c3 wi3 own3 o3 b3 q3
                  have J3 := J2.trans b3
                  refine hK.out _ _ (⟨(J3.cell (p := ⟨bx, ox + i * 4, none⟩) hbx).trans x0, (J3.cell (p := ⟨bx, ox + i * 4 + 1, none⟩) hbx).trans x1, (J3.cell (p := ⟨bx, ox + i * 4 + 2, none⟩) hbx).trans x2, (J3.cell (p := ⟨bx, ox + i * 4 + 3, none⟩) hbx).trans x3⟩) (fun hHeld => ?_)
                  clear hK K
                  (try simp only [Act.put, List.setIfInBounds_toArray, List.set_cons_zero, List.set_cons_succ, List.getElem_toArray, List.getElem_cons_zero, List.getElem_cons_succ])
                  (try simp only [Nat.zero_add])
                  simp only [Nat.zero_add, List.nil_append] at own3
                  replace own := own3
                  clear own3
                  replace ownP := own
                  refine wpAnyH_ready (rs := [9]) (by kernel_rfl) (by simp) ?_
                  refine AllReadyH.cons rfl (fun K hK => ?_) AllReadyH.nil
                  go_simp
                  have U4 : Below wi3.heap.size wi3 (wi3.alloc (.cells #[.string x.name, .string x.club, .int .i64 x.status, .int .i64 x.time] 41)) := (Below.refl _ _).alloc (Nat.le_refl _) _
                  have J4 := bel_then J3 U4
                  refine hK.out _ _ (⟨(J4.cell (p := ⟨bx, ox + i * 4, none⟩) hbx).trans x0, (J4.cell (p := ⟨bx, ox + i * 4 + 1, none⟩) hbx).trans x1, (J4.cell (p := ⟨bx, ox + i * 4 + 2, none⟩) hbx).trans x2, (J4.cell (p := ⟨bx, ox + i * 4 + 3, none⟩) hbx).trans x3⟩) (fun hHeld => ?_)
                  clear hK K
                  (try simp only [Act.put, List.setIfInBounds_toArray, List.set_cons_zero, List.set_cons_succ, List.getElem_toArray, List.getElem_cons_zero, List.getElem_cons_succ])
                  replace own := own_below own U4
                  have box : Blk (wi3.alloc (.cells #[.string x.name, .string x.club, .int .i64 x.status, .int .i64 x.time] 41)) wi3.heap.size 41 [.string x.name, .string x.club, .int .i64 x.status, .int .i64 x.time] := Blk.at_ rfl
                  have lb := box.lt
                  have hne : ∀ b, OwnB A3 b → b ≠ wi3.heap.size := fun b hb => by have := (own_top ownP hb).2; omega
                  generalize (wi3.alloc (.cells #[.string x.name, .string x.club, .int .i64 x.status, .int .i64 x.time] 41)) = wi4 at *
                  replace ownP := own
                  refine wpAnyH_ready (rs := [10]) (by kernel_rfl) (by simp) ?_
                  refine AllReadyH.cons rfl (fun K hK => ?_) AllReadyH.nil
                  refine step_cat rfl _ _ _ (by rfl) Tryz.underlying30 info_impl_ReportLine rfl (by decide) (by rfl) own (by rfl) (m := 1) (box.sees (s := 4) (Nat.zero_le _) rfl) (by simp [Value.oneCell']) (by omega) (by omega) (by decide) (by have := J4.size; omega) ?_
                  intro A5 c5 wi5 own5 o5 b5 q5
                  have J5 := J4.trans b5
                  refine hK.out _ _ (⟨(J5.cell (p := ⟨bx, ox + i * 4, none⟩) hbx).trans x0, (J5.cell (p := ⟨bx, ox + i * 4 + 1, none⟩) hbx).trans x1, (J5.cell (p := ⟨bx, ox + i * 4 + 2, none⟩) hbx).trans x2, (J5.cell (p := ⟨bx, ox + i * 4 + 3, none⟩) hbx).trans x3⟩) (fun hHeld => ?_)
                  clear hK K
                  (try simp only [Act.put, List.setIfInBounds_toArray, List.set_cons_zero, List.set_cons_succ, List.getElem_toArray, List.getElem_cons_zero, List.getElem_cons_succ])
                  replace own := own5
                  clear own5
                  refine wpAnyH_ready (rs := [14]) (by kernel_rfl) (by simp) ?_
                  refine AllReadyH.cons rfl (fun K hK => ?_) AllReadyH.nil
                  refine step_cat rfl _ _ _ (by rfl) Tryz.underlying30 info_impl_ReportLine rfl (by decide) (by rfl) own (by rfl) (m := (i - k)) (hsuf.next J5) (line_all _) (by omega) (by omega) (by decide) (by have := J5.size; omega) ?_
                  intro A6 c6 wi6 own6 o6 b6 q6
                  have J6 := J5.trans b6
                  refine hK.out _ _ (⟨(J6.cell (p := ⟨bx, ox + i * 4, none⟩) hbx).trans x0, (J6.cell (p := ⟨bx, ox + i * 4 + 1, none⟩) hbx).trans x1, (J6.cell (p := ⟨bx, ox + i * 4 + 2, none⟩) hbx).trans x2, (J6.cell (p := ⟨bx, ox + i * 4 + 3, none⟩) hbx).trans x3⟩) (fun hHeld => ?_)
                  clear hK K
                  (try simp only [Act.put, List.setIfInBounds_toArray, List.set_cons_zero, List.set_cons_succ, List.getElem_toArray, List.getElem_cons_zero, List.getElem_cons_succ])
                  replace own := own6
                  clear own6
                  refine wpAnyH_take (i := 15) (v := ?_) rfl (by kernel_rfl) (by kernel_rfl) (by kernel_rfl) (fun _ _ _ h => h) (Or.inl ⟨by rfl, ?_⟩) (by assumption) ?_
                  rotate_left 1
                  · (intro w hSw; (try dsimp only at hSw); go_simp; try with_reducible rfl)
                  (try simp only [Act.put, List.setIfInBounds_toArray, List.set_cons_zero, List.set_cons_succ, List.getElem_toArray, List.getElem_cons_zero, List.getElem_cons_succ])
                  refine wpAnyH_done (by kernel_rfl) ?_ _
                  go_wp2_with fail
                  rw [show k + 1 + (i - k) = i + 1 by omega] at own
                  obtain ⟨g4, cap4, hv4, -, -⟩ := own.form (Nat.succ_pos _)
                  injection hv4 with hA4 _ _
                  subst hA4
                  go_roundw
                  case rel => exact ⟨i + 1, g4, _, by omega, by go_num, by congr 1; omega, by rw [HIN.out, HR2.out]; exact own_base own K.size, bel_then K J6⟩
                  case measure => simp [intOf]; omega
                refine AllReadyH.cons rfl (fun K hK => ?_) AllReadyH.nil
                · go_simp
                  have U3 : Below wi2.heap.size wi2 (wi2.alloc (.cells #[.string x.name, .string x.club, .int .i64 x.status, .int .i64 x.time] 41)) := (Below.refl _ _).alloc (Nat.le_refl _) _
                  have J3 := bel_then J2 U3
                  refine hK.out _ _ (⟨(J3.cell (p := ⟨bx, ox + i * 4, none⟩) hbx).trans x0, (J3.cell (p := ⟨bx, ox + i * 4 + 1, none⟩) hbx).trans x1, (J3.cell (p := ⟨bx, ox + i * 4 + 2, none⟩) hbx).trans x2, (J3.cell (p := ⟨bx, ox + i * 4 + 3, none⟩) hbx).trans x3⟩) (fun hHeld => ?_)
                  clear hK K
                  (try simp only [Act.put, List.setIfInBounds_toArray, List.set_cons_zero, List.set_cons_succ, List.getElem_toArray, List.getElem_cons_zero, List.getElem_cons_succ])
                  replace own := own_below own U3
                  have box : Blk (wi2.alloc (.cells #[.string x.name, .string x.club, .int .i64 x.status, .int .i64 x.time] 41)) wi2.heap.size 41 [.string x.name, .string x.club, .int .i64 x.status, .int .i64 x.time] := Blk.at_ rfl
                  have lb := box.lt
                  have hne : ∀ b, OwnB (some ⟨wi1.heap.size, 0, none⟩) b → b ≠ wi2.heap.size := fun b hb => by have := (own_top ownP hb).2; omega
                  generalize (wi2.alloc (.cells #[.string x.name, .string x.club, .int .i64 x.status, .int .i64 x.time] 41)) = wi3 at *
                  replace ownP := own
                  refine wpAnyH_ready (rs := [4]) (by kernel_rfl) (by simp) ?_
                  refine AllReadyH.cons rfl (fun K hK => ?_) AllReadyH.nil
                  refine step_cat rfl _ _ _ (by rfl) Tryz.underlying30 info_impl_ReportLine rfl (by decide) (by rfl) own (by rfl) (m := k) (hpre.next J3) (line_all _) (by omega) (by omega) (by decide) (by have := J3.size; omega) ?_
                  intro A4 c4 wi4 own4 o4 b4 q4
                  have J4 := J3.trans b4
                  refine hK.out _ _ (⟨(J4.cell (p := ⟨bx, ox + i * 4, none⟩) hbx).trans x0, (J4.cell (p := ⟨bx, ox + i * 4 + 1, none⟩) hbx).trans x1, (J4.cell (p := ⟨bx, ox + i * 4 + 2, none⟩) hbx).trans x2, (J4.cell (p := ⟨bx, ox + i * 4 + 3, none⟩) hbx).trans x3⟩) (fun hHeld => ?_)
                  clear hK K
                  (try simp only [Act.put, List.setIfInBounds_toArray, List.set_cons_zero, List.set_cons_succ, List.getElem_toArray, List.getElem_cons_zero, List.getElem_cons_succ])
                  (try simp only [Nat.zero_add])
                  replace box := box.only o4 (fun h => hne _ h rfl)
                  simp only [Nat.zero_add, List.nil_append] at own4
                  replace own := own4
                  clear own4
                  replace ownP := own
                  refine wpAnyH_ready (rs := [10]) (by kernel_rfl) (by simp) ?_
                  refine AllReadyH.cons rfl (fun K hK => ?_) AllReadyH.nil
                  refine step_cat rfl _ _ _ (by rfl) Tryz.underlying30 info_impl_ReportLine rfl (by decide) (by rfl) own (by rfl) (m := 1) (box.sees (s := 4) (Nat.zero_le _) rfl) (by simp [Value.oneCell']) (by omega) (by omega) (by decide) (by have := J4.size; omega) ?_
                  intro A5 c5 wi5 own5 o5 b5 q5
                  have J5 := J4.trans b5
                  refine hK.out _ _ (⟨(J5.cell (p := ⟨bx, ox + i * 4, none⟩) hbx).trans x0, (J5.cell (p := ⟨bx, ox + i * 4 + 1, none⟩) hbx).trans x1, (J5.cell (p := ⟨bx, ox + i * 4 + 2, none⟩) hbx).trans x2, (J5.cell (p := ⟨bx, ox + i * 4 + 3, none⟩) hbx).trans x3⟩) (fun hHeld => ?_)
                  clear hK K
                  (try simp only [Act.put, List.setIfInBounds_toArray, List.set_cons_zero, List.set_cons_succ, List.getElem_toArray, List.getElem_cons_zero, List.getElem_cons_succ])
                  replace own := own5
                  clear own5
                  refine wpAnyH_ready (rs := [14]) (by kernel_rfl) (by simp) ?_
                  refine AllReadyH.cons rfl (fun K hK => ?_) AllReadyH.nil
                  refine step_cat rfl _ _ _ (by rfl) Tryz.underlying30 info_impl_ReportLine rfl (by decide) (by rfl) own (by rfl) (m := (i - k)) (hsuf.next J5) (line_all _) (by omega) (by omega) (by decide) (by have := J5.size; omega) ?_
                  intro A6 c6 wi6 own6 o6 b6 q6
                  have J6 := J5.trans b6
                  refine hK.out _ _ (⟨(J6.cell (p := ⟨bx, ox + i * 4, none⟩) hbx).trans x0, (J6.cell (p := ⟨bx, ox + i * 4 + 1, none⟩) hbx).trans x1, (J6.cell (p := ⟨bx, ox + i * 4 + 2, none⟩) hbx).trans x2, (J6.cell (p := ⟨bx, ox + i * 4 + 3, none⟩) hbx).trans x3⟩) (fun hHeld => ?_)
                  clear hK K
                  (try simp only [Act.put, List.setIfInBounds_toArray, List.set_cons_zero, List.set_cons_succ, List.getElem_toArray, List.getElem_cons_zero, List.getElem_cons_succ])
                  replace own := own6
                  clear own6
                  refine wpAnyH_take (i := 15) (v := ?_) rfl (by kernel_rfl) (by kernel_rfl) (by kernel_rfl) (fun _ _ _ h => h) (Or.inl ⟨by rfl, ?_⟩) (by assumption) ?_
                  rotate_left 1
                  · (intro w hSw; (try dsimp only at hSw); go_simp; try with_reducible rfl)
                  (try simp only [Act.put, List.setIfInBounds_toArray, List.set_cons_zero, List.set_cons_succ, List.getElem_toArray, List.getElem_cons_zero, List.getElem_cons_succ])
                  refine wpAnyH_done (by kernel_rfl) ?_ _
                  go_wp2_with fail
                  rw [show k + 1 + (i - k) = i + 1 by omega] at own
                  obtain ⟨g4, cap4, hv4, -, -⟩ := own.form (Nat.succ_pos _)
                  injection hv4 with hA4 _ _
                  subst hA4
                  go_roundw
                  case rel => exact ⟨i + 1, g4, _, by omega, by go_num, by congr 1; omega, by rw [HIN.out, HR2.out]; exact own_base own K.size, bel_then K J6⟩
                  case measure => simp [intOf]; omega
              refine AllReadyH.cons rfl (fun K hK => ?_) AllReadyH.nil
              · go_simp
                have U2 : Below wi1.heap.size wi1 (wi1.alloc (.cells #[.string x.name, .string x.club, .int .i64 x.status, .int .i64 x.time] 41)) := (Below.refl _ _).alloc (Nat.le_refl _) _
                have J2 := bel_then J1 U2
                refine hK.out _ _ (⟨(J2.cell (p := ⟨bx, ox + i * 4, none⟩) hbx).trans x0, (J2.cell (p := ⟨bx, ox + i * 4 + 1, none⟩) hbx).trans x1, (J2.cell (p := ⟨bx, ox + i * 4 + 2, none⟩) hbx).trans x2, (J2.cell (p := ⟨bx, ox + i * 4 + 3, none⟩) hbx).trans x3⟩) (fun hHeld => ?_)
                clear hK K
                (try simp only [Act.put, List.setIfInBounds_toArray, List.set_cons_zero, List.set_cons_succ, List.getElem_toArray, List.getElem_cons_zero, List.getElem_cons_succ])
                have box : Blk (wi1.alloc (.cells #[.string x.name, .string x.club, .int .i64 x.status, .int .i64 x.time] 41)) wi1.heap.size 41 [.string x.name, .string x.club, .int .i64 x.status, .int .i64 x.time] := Blk.at_ rfl
                have lb := box.lt
                generalize (wi1.alloc (.cells #[.string x.name, .string x.club, .int .i64 x.status, .int .i64 x.time] 41)) = wi2 at *
                refine wpAnyH_ready (rs := [0]) (by kernel_rfl) (by simp) ?_
                refine AllReadyH.cons rfl (fun K hK => ?_) AllReadyH.nil
                go_simp
                have U3 : Below wi2.heap.size wi2 (wi2.alloc (.cells #[] 41)) := (Below.refl _ _).alloc (Nat.le_refl _) _
                have J3 := bel_then J2 U3
                refine hK.out _ _ (⟨(J3.cell (p := ⟨bx, ox + i * 4, none⟩) hbx).trans x0, (J3.cell (p := ⟨bx, ox + i * 4 + 1, none⟩) hbx).trans x1, (J3.cell (p := ⟨bx, ox + i * 4 + 2, none⟩) hbx).trans x2, (J3.cell (p := ⟨bx, ox + i * 4 + 3, none⟩) hbx).trans x3⟩) (fun hHeld => ?_)
                clear hK K
                (try simp only [Act.put, List.setIfInBounds_toArray, List.set_cons_zero, List.set_cons_succ, List.getElem_toArray, List.getElem_cons_zero])
                replace box := box.next U3
                have own := own_base (own_empty wi2 41 4) (show wv.heap.size ≤ wi2.heap.size from J2.size)
                have hne : ∀ b, OwnB (some ⟨wi2.heap.size, 0, none⟩) b → b ≠ wi1.heap.size := fun b hb => by have h4 : wi2.heap.size = b := (by simpa [OwnB, Value.ownBlock] using hb); have h5 := lb; omega
                generalize (wi2.alloc (.cells #[] 41)) = wi3 at *
                have ownP := own
                refine wpAnyH_ready (rs := [4]) (by kernel_rfl) (by simp) ?_
                refine AllReadyH.cons rfl (fun K hK => ?_) AllReadyH.nil
                refine step_cat rfl _ _ _ (by rfl) Tryz.underlying30 info_impl_ReportLine rfl (by decide) (by rfl) own (by rfl) (m := k) (hpre.next J3) (line_all _) (by omega) (by omega) (by decide) (by have := J3.size; omega) ?_
                intro A4 c4 wi4 own4 o4 b4 q4
                have J4 := J3.trans b4
                refine hK.out _ _ (⟨(J4.cell (p := ⟨bx, ox + i * 4, none⟩) hbx).trans x0, (J4.cell (p := ⟨bx, ox + i * 4 + 1, none⟩) hbx).trans x1, (J4.cell (p := ⟨bx, ox + i * 4 + 2, none⟩) hbx).trans x2, (J4.cell (p := ⟨bx, ox + i * 4 + 3, none⟩) hbx).trans x3⟩) (fun hHeld => ?_)
                clear hK K
                (try simp only [Act.put, List.setIfInBounds_toArray, List.set_cons_zero, List.set_cons_succ, List.getElem_toArray, List.getElem_cons_zero, List.getElem_cons_succ])
                (try simp only [Nat.zero_add])
                replace box := box.only o4 (fun h => hne _ h rfl)
                simp only [Nat.zero_add, List.nil_append] at own4
                replace own := own4
                clear own4
                replace ownP := own
                refine wpAnyH_ready (rs := [10]) (by kernel_rfl) (by simp) ?_
                refine AllReadyH.cons rfl (fun K hK => ?_) AllReadyH.nil
                refine step_cat rfl _ _ _ (by rfl) Tryz.underlying30 info_impl_ReportLine rfl (by decide) (by rfl) own (by rfl) (m := 1) (box.sees (s := 4) (Nat.zero_le _) rfl) (by simp [Value.oneCell']) (by omega) (by omega) (by decide) (by have := J4.size; omega) ?_
                intro A5 c5 wi5 own5 o5 b5 q5
                have J5 := J4.trans b5
                refine hK.out _ _ (⟨(J5.cell (p := ⟨bx, ox + i * 4, none⟩) hbx).trans x0, (J5.cell (p := ⟨bx, ox + i * 4 + 1, none⟩) hbx).trans x1, (J5.cell (p := ⟨bx, ox + i * 4 + 2, none⟩) hbx).trans x2, (J5.cell (p := ⟨bx, ox + i * 4 + 3, none⟩) hbx).trans x3⟩) (fun hHeld => ?_)
                clear hK K
                (try simp only [Act.put, List.setIfInBounds_toArray, List.set_cons_zero, List.set_cons_succ, List.getElem_toArray, List.getElem_cons_zero, List.getElem_cons_succ])
                replace own := own5
                clear own5
                refine wpAnyH_ready (rs := [14]) (by kernel_rfl) (by simp) ?_
                refine AllReadyH.cons rfl (fun K hK => ?_) AllReadyH.nil
                refine step_cat rfl _ _ _ (by rfl) Tryz.underlying30 info_impl_ReportLine rfl (by decide) (by rfl) own (by rfl) (m := (i - k)) (hsuf.next J5) (line_all _) (by omega) (by omega) (by decide) (by have := J5.size; omega) ?_
                intro A6 c6 wi6 own6 o6 b6 q6
                have J6 := J5.trans b6
                refine hK.out _ _ (⟨(J6.cell (p := ⟨bx, ox + i * 4, none⟩) hbx).trans x0, (J6.cell (p := ⟨bx, ox + i * 4 + 1, none⟩) hbx).trans x1, (J6.cell (p := ⟨bx, ox + i * 4 + 2, none⟩) hbx).trans x2, (J6.cell (p := ⟨bx, ox + i * 4 + 3, none⟩) hbx).trans x3⟩) (fun hHeld => ?_)
                clear hK K
                (try simp only [Act.put, List.setIfInBounds_toArray, List.set_cons_zero, List.set_cons_succ, List.getElem_toArray, List.getElem_cons_zero, List.getElem_cons_succ])
                replace own := own6
                clear own6
                refine wpAnyH_take (i := 15) (v := ?_) rfl (by kernel_rfl) (by kernel_rfl) (by kernel_rfl) (fun _ _ _ h => h) (Or.inl ⟨by rfl, ?_⟩) (by assumption) ?_
                rotate_left 1
                · (intro w hSw; (try dsimp only at hSw); go_simp; try with_reducible rfl)
                (try simp only [Act.put, List.setIfInBounds_toArray, List.set_cons_zero, List.set_cons_succ, List.getElem_toArray, List.getElem_cons_zero, List.getElem_cons_succ])
                refine wpAnyH_done (by kernel_rfl) ?_ _
                go_wp2_with fail
                rw [show k + 1 + (i - k) = i + 1 by omega] at own
                obtain ⟨g4, cap4, hv4, -, -⟩ := own.form (Nat.succ_pos _)
                injection hv4 with hA4 _ _
                subst hA4
                go_roundw
                case rel => exact ⟨i + 1, g4, _, by omega, by go_num, by congr 1; omega, by rw [HIN.out, HR2.out]; exact own_base own K.size, bel_then K J6⟩
                case measure => simp [intOf]; omega
          · have HPE := Lib.hid (HPT.out hlt2)
            have hkq := HKQ.out
            clear HPT HPF y0 y1 y2 y3 hgt hlt2
            go_wp2_with fail
            go_roundw
            case rel => exact ⟨q, by omega, rfl, HPE, HHB.out⟩
            case measure => simp [intOf]; omega
    · obtain rfl : i = n := by omega
      go_wp2_with fail
      go_ret
      rw [List.take_of_length_le (by rw [HL.out]; exact Nat.le_refl _)] at own
      have HLS := Lib.hid (show (sortL xs).length = i by unfold sortL; rw [sortR_length, HL.out])
      exact givesLn_of HLS.out own K

end Go.Proofs.YtbcblmbpjecilaaGreatDoor
