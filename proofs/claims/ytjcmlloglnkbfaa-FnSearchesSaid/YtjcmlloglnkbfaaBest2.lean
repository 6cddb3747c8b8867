/- BestSectors, as the reference has it. -/
import Derived.Test.YtjcmlloglnkbfaaBest
import Derived.Test.YtjcmlloglnkbfaaOwn
namespace Go.Proofs.Ytjcmlloglnkbfaa
open Go.RowKit

theorem Sees.takeB_ {α : Type} {enc : α → List Value} {w : World} {lo s n : Nat} {A : Option Addr} {xs : List α} (h : Sees w lo s A n (xs.flatMap enc)) (hs : 0 < s) (henc : ∀ x, (enc x).length = s) (k : Nat) (hk : k ≤ n) : Sees w lo s A k ((xs.take k).flatMap enc) := by
  have hc := h.count hs henc
  refine ⟨by rw [flatMap_len _ (fun x _ => henc x), List.length_take]; congr 1; omega, fun hk0 => ?_⟩
  obtain ⟨b, off, e, h1, h2, h3⟩ := h.at' (by omega)
  refine ⟨b, off, e, h1, h2, fun j u hu => h3 j u ?_⟩
  have hj := (List.getElem?_eq_some_iff.1 hu).1
  conv => lhs; rw [← List.take_append_drop k xs, List.flatMap_append, List.getElem?_append_left hj]
  exact hu
theorem own_rowB {w : World} {base t s n c : Nat} {A : Option Addr} {cs : List Value} (h : w.ownsRow base t s (.slice A n c) n cs) : (A = none ∧ n = 0 ∧ c = 0 ∧ cs = []) ∨ ∃ (g : Nat) (rest : List Value), A = some ⟨g, 0, none⟩ ∧ base ≤ g ∧ Blk w g t (cs ++ rest) ∧ (cs ++ rest).length = c * s ∧ n ≤ c ∧ c ≤ maxLen := by
  rcases own_open h with h1 | ⟨g, cur, h1, h2, h3, h4, h5, h6, h7⟩
  · exact .inl h1
  · refine .inr ⟨g, cur.drop (n * s), h1, h2, ?_, ?_, h5, h6⟩
    · rw [← h7, List.take_append_drop]; exact h3
    · rw [← h7, List.take_append_drop]; exact h4
theorem Sees.dropB_ {α : Type} {enc : α → List Value} {w : World} {lo s n b : Nat} {xs : List α} (h : Sees w lo s (some ⟨b, 0, none⟩) n (xs.flatMap enc)) (hs : 0 < s) (henc : ∀ x, (enc x).length = s) (k : Nat) (hk : k ≤ n) : Sees w lo s (some ⟨b, k * s, none⟩) (n - k) ((xs.drop k).flatMap enc) := by
  have hl := h.count hs henc
  refine ⟨by rw [flatMap_len _ (fun x _ => henc x), List.length_drop, hl], fun h0 => ?_⟩
  obtain ⟨b', off', e, h1, h2, h3⟩ := h.at' (by omega)
  obtain ⟨rfl, rfl⟩ : b = b' ∧ 0 = off' := by simpa using e
  refine ⟨b, k * s, rfl, h1, h2, fun j u hu => ?_⟩
  have hj : j < (n - k) * s := by
    have := (List.getElem?_eq_some_iff.1 hu).1
    rwa [flatMap_len _ (fun x _ => henc x), List.length_drop, hl] at this
  have h4 := h3 (k * s + j) u (by
    have e1 : xs.flatMap enc = (xs.take k).flatMap enc ++ (xs.drop k).flatMap enc := by rw [← List.flatMap_append, List.take_append_drop]
    rw [e1, List.getElem?_append_right (by rw [flatMap_len _ (fun x _ => henc x), List.length_take]; have : min k xs.length = k := by omega
                                           rw [this]; omega), flatMap_len _ (fun x _ => henc x), List.length_take, show min k xs.length = k by omega, Nat.add_sub_cancel_left, hu])
  rwa [Nat.zero_add] at h4


set_option maxRecDepth 100000 in
set_option maxHeartbeats 8000000 in
theorem specBestSectors_any (A : Option Addr) (n c : Nat) (xs : List Sector) (s : Int) (w : World) (hx : Sees w 0 2 A n (xs.flatMap Sector.enc)) (hn : n ≤ 1048576) :
    Calls Try.prog 43 #[.slice A n c, .int .i64 s] w (GivesInts w (bestM xs s)) := by
  have hl := hx.count (by decide) (fun _ => rfl)
  have HL := Lib.hid hl
  clear hl
  go_enter Try.func43, Try.ntmps43
  go_wp2_with fail
  refine (l23Sectors_any A n c xs w hx hn).mono ?_
  cases g1 : sectorsB xs
  · rintro e w1 ⟨rfl, b1⟩
    go_wp2_with fail
    go_ret2
    rw [show bestM xs s = none by simp [bestM, g1]]
    exact gives_empty _ b1
  · rintro e w1 ⟨rfl, b1⟩
    cases g2 : inB s 1 6
    · go_wp2_with (go_at_call 64; refine (l1In_any _ _ _ _).mono ?_; rw [g2]; rintro e w' ⟨rfl, rfl⟩)
      go_ret2
      rw [show bestM xs s = none by simp [bestM, g1, g2]]
      exact gives_empty _ b1
    · obtain ⟨hpw, hl1, hl2⟩ := sec_pair g1
      obtain ⟨hs1, hs2⟩ := inB_true g2
      have HR := Lib.hid (show bestM xs s = some (((sortR ltS xs).take s.toNat).map Sector.cell) by simp [bestM, g1, g2])
      have hn0 : 0 < n := by have := HL.out; omega
      have hn36 : n ≤ 36 := by have := HL.out; omega
      clear hpw hl1 hl2 g1
      go_wp2_with (go_at_call 64; refine (l1In_any _ _ _ _).mono ?_; rw [g2]; rintro e w' ⟨rfl, rfl⟩)
      have O0 := own_base (own_empty w1 77 2) b1.size
      have K0 : Below w.heap.size w (w1.alloc (.cells #[] 77)) := b1.alloc b1.size _
      go_loopw [6, 7] (fun v iv wr => ∃ (i g c' : Nat), i ≤ n ∧ iv = .int .i64 (i : Int) ∧ v = .slice (some ⟨g, 0, none⟩) i c' ∧ wr.ownsRow w.heap.size 77 2 (.slice (some ⟨g, 0, none⟩) i c') i ((sortR ltS (xs.take i)).flatMap Sector.enc) ∧ Below w.heap.size w wr) (fun _ iv _ => n - (intOf iv).toNat)
      case atStart => exact ⟨0, _, _, Nat.zero_le _, rfl, rfl, O0, K0⟩
      case round =>
        obtain ⟨i, g, c', hi, rfl, rfl, own, K⟩ := hrel
        clear O0 K0
        by_cases hlt : i < n
        · have hix : i < xs.length := by rw [HL.out]; exact hlt
          have HIN := Lib.hid (show sortR ltS (xs.take (i + 1)) = insR ltS (sortR ltS (xs.take i)) xs[i] from sortR_next ltS hix)
          have HYL := Lib.hid (show (sortR ltS (xs.take i)).length = i by rw [sortR_length, List.length_take]; omega)
          obtain ⟨bx, ox, rfl, hkx, x0, x1⟩ := (hx.next K).elem2 (fun _ => rfl) hlt
          have hbx := World.block_lt_of_cell? wr _ x0
          obtain ⟨ys, hys⟩ : ∃ ys, sortR ltS (xs.take i) = ys := ⟨_, rfl⟩
          rw [hys] at own HIN HYL
          obtain ⟨x, hxi⟩ : ∃ x, xs[i] = x := ⟨_, rfl⟩
          rw [hxi] at HIN
          rw [show xs[i] = x from hxi] at x0 x1
          have HXI := Lib.hid hxi
          clear hys hxi
          obtain ⟨hic, hgb⟩ : i ≤ c' ∧ g < wr.heap.size := by
            rcases own_rowB own with ⟨h, _⟩ | ⟨g', rest, h1, h2, h3, h4, h5, h6⟩
            · cases h
            · obtain rfl : g = g' := by simpa using h1
              exact ⟨h5, h3.lt⟩
          go_wp2_with fail
          obtain ⟨wo, hwo⟩ : ∃ wo : World, wo = wr := ⟨_, rfl⟩
          subst hwo
          go_loopw [8] (fun kv wx => ∃ k : Nat, k ≤ i ∧ kv = .int .i64 (k : Int) ∧ Hid (posR ltS ys x ys.length = posR ltS ys x k) ∧ Below wo.heap.size wo wx) (fun kv _ => (intOf kv).toNat)
          case atStart => exact ⟨i, Nat.le_refl _, rfl, Lib.hid (by rw [HYL.out]), Below.refl _ _⟩
          case round =>
            obtain ⟨k, hk, rfl, HP, hb⟩ := hrel
            replace own := own_below own hb
            replace K := bel_then K hb
            replace x0 := (hb.cell (p := ⟨bx, ox + i * 2, none⟩) hbx).trans x0
            replace x1 := (hb.cell (p := ⟨bx, ox + i * 2 + 1, none⟩) hbx).trans x1
            have hbx0 := hbx
            replace hbx := Nat.lt_of_lt_of_le hbx hb.size
            have HHB := Lib.hid hb
            clear hb
            rcases Nat.eq_zero_or_pos k with hk0 | hk0
            · have HPE := Lib.hid (show posR ltS ys x ys.length = k by rw [HP.out, hk0]; rfl)
              have hnot : ¬ 0 < k := by omega
              clear HP hk0
              go_wp2_with fail
              go_quiet (fail)
              have bq := (Quiet.mk wr nq).below wr.heap.size
              replace own := own_below own bq
              replace K := bel_then K bq
              replace x0 := (bq.cell (p := ⟨bx, ox + i * 2, none⟩) hbx).trans x0
              replace x1 := (bq.cell (p := ⟨bx, ox + i * 2 + 1, none⟩) hbx).trans x1
              replace hbx := Nat.lt_of_lt_of_le hbx bq.size
              clear bq
              generalize wr.drewN nq = wv at *
              have HR2 := Lib.hid (show (insR ltS ys x).flatMap Sector.enc = (ys.take k).flatMap Sector.enc ++ [.int .i64 x.cell, .int .i64 x.chance] ++ (ys.drop k).flatMap Sector.enc by
                rw [insR_at ltS HPE.out, List.flatMap_append, List.flatMap_cons, List.append_assoc]; rfl)
              have hpre := (Sees.of_own own).takeB_ (by decide) (fun _ => rfl) k hk
              by_cases hck : c' = k
              · have hsuf : Sees wv 0 2 (some ⟨g, 0, none⟩) 0 ((ys.drop k).flatMap Sector.enc) := by
                  rw [List.drop_of_length_le (by rw [HYL.out]; omega)]; exact Sees.nil _ _ _ _
                have hkc : k = c' := hck.symm
                subst hkc
                clear own
                go_wp2_with fail
                have J1 := (Quiet.one wv).below wv.heap.size
                refine wp_region_held_drew (S := fun w' => w'.cell? ⟨bx, ox + i * 2, none⟩ = some (.int .i64 x.cell) ∧ w'.cell? ⟨bx, ox + i * 2 + 1, none⟩ = some (.int .i64 x.chance)) (by kernel_rfl) (⟨(J1.cell (p := ⟨bx, ox + i * 2, none⟩) hbx).trans x0, (J1.cell (p := ⟨bx, ox + i * 2 + 1, none⟩) hbx).trans x1⟩) (fun hHeld => ?_)
                generalize wv.drew = wi1 at *
                refine wpAnyH_take (i := 1) (v := ?_) rfl (by kernel_rfl) (by kernel_rfl) (by kernel_rfl) (fun _ _ _ h => h) (Or.inl ⟨by rfl, ?_⟩) (by assumption) ?_
                rotate_left 1
                · (intro w hSw; (try dsimp only at hSw); go_simp; try with_reducible rfl)
                (try simp only [Act.put, List.setIfInBounds_toArray, List.set_cons_zero, List.set_cons_succ, List.getElem_toArray, List.getElem_cons_zero, List.getElem_cons_succ])
                refine wpAnyH_take (i := 2) (v := ?_) rfl (by kernel_rfl) (by kernel_rfl) (by kernel_rfl) (fun _ _ _ h => h) (Or.inl ⟨by rfl, ?_⟩) (by assumption) ?_
                rotate_left 1
                · (intro w hSw; (try dsimp only at hSw); go_simp; try with_reducible rfl)
                (try simp only [Act.put, List.setIfInBounds_toArray, List.set_cons_zero, List.set_cons_succ, List.getElem_toArray, List.getElem_cons_zero, List.getElem_cons_succ])
                refine wpAnyH_take (i := 3) (v := ?_) rfl (by kernel_rfl) (by kernel_rfl) (by kernel_rfl) (fun _ _ _ h => h) (Or.inl ⟨by rfl, ?_⟩) (by assumption) ?_
                rotate_left 1
                · (intro w hSw; (try dsimp only at hSw); go_simp; try with_reducible rfl)
                (try simp only [Act.put, List.setIfInBounds_toArray, List.set_cons_zero, List.set_cons_succ, List.getElem_toArray, List.getElem_cons_zero, List.getElem_cons_succ])
                refine wpAnyH_take (i := 5) (v := ?_) rfl (by kernel_rfl) (by kernel_rfl) (by kernel_rfl) (fun _ _ _ h => h) (Or.inl ⟨by rfl, ?_⟩) (by assumption) ?_
                rotate_left 1
                · (intro w hSw; (try dsimp only at hSw); go_simp; try with_reducible rfl)
                (try simp only [Act.put, List.setIfInBounds_toArray, List.set_cons_zero, List.set_cons_succ, List.getElem_toArray, List.getElem_cons_zero, List.getElem_cons_succ])
                refine wpAnyH_take (i := 6) (v := ?_) rfl (by kernel_rfl) (by kernel_rfl) (by kernel_rfl) (fun _ _ _ h => h) (Or.inl ⟨by rfl, ?_⟩) (by assumption) ?_
                rotate_left 1
                · (intro w hSw; (try dsimp only at hSw); go_simp; try with_reducible rfl)
                (try simp only [Act.put, List.setIfInBounds_toArray, List.set_cons_zero, List.set_cons_succ, List.getElem_toArray, List.getElem_cons_zero, List.getElem_cons_succ])
                refine wpAnyH_take (i := 7) (v := ?_) rfl (by kernel_rfl) (by kernel_rfl) (by kernel_rfl) (fun _ _ _ h => h) (Or.inl ⟨by rfl, ?_⟩) (by assumption) ?_
                rotate_left 1
                · (intro w hSw; (try dsimp only at hSw); go_simp; try with_reducible rfl)
                (try simp only [Act.put, List.setIfInBounds_toArray, List.set_cons_zero, List.set_cons_succ, List.getElem_toArray, List.getElem_cons_zero, List.getElem_cons_succ])
                refine wpAnyH_take (i := 8) (v := ?_) rfl (by kernel_rfl) (by kernel_rfl) (by kernel_rfl) (fun _ _ _ h => h) (Or.inl ⟨by rfl, ?_⟩) (by assumption) ?_
                rotate_left 1
                · (intro w hSw; (try dsimp only at hSw); go_simp; try with_reducible rfl)
                (try simp only [Act.put, List.setIfInBounds_toArray, List.set_cons_zero, List.set_cons_succ, List.getElem_toArray, List.getElem_cons_zero, List.getElem_cons_succ])
                refine wpAnyH_take (i := 11) (v := ?_) rfl (by kernel_rfl) (by kernel_rfl) (by kernel_rfl) (fun _ _ _ h => h) (Or.inl ⟨by rfl, ?_⟩) (by assumption) ?_
                rotate_left 1
                · (intro w hSw; (try dsimp only at hSw); go_simp; try with_reducible rfl)
                (try simp only [Act.put, List.setIfInBounds_toArray, List.set_cons_zero, List.set_cons_succ, List.getElem_toArray, List.getElem_cons_zero, List.getElem_cons_succ])
                refine wpAnyH_take (i := 12) (v := ?_) rfl (by kernel_rfl) (by kernel_rfl) (by kernel_rfl) (fun _ _ _ h => h) (Or.inl ⟨by rfl, ?_⟩) (by assumption) ?_
                rotate_left 1
                · (intro w hSw; (try dsimp only at hSw); go_simp; try with_reducible rfl)
                (try simp only [Act.put, List.setIfInBounds_toArray, List.set_cons_zero, List.set_cons_succ, List.getElem_toArray, List.getElem_cons_zero, List.getElem_cons_succ])
                refine wpAnyH_take (i := 13) (v := ?_) rfl (by kernel_rfl) (by kernel_rfl) (by kernel_rfl) (fun _ _ _ h => h) (Or.inl ⟨by rfl, ?_⟩) (by assumption) ?_
                rotate_left 1
                · (intro w hSw; (try dsimp only at hSw); go_simp; try with_reducible rfl)
                (try simp only [Act.put, List.setIfInBounds_toArray, List.set_cons_zero, List.set_cons_succ, List.getElem_toArray, List.getElem_cons_zero, List.getElem_cons_succ])
                refine wpAnyH_ready (rs := [0, 9]) (by kernel_rfl) (by simp) ?_
                refine AllReadyH.cons rfl (fun K hK => ?_) ?_
                · go_simp
                  have U2 : Below wi1.heap.size wi1 (wi1.alloc (.cells #[] 77)) := (Below.refl _ _).alloc (Nat.le_refl _) _
                  have J2 := bel_then J1 U2
                  refine hK.out _ _ (⟨(J2.cell (p := ⟨bx, ox + i * 2, none⟩) hbx).trans x0, (J2.cell (p := ⟨bx, ox + i * 2 + 1, none⟩) hbx).trans x1⟩) (fun hHeld => ?_)
                  clear hK K
                  (try simp only [Act.put, List.setIfInBounds_toArray, List.set_cons_zero, List.set_cons_succ, List.getElem_toArray, List.getElem_cons_zero])
                  have own := own_base (own_empty wi1 77 2) (show wv.heap.size ≤ wi1.heap.size from J1.size)
                  generalize (wi1.alloc (.cells #[] 77)) = wi2 at *
                  have ownP := own
                  refine wpAnyH_ready (rs := [4, 9]) (by kernel_rfl) (by simp) ?_
                  refine AllReadyH.cons rfl (fun K hK => ?_) ?_
                  · refine step_cat rfl _ _ _ (by rfl) Try.underlying37 info_impl_Sector rfl (by decide) (by rfl) own (by rfl) (m := k) (hpre.next J2) (sec_all _) (by omega) (by omega) (by decide) (by have := J2.size; omega) ?_
                    intro A3 c3 wi3 own3 o3 b3 q3
                    have J3 := J2.trans b3
                    refine hK.out _ _ (⟨(J3.cell (p := ⟨bx, ox + i * 2, none⟩) hbx).trans x0, (J3.cell (p := ⟨bx, ox + i * 2 + 1, none⟩) hbx).trans x1⟩) (fun hHeld => ?_)
                    clear hK K
                    (try simp only [Act.put, List.setIfInBounds_toArray, List.set_cons_zero, List.set_cons_succ, List.getElem_toArray, List.getElem_cons_zero, List.getElem_cons_succ])
                    (try simp only [Nat.zero_add])
                    simp only [Nat.zero_add, List.nil_append] at own3
                    replace own := own3
                    clear own3
                    replace ownP := own
                    refine wpAnyH_ready (rs := [9]) (by kernel_rfl) (by simp) ?_
                    refine AllReadyH.cons rfl (fun K hK => ?_) AllReadyH.nil
                    go_simp
                    have U4 : Below wi3.heap.size wi3 (wi3.alloc (.cells #[.int .i64 x.cell, .int .i64 x.chance] 77)) := (Below.refl _ _).alloc (Nat.le_refl _) _
                    have J4 := bel_then J3 U4
                    refine hK.out _ _ (⟨(J4.cell (p := ⟨bx, ox + i * 2, none⟩) hbx).trans x0, (J4.cell (p := ⟨bx, ox + i * 2 + 1, none⟩) hbx).trans x1⟩) (fun hHeld => ?_)
                    clear hK K
                    (try simp only [Act.put, List.setIfInBounds_toArray, List.set_cons_zero, List.set_cons_succ, List.getElem_toArray, List.getElem_cons_zero, List.getElem_cons_succ])
                    replace own := own_below own U4
                    have box : Blk (wi3.alloc (.cells #[.int .i64 x.cell, .int .i64 x.chance] 77)) wi3.heap.size 77 [.int .i64 x.cell, .int .i64 x.chance] := Blk.at_ rfl
                    have lb := box.lt
                    have hne : ∀ b, OwnB A3 b → b ≠ wi3.heap.size := fun b hb => by have := (own_top ownP hb).2; omega
                    generalize (wi3.alloc (.cells #[.int .i64 x.cell, .int .i64 x.chance] 77)) = wi4 at *
                    replace ownP := own
                    refine wpAnyH_ready (rs := [10]) (by kernel_rfl) (by simp) ?_
                    refine AllReadyH.cons rfl (fun K hK => ?_) AllReadyH.nil
                    refine step_cat rfl _ _ _ (by rfl) Try.underlying37 info_impl_Sector rfl (by decide) (by rfl) own (by rfl) (m := 1) (box.sees (s := 2) (Nat.zero_le _) rfl) (by simp [Value.oneCell']) (by omega) (by omega) (by decide) (by have := J4.size; omega) ?_
                    intro A5 c5 wi5 own5 o5 b5 q5
                    have J5 := J4.trans b5
                    refine hK.out _ _ (⟨(J5.cell (p := ⟨bx, ox + i * 2, none⟩) hbx).trans x0, (J5.cell (p := ⟨bx, ox + i * 2 + 1, none⟩) hbx).trans x1⟩) (fun hHeld => ?_)
                    clear hK K
                    (try simp only [Act.put, List.setIfInBounds_toArray, List.set_cons_zero, List.set_cons_succ, List.getElem_toArray, List.getElem_cons_zero, List.getElem_cons_succ])
                    replace own := own5
                    clear own5
                    refine wpAnyH_ready (rs := [14]) (by kernel_rfl) (by simp) ?_
                    refine AllReadyH.cons rfl (fun K hK => ?_) AllReadyH.nil
                    refine step_cat rfl _ _ _ (by rfl) Try.underlying37 info_impl_Sector rfl (by decide) (by rfl) own (by rfl) (m := 0) (hsuf.next J5) (sec_all _) (by omega) (by omega) (by decide) (by have := J5.size; omega) ?_
                    intro A6 c6 wi6 own6 o6 b6 q6
                    have J6 := J5.trans b6
                    refine hK.out _ _ (⟨(J6.cell (p := ⟨bx, ox + i * 2, none⟩) hbx).trans x0, (J6.cell (p := ⟨bx, ox + i * 2 + 1, none⟩) hbx).trans x1⟩) (fun hHeld => ?_)
                    clear hK K
                    (try simp only [Act.put, List.setIfInBounds_toArray, List.set_cons_zero, List.set_cons_succ, List.getElem_toArray, List.getElem_cons_zero, List.getElem_cons_succ])
                    replace own := own6
                    clear own6
                    refine wpAnyH_take (i := 15) (v := ?_) rfl (by kernel_rfl) (by kernel_rfl) (by kernel_rfl) (fun _ _ _ h => h) (Or.inl ⟨by rfl, ?_⟩) (by assumption) ?_
                    rotate_left 1
                    · (intro w hSw; (try dsimp only at hSw); go_simp; try with_reducible rfl)
                    (try simp only [Act.put, List.setIfInBounds_toArray, List.set_cons_zero, List.set_cons_succ, List.getElem_toArray, List.getElem_cons_zero, List.getElem_cons_succ])
                    refine wpAnyH_done (by kernel_rfl) ?_ _
                    go_wp2_with fail
                    rw [show k + 1 + 0 = i + 1 by omega] at own
                    obtain ⟨g4, cap4, hv4, -, -⟩ := own.form (Nat.succ_pos _)
                    injection hv4 with hA4 _ _
                    subst hA4
                    go_roundw
                    case rel => exact ⟨i + 1, g4, _, by omega, by go_num, by congr 1; omega, by rw [HIN.out, HR2.out]; exact own_base own K.size, bel_then K J6⟩
                    case measure => simp [intOf]; omega
                  refine AllReadyH.cons rfl (fun K hK => ?_) AllReadyH.nil
                  · go_simp
                    have U3 : Below wi2.heap.size wi2 (wi2.alloc (.cells #[.int .i64 x.cell, .int .i64 x.chance] 77)) := (Below.refl _ _).alloc (Nat.le_refl _) _
                    have J3 := bel_then J2 U3
                    refine hK.out _ _ (⟨(J3.cell (p := ⟨bx, ox + i * 2, none⟩) hbx).trans x0, (J3.cell (p := ⟨bx, ox + i * 2 + 1, none⟩) hbx).trans x1⟩) (fun hHeld => ?_)
                    clear hK K
                    (try simp only [Act.put, List.setIfInBounds_toArray, List.set_cons_zero, List.set_cons_succ, List.getElem_toArray, List.getElem_cons_zero, List.getElem_cons_succ])
                    replace own := own_below own U3
                    have box : Blk (wi2.alloc (.cells #[.int .i64 x.cell, .int .i64 x.chance] 77)) wi2.heap.size 77 [.int .i64 x.cell, .int .i64 x.chance] := Blk.at_ rfl
                    have lb := box.lt
                    have hne : ∀ b, OwnB (some ⟨wi1.heap.size, 0, none⟩) b → b ≠ wi2.heap.size := fun b hb => by have := (own_top ownP hb).2; omega
                    generalize (wi2.alloc (.cells #[.int .i64 x.cell, .int .i64 x.chance] 77)) = wi3 at *
                    replace ownP := own
                    refine wpAnyH_ready (rs := [4]) (by kernel_rfl) (by simp) ?_
                    refine AllReadyH.cons rfl (fun K hK => ?_) AllReadyH.nil
                    refine step_cat rfl _ _ _ (by rfl) Try.underlying37 info_impl_Sector rfl (by decide) (by rfl) own (by rfl) (m := k) (hpre.next J3) (sec_all _) (by omega) (by omega) (by decide) (by have := J3.size; omega) ?_
                    intro A4 c4 wi4 own4 o4 b4 q4
                    have J4 := J3.trans b4
                    refine hK.out _ _ (⟨(J4.cell (p := ⟨bx, ox + i * 2, none⟩) hbx).trans x0, (J4.cell (p := ⟨bx, ox + i * 2 + 1, none⟩) hbx).trans x1⟩) (fun hHeld => ?_)
                    clear hK K
                    (try simp only [Act.put, List.setIfInBounds_toArray, List.set_cons_zero, List.set_cons_succ, List.getElem_toArray, List.getElem_cons_zero, List.getElem_cons_succ])
                    (try simp only [Nat.zero_add])
                    replace box := box.only o4 (fun h => hne _ h rfl)
                    simp only [Nat.zero_add, List.nil_append] at own4
                    replace own := own4
                    clear own4
                    replace ownP := own
                    refine wpAnyH_ready (rs := [10]) (by kernel_rfl) (by simp) ?_
                    refine AllReadyH.cons rfl (fun K hK => ?_) AllReadyH.nil
                    refine step_cat rfl _ _ _ (by rfl) Try.underlying37 info_impl_Sector rfl (by decide) (by rfl) own (by rfl) (m := 1) (box.sees (s := 2) (Nat.zero_le _) rfl) (by simp [Value.oneCell']) (by omega) (by omega) (by decide) (by have := J4.size; omega) ?_
                    intro A5 c5 wi5 own5 o5 b5 q5
                    have J5 := J4.trans b5
                    refine hK.out _ _ (⟨(J5.cell (p := ⟨bx, ox + i * 2, none⟩) hbx).trans x0, (J5.cell (p := ⟨bx, ox + i * 2 + 1, none⟩) hbx).trans x1⟩) (fun hHeld => ?_)
                    clear hK K
                    (try simp only [Act.put, List.setIfInBounds_toArray, List.set_cons_zero, List.set_cons_succ, List.getElem_toArray, List.getElem_cons_zero, List.getElem_cons_succ])
                    replace own := own5
                    clear own5
                    refine wpAnyH_ready (rs := [14]) (by kernel_rfl) (by simp) ?_
                    refine AllReadyH.cons rfl (fun K hK => ?_) AllReadyH.nil
                    refine step_cat rfl _ _ _ (by rfl) Try.underlying37 info_impl_Sector rfl (by decide) (by rfl) own (by rfl) (m := 0) (hsuf.next J5) (sec_all _) (by omega) (by omega) (by decide) (by have := J5.size; omega) ?_
                    intro A6 c6 wi6 own6 o6 b6 q6
                    have J6 := J5.trans b6
                    refine hK.out _ _ (⟨(J6.cell (p := ⟨bx, ox + i * 2, none⟩) hbx).trans x0, (J6.cell (p := ⟨bx, ox + i * 2 + 1, none⟩) hbx).trans x1⟩) (fun hHeld => ?_)
                    clear hK K
                    (try simp only [Act.put, List.setIfInBounds_toArray, List.set_cons_zero, List.set_cons_succ, List.getElem_toArray, List.getElem_cons_zero, List.getElem_cons_succ])
                    replace own := own6
                    clear own6
                    refine wpAnyH_take (i := 15) (v := ?_) rfl (by kernel_rfl) (by kernel_rfl) (by kernel_rfl) (fun _ _ _ h => h) (Or.inl ⟨by rfl, ?_⟩) (by assumption) ?_
                    rotate_left 1
                    · (intro w hSw; (try dsimp only at hSw); go_simp; try with_reducible rfl)
                    (try simp only [Act.put, List.setIfInBounds_toArray, List.set_cons_zero, List.set_cons_succ, List.getElem_toArray, List.getElem_cons_zero, List.getElem_cons_succ])
                    refine wpAnyH_done (by kernel_rfl) ?_ _
                    go_wp2_with fail
                    rw [show k + 1 + 0 = i + 1 by omega] at own
                    obtain ⟨g4, cap4, hv4, -, -⟩ := own.form (Nat.succ_pos _)
                    injection hv4 with hA4 _ _
                    subst hA4
                    go_roundw
                    case rel => exact ⟨i + 1, g4, _, by omega, by go_num, by congr 1; omega, by rw [HIN.out, HR2.out]; exact own_base own K.size, bel_then K J6⟩
                    case measure => simp [intOf]; omega
                refine AllReadyH.cons rfl (fun K hK => ?_) AllReadyH.nil
                · go_simp
                  have U2 : Below wi1.heap.size wi1 (wi1.alloc (.cells #[.int .i64 x.cell, .int .i64 x.chance] 77)) := (Below.refl _ _).alloc (Nat.le_refl _) _
                  have J2 := bel_then J1 U2
                  refine hK.out _ _ (⟨(J2.cell (p := ⟨bx, ox + i * 2, none⟩) hbx).trans x0, (J2.cell (p := ⟨bx, ox + i * 2 + 1, none⟩) hbx).trans x1⟩) (fun hHeld => ?_)
                  clear hK K
                  (try simp only [Act.put, List.setIfInBounds_toArray, List.set_cons_zero, List.set_cons_succ, List.getElem_toArray, List.getElem_cons_zero, List.getElem_cons_succ])
                  have box : Blk (wi1.alloc (.cells #[.int .i64 x.cell, .int .i64 x.chance] 77)) wi1.heap.size 77 [.int .i64 x.cell, .int .i64 x.chance] := Blk.at_ rfl
                  have lb := box.lt
                  generalize (wi1.alloc (.cells #[.int .i64 x.cell, .int .i64 x.chance] 77)) = wi2 at *
                  refine wpAnyH_ready (rs := [0]) (by kernel_rfl) (by simp) ?_
                  refine AllReadyH.cons rfl (fun K hK => ?_) AllReadyH.nil
                  go_simp
                  have U3 : Below wi2.heap.size wi2 (wi2.alloc (.cells #[] 77)) := (Below.refl _ _).alloc (Nat.le_refl _) _
                  have J3 := bel_then J2 U3
                  refine hK.out _ _ (⟨(J3.cell (p := ⟨bx, ox + i * 2, none⟩) hbx).trans x0, (J3.cell (p := ⟨bx, ox + i * 2 + 1, none⟩) hbx).trans x1⟩) (fun hHeld => ?_)
                  clear hK K
                  (try simp only [Act.put, List.setIfInBounds_toArray, List.set_cons_zero, List.set_cons_succ, List.getElem_toArray, List.getElem_cons_zero])
                  replace box := box.next U3
                  have own := own_base (own_empty wi2 77 2) (show wv.heap.size ≤ wi2.heap.size from J2.size)
                  have hne : ∀ b, OwnB (some ⟨wi2.heap.size, 0, none⟩) b → b ≠ wi1.heap.size := fun b hb => by have h4 : wi2.heap.size = b := (by simpa [OwnB, Value.ownBlock] using hb); have h5 := lb; omega
                  generalize (wi2.alloc (.cells #[] 77)) = wi3 at *
                  have ownP := own
                  refine wpAnyH_ready (rs := [4]) (by kernel_rfl) (by simp) ?_
                  refine AllReadyH.cons rfl (fun K hK => ?_) AllReadyH.nil
                  refine step_cat rfl _ _ _ (by rfl) Try.underlying37 info_impl_Sector rfl (by decide) (by rfl) own (by rfl) (m := k) (hpre.next J3) (sec_all _) (by omega) (by omega) (by decide) (by have := J3.size; omega) ?_
                  intro A4 c4 wi4 own4 o4 b4 q4
                  have J4 := J3.trans b4
                  refine hK.out _ _ (⟨(J4.cell (p := ⟨bx, ox + i * 2, none⟩) hbx).trans x0, (J4.cell (p := ⟨bx, ox + i * 2 + 1, none⟩) hbx).trans x1⟩) (fun hHeld => ?_)
                  clear hK K
                  (try simp only [Act.put, List.setIfInBounds_toArray, List.set_cons_zero, List.set_cons_succ, List.getElem_toArray, List.getElem_cons_zero, List.getElem_cons_succ])
                  (try simp only [Nat.zero_add])
                  replace box := box.only o4 (fun h => hne _ h rfl)
                  simp only [Nat.zero_add, List.nil_append] at own4
                  replace own := own4
                  clear own4
                  replace ownP := own
                  refine wpAnyH_ready (rs := [10]) (by kernel_rfl) (by simp) ?_
                  refine AllReadyH.cons rfl (fun K hK => ?_) AllReadyH.nil
                  refine step_cat rfl _ _ _ (by rfl) Try.underlying37 info_impl_Sector rfl (by decide) (by rfl) own (by rfl) (m := 1) (box.sees (s := 2) (Nat.zero_le _) rfl) (by simp [Value.oneCell']) (by omega) (by omega) (by decide) (by have := J4.size; omega) ?_
                  intro A5 c5 wi5 own5 o5 b5 q5
                  have J5 := J4.trans b5
                  refine hK.out _ _ (⟨(J5.cell (p := ⟨bx, ox + i * 2, none⟩) hbx).trans x0, (J5.cell (p := ⟨bx, ox + i * 2 + 1, none⟩) hbx).trans x1⟩) (fun hHeld => ?_)
                  clear hK K
                  (try simp only [Act.put, List.setIfInBounds_toArray, List.set_cons_zero, List.set_cons_succ, List.getElem_toArray, List.getElem_cons_zero, List.getElem_cons_succ])
                  replace own := own5
                  clear own5
                  refine wpAnyH_ready (rs := [14]) (by kernel_rfl) (by simp) ?_
                  refine AllReadyH.cons rfl (fun K hK => ?_) AllReadyH.nil
                  refine step_cat rfl _ _ _ (by rfl) Try.underlying37 info_impl_Sector rfl (by decide) (by rfl) own (by rfl) (m := 0) (hsuf.next J5) (sec_all _) (by omega) (by omega) (by decide) (by have := J5.size; omega) ?_
                  intro A6 c6 wi6 own6 o6 b6 q6
                  have J6 := J5.trans b6
                  refine hK.out _ _ (⟨(J6.cell (p := ⟨bx, ox + i * 2, none⟩) hbx).trans x0, (J6.cell (p := ⟨bx, ox + i * 2 + 1, none⟩) hbx).trans x1⟩) (fun hHeld => ?_)
                  clear hK K
                  (try simp only [Act.put, List.setIfInBounds_toArray, List.set_cons_zero, List.set_cons_succ, List.getElem_toArray, List.getElem_cons_zero, List.getElem_cons_succ])
                  replace own := own6
                  clear own6
                  refine wpAnyH_take (i := 15) (v := ?_) rfl (by kernel_rfl) (by kernel_rfl) (by kernel_rfl) (fun _ _ _ h => h) (Or.inl ⟨by rfl, ?_⟩) (by assumption) ?_
                  rotate_left 1
                  · (intro w hSw; (try dsimp only at hSw); go_simp; try with_reducible rfl)
                  (try simp only [Act.put, List.setIfInBounds_toArray, List.set_cons_zero, List.set_cons_succ, List.getElem_toArray, List.getElem_cons_zero, List.getElem_cons_succ])
                  refine wpAnyH_done (by kernel_rfl) ?_ _
                  go_wp2_with fail
                  rw [show k + 1 + 0 = i + 1 by omega] at own
                  obtain ⟨g4, cap4, hv4, -, -⟩ := own.form (Nat.succ_pos _)
                  injection hv4 with hA4 _ _
                  subst hA4
                  go_roundw
                  case rel => exact ⟨i + 1, g4, _, by omega, by go_num, by congr 1; omega, by rw [HIN.out, HR2.out]; exact own_base own K.size, bel_then K J6⟩
                  case measure => simp [intOf]; omega
              · have hsuf := (Sees.of_own own).dropB_ (by decide) (fun _ => rfl) k hk
                have hk1 : k ≤ c' := by omega
                clear own
                go_wp2_with fail
                have J1 := (Quiet.one wv).below wv.heap.size
                refine wp_region_held_drew (S := fun w' => w'.cell? ⟨bx, ox + i * 2, none⟩ = some (.int .i64 x.cell) ∧ w'.cell? ⟨bx, ox + i * 2 + 1, none⟩ = some (.int .i64 x.chance)) (by kernel_rfl) (⟨(J1.cell (p := ⟨bx, ox + i * 2, none⟩) hbx).trans x0, (J1.cell (p := ⟨bx, ox + i * 2 + 1, none⟩) hbx).trans x1⟩) (fun hHeld => ?_)
                generalize wv.drew = wi1 at *
                refine wpAnyH_take (i := 1) (v := ?_) rfl (by kernel_rfl) (by kernel_rfl) (by kernel_rfl) (fun _ _ _ h => h) (Or.inl ⟨by rfl, ?_⟩) (by assumption) ?_
                rotate_left 1
                · (intro w hSw; (try dsimp only at hSw); go_simp; try with_reducible rfl)
                (try simp only [Act.put, List.setIfInBounds_toArray, List.set_cons_zero, List.set_cons_succ, List.getElem_toArray, List.getElem_cons_zero, List.getElem_cons_succ])
                refine wpAnyH_take (i := 2) (v := ?_) rfl (by kernel_rfl) (by kernel_rfl) (by kernel_rfl) (fun _ _ _ h => h) (Or.inl ⟨by rfl, ?_⟩) (by assumption) ?_
                rotate_left 1
                · (intro w hSw; (try dsimp only at hSw); go_simp; try with_reducible rfl)
                (try simp only [Act.put, List.setIfInBounds_toArray, List.set_cons_zero, List.set_cons_succ, List.getElem_toArray, List.getElem_cons_zero, List.getElem_cons_succ])
                refine wpAnyH_take (i := 3) (v := ?_) rfl (by kernel_rfl) (by kernel_rfl) (by kernel_rfl) (fun _ _ _ h => h) (Or.inl ⟨by rfl, ?_⟩) (by assumption) ?_
                rotate_left 1
                · (intro w hSw; (try dsimp only at hSw); go_simp; try with_reducible rfl)
                (try simp only [Act.put, List.setIfInBounds_toArray, List.set_cons_zero, List.set_cons_succ, List.getElem_toArray, List.getElem_cons_zero, List.getElem_cons_succ])
                refine wpAnyH_take (i := 5) (v := ?_) rfl (by kernel_rfl) (by kernel_rfl) (by kernel_rfl) (fun _ _ _ h => h) (Or.inl ⟨by rfl, ?_⟩) (by assumption) ?_
                rotate_left 1
                · (intro w hSw; (try dsimp only at hSw); go_simp; try with_reducible rfl)
                (try simp only [Act.put, List.setIfInBounds_toArray, List.set_cons_zero, List.set_cons_succ, List.getElem_toArray, List.getElem_cons_zero, List.getElem_cons_succ])
                refine wpAnyH_take (i := 6) (v := ?_) rfl (by kernel_rfl) (by kernel_rfl) (by kernel_rfl) (fun _ _ _ h => h) (Or.inl ⟨by rfl, ?_⟩) (by assumption) ?_
                rotate_left 1
                · (intro w hSw; (try dsimp only at hSw); go_simp; try with_reducible rfl)
                (try simp only [Act.put, List.setIfInBounds_toArray, List.set_cons_zero, List.set_cons_succ, List.getElem_toArray, List.getElem_cons_zero, List.getElem_cons_succ])
                refine wpAnyH_take (i := 7) (v := ?_) rfl (by kernel_rfl) (by kernel_rfl) (by kernel_rfl) (fun _ _ _ h => h) (Or.inl ⟨by rfl, ?_⟩) (by assumption) ?_
                rotate_left 1
                · (intro w hSw; (try dsimp only at hSw); go_simp; try with_reducible rfl)
                (try simp only [Act.put, List.setIfInBounds_toArray, List.set_cons_zero, List.set_cons_succ, List.getElem_toArray, List.getElem_cons_zero, List.getElem_cons_succ])
                refine wpAnyH_take (i := 8) (v := ?_) rfl (by kernel_rfl) (by kernel_rfl) (by kernel_rfl) (fun _ _ _ h => h) (Or.inl ⟨by rfl, ?_⟩) (by assumption) ?_
                rotate_left 1
                · (intro w hSw; (try dsimp only at hSw); go_simp; try with_reducible rfl)
                (try simp only [Act.put, List.setIfInBounds_toArray, List.set_cons_zero, List.set_cons_succ, List.getElem_toArray, List.getElem_cons_zero, List.getElem_cons_succ])
                refine wpAnyH_take (i := 11) (v := ?_) rfl (by kernel_rfl) (by kernel_rfl) (by kernel_rfl) (fun _ _ _ h => h) (Or.inl ⟨by rfl, ?_⟩) (by assumption) ?_
                rotate_left 1
                · (intro w hSw; (try dsimp only at hSw); go_simp; try with_reducible rfl)
                (try simp only [Act.put, List.setIfInBounds_toArray, List.set_cons_zero, List.set_cons_succ, List.getElem_toArray, List.getElem_cons_zero, List.getElem_cons_succ])
                refine wpAnyH_take (i := 12) (v := ?_) rfl (by kernel_rfl) (by kernel_rfl) (by kernel_rfl) (fun _ _ _ h => h) (Or.inl ⟨by rfl, ?_⟩) (by assumption) ?_
                rotate_left 1
                · (intro w hSw; (try dsimp only at hSw); go_simp; try with_reducible rfl)
                (try simp only [Act.put, List.setIfInBounds_toArray, List.set_cons_zero, List.set_cons_succ, List.getElem_toArray, List.getElem_cons_zero, List.getElem_cons_succ])
                refine wpAnyH_take (i := 13) (v := ?_) rfl (by kernel_rfl) (by kernel_rfl) (by kernel_rfl) (fun _ _ _ h => h) (Or.inl ⟨by rfl, ?_⟩) (by assumption) ?_
                rotate_left 1
                · (intro w hSw; (try dsimp only at hSw); go_simp; try with_reducible rfl)
                (try simp only [Act.put, List.setIfInBounds_toArray, List.set_cons_zero, List.set_cons_succ, List.getElem_toArray, List.getElem_cons_zero, List.getElem_cons_succ])
                refine wpAnyH_ready (rs := [0, 9]) (by kernel_rfl) (by simp) ?_
                refine AllReadyH.cons rfl (fun K hK => ?_) ?_
                · go_simp
                  have U2 : Below wi1.heap.size wi1 (wi1.alloc (.cells #[] 77)) := (Below.refl _ _).alloc (Nat.le_refl _) _
                  have J2 := bel_then J1 U2
                  refine hK.out _ _ (⟨(J2.cell (p := ⟨bx, ox + i * 2, none⟩) hbx).trans x0, (J2.cell (p := ⟨bx, ox + i * 2 + 1, none⟩) hbx).trans x1⟩) (fun hHeld => ?_)
                  clear hK K
                  (try simp only [Act.put, List.setIfInBounds_toArray, List.set_cons_zero, List.set_cons_succ, List.getElem_toArray, List.getElem_cons_zero])
                  have own := own_base (own_empty wi1 77 2) (show wv.heap.size ≤ wi1.heap.size from J1.size)
                  generalize (wi1.alloc (.cells #[] 77)) = wi2 at *
                  have ownP := own
                  refine wpAnyH_ready (rs := [4, 9]) (by kernel_rfl) (by simp) ?_
                  refine AllReadyH.cons rfl (fun K hK => ?_) ?_
                  · refine step_cat rfl _ _ _ (by rfl) Try.underlying37 info_impl_Sector rfl (by decide) (by rfl) own (by rfl) (m := k) (hpre.next J2) (sec_all _) (by omega) (by omega) (by decide) (by have := J2.size; omega) ?_
                    intro A3 c3 wi3 own3 o3 b3 q3
                    have J3 := J2.trans b3
                    refine hK.out _ _ (⟨(J3.cell (p := ⟨bx, ox + i * 2, none⟩) hbx).trans x0, (J3.cell (p := ⟨bx, ox + i * 2 + 1, none⟩) hbx).trans x1⟩) (fun hHeld => ?_)
                    clear hK K
                    (try simp only [Act.put, List.setIfInBounds_toArray, List.set_cons_zero, List.set_cons_succ, List.getElem_toArray, List.getElem_cons_zero, List.getElem_cons_succ])
                    (try simp only [Nat.zero_add])
                    simp only [Nat.zero_add, List.nil_append] at own3
                    replace own := own3
                    clear own3
                    replace ownP := own
                    refine wpAnyH_ready (rs := [9]) (by kernel_rfl) (by simp) ?_
                    refine AllReadyH.cons rfl (fun K hK => ?_) AllReadyH.nil
                    go_simp
                    have U4 : Below wi3.heap.size wi3 (wi3.alloc (.cells #[.int .i64 x.cell, .int .i64 x.chance] 77)) := (Below.refl _ _).alloc (Nat.le_refl _) _
                    have J4 := bel_then J3 U4
                    refine hK.out _ _ (⟨(J4.cell (p := ⟨bx, ox + i * 2, none⟩) hbx).trans x0, (J4.cell (p := ⟨bx, ox + i * 2 + 1, none⟩) hbx).trans x1⟩) (fun hHeld => ?_)
                    clear hK K
                    (try simp only [Act.put, List.setIfInBounds_toArray, List.set_cons_zero, List.set_cons_succ, List.getElem_toArray, List.getElem_cons_zero, List.getElem_cons_succ])
                    replace own := own_below own U4
                    have box : Blk (wi3.alloc (.cells #[.int .i64 x.cell, .int .i64 x.chance] 77)) wi3.heap.size 77 [.int .i64 x.cell, .int .i64 x.chance] := Blk.at_ rfl
                    have lb := box.lt
                    have hne : ∀ b, OwnB A3 b → b ≠ wi3.heap.size := fun b hb => by have := (own_top ownP hb).2; omega
                    generalize (wi3.alloc (.cells #[.int .i64 x.cell, .int .i64 x.chance] 77)) = wi4 at *
                    replace ownP := own
                    refine wpAnyH_ready (rs := [10]) (by kernel_rfl) (by simp) ?_
                    refine AllReadyH.cons rfl (fun K hK => ?_) AllReadyH.nil
                    refine step_cat rfl _ _ _ (by rfl) Try.underlying37 info_impl_Sector rfl (by decide) (by rfl) own (by rfl) (m := 1) (box.sees (s := 2) (Nat.zero_le _) rfl) (by simp [Value.oneCell']) (by omega) (by omega) (by decide) (by have := J4.size; omega) ?_
                    intro A5 c5 wi5 own5 o5 b5 q5
                    have J5 := J4.trans b5
                    refine hK.out _ _ (⟨(J5.cell (p := ⟨bx, ox + i * 2, none⟩) hbx).trans x0, (J5.cell (p := ⟨bx, ox + i * 2 + 1, none⟩) hbx).trans x1⟩) (fun hHeld => ?_)
                    clear hK K
                    (try simp only [Act.put, List.setIfInBounds_toArray, List.set_cons_zero, List.set_cons_succ, List.getElem_toArray, List.getElem_cons_zero, List.getElem_cons_succ])
                    replace own := own5
                    clear own5
                    refine wpAnyH_ready (rs := [14]) (by kernel_rfl) (by simp) ?_
                    refine AllReadyH.cons rfl (fun K hK => ?_) AllReadyH.nil
                    refine step_cat rfl _ _ _ (by rfl) Try.underlying37 info_impl_Sector rfl (by decide) (by rfl) own (by rfl) (m := (i - k)) (hsuf.next J5) (sec_all _) (by omega) (by omega) (by decide) (by have := J5.size; omega) ?_
                    intro A6 c6 wi6 own6 o6 b6 q6
                    have J6 := J5.trans b6
                    refine hK.out _ _ (⟨(J6.cell (p := ⟨bx, ox + i * 2, none⟩) hbx).trans x0, (J6.cell (p := ⟨bx, ox + i * 2 + 1, none⟩) hbx).trans x1⟩) (fun hHeld => ?_)
                    clear hK K
                    (try simp only [Act.put, List.setIfInBounds_toArray, List.set_cons_zero, List.set_cons_succ, List.getElem_toArray, List.getElem_cons_zero, List.getElem_cons_succ])
                    replace own := own6
                    clear own6
                    refine wpAnyH_take (i := 15) (v := ?_) rfl (by kernel_rfl) (by kernel_rfl) (by kernel_rfl) (fun _ _ _ h => h) (Or.inl ⟨by rfl, ?_⟩) (by assumption) ?_
                    rotate_left 1
                    · (intro w hSw; (try dsimp only at hSw); go_simp; try with_reducible rfl)
                    (try simp only [Act.put, List.setIfInBounds_toArray, List.set_cons_zero, List.set_cons_succ, List.getElem_toArray, List.getElem_cons_zero, List.getElem_cons_succ])
                    refine wpAnyH_done (by kernel_rfl) ?_ _
                    go_wp2_with fail
                    rw [show k + 1 + (i - k) = i + 1 by omega] at own
                    obtain ⟨g4, cap4, hv4, -, -⟩ := own.form (Nat.succ_pos _)
                    injection hv4 with hA4 _ _
                    subst hA4
                    go_roundw
                    case rel => exact ⟨i + 1, g4, _, by omega, by go_num, by congr 1; omega, by rw [HIN.out, HR2.out]; exact own_base own K.size, bel_then K J6⟩
                    case measure => simp [intOf]; omega
                  refine AllReadyH.cons rfl (fun K hK => ?_) AllReadyH.nil
                  · go_simp
                    have U3 : Below wi2.heap.size wi2 (wi2.alloc (.cells #[.int .i64 x.cell, .int .i64 x.chance] 77)) := (Below.refl _ _).alloc (Nat.le_refl _) _
                    have J3 := bel_then J2 U3
                    refine hK.out _ _ (⟨(J3.cell (p := ⟨bx, ox + i * 2, none⟩) hbx).trans x0, (J3.cell (p := ⟨bx, ox + i * 2 + 1, none⟩) hbx).trans x1⟩) (fun hHeld => ?_)
                    clear hK K
                    (try simp only [Act.put, List.setIfInBounds_toArray, List.set_cons_zero, List.set_cons_succ, List.getElem_toArray, List.getElem_cons_zero, List.getElem_cons_succ])
                    replace own := own_below own U3
                    have box : Blk (wi2.alloc (.cells #[.int .i64 x.cell, .int .i64 x.chance] 77)) wi2.heap.size 77 [.int .i64 x.cell, .int .i64 x.chance] := Blk.at_ rfl
                    have lb := box.lt
                    have hne : ∀ b, OwnB (some ⟨wi1.heap.size, 0, none⟩) b → b ≠ wi2.heap.size := fun b hb => by have := (own_top ownP hb).2; omega
                    generalize (wi2.alloc (.cells #[.int .i64 x.cell, .int .i64 x.chance] 77)) = wi3 at *
                    replace ownP := own
                    refine wpAnyH_ready (rs := [4]) (by kernel_rfl) (by simp) ?_
                    refine AllReadyH.cons rfl (fun K hK => ?_) AllReadyH.nil
                    refine step_cat rfl _ _ _ (by rfl) Try.underlying37 info_impl_Sector rfl (by decide) (by rfl) own (by rfl) (m := k) (hpre.next J3) (sec_all _) (by omega) (by omega) (by decide) (by have := J3.size; omega) ?_
                    intro A4 c4 wi4 own4 o4 b4 q4
                    have J4 := J3.trans b4
                    refine hK.out _ _ (⟨(J4.cell (p := ⟨bx, ox + i * 2, none⟩) hbx).trans x0, (J4.cell (p := ⟨bx, ox + i * 2 + 1, none⟩) hbx).trans x1⟩) (fun hHeld => ?_)
                    clear hK K
                    (try simp only [Act.put, List.setIfInBounds_toArray, List.set_cons_zero, List.set_cons_succ, List.getElem_toArray, List.getElem_cons_zero, List.getElem_cons_succ])
                    (try simp only [Nat.zero_add])
                    replace box := box.only o4 (fun h => hne _ h rfl)
                    simp only [Nat.zero_add, List.nil_append] at own4
                    replace own := own4
                    clear own4
                    replace ownP := own
                    refine wpAnyH_ready (rs := [10]) (by kernel_rfl) (by simp) ?_
                    refine AllReadyH.cons rfl (fun K hK => ?_) AllReadyH.nil
                    refine step_cat rfl _ _ _ (by rfl) Try.underlying37 info_impl_Sector rfl (by decide) (by rfl) own (by rfl) (m := 1) (box.sees (s := 2) (Nat.zero_le _) rfl) (by simp [Value.oneCell']) (by omega) (by omega) (by decide) (by have := J4.size; omega) ?_
                    intro A5 c5 wi5 own5 o5 b5 q5
                    have J5 := J4.trans b5
                    refine hK.out _ _ (⟨(J5.cell (p := ⟨bx, ox + i * 2, none⟩) hbx).trans x0, (J5.cell (p := ⟨bx, ox + i * 2 + 1, none⟩) hbx).trans x1⟩) (fun hHeld => ?_)
                    clear hK K
                    (try simp only [Act.put, List.setIfInBounds_toArray, List.set_cons_zero, List.set_cons_succ, List.getElem_toArray, List.getElem_cons_zero, List.getElem_cons_succ])
                    replace own := own5
                    clear own5
                    refine wpAnyH_ready (rs := [14]) (by kernel_rfl) (by simp) ?_
                    refine AllReadyH.cons rfl (fun K hK => ?_) AllReadyH.nil
                    refine step_cat rfl _ _ _ (by rfl) Try.underlying37 info_impl_Sector rfl (by decide) (by rfl) own (by rfl) (m := (i - k)) (hsuf.next J5) (sec_all _) (by omega) (by omega) (by decide) (by have := J5.size; omega) ?_
                    intro A6 c6 wi6 own6 o6 b6 q6
                    have J6 := J5.trans b6
                    refine hK.out _ _ (⟨(J6.cell (p := ⟨bx, ox + i * 2, none⟩) hbx).trans x0, (J6.cell (p := ⟨bx, ox + i * 2 + 1, none⟩) hbx).trans x1⟩) (fun hHeld => ?_)
                    clear hK K
                    (try simp only [Act.put, List.setIfInBounds_toArray, List.set_cons_zero, List.set_cons_succ, List.getElem_toArray, List.getElem_cons_zero, List.getElem_cons_succ])
                    replace own := own6
                    clear own6
                    refine wpAnyH_take (i := 15) (v := ?_) rfl (by kernel_rfl) (by kernel_rfl) (by kernel_rfl) (fun _ _ _ h => h) (Or.inl ⟨by rfl, ?_⟩) (by assumption) ?_
                    rotate_left 1
                    · (intro w hSw; (try dsimp only at hSw); go_simp; try with_reducible rfl)
                    (try simp only [Act.put, List.setIfInBounds_toArray, List.set_cons_zero, List.set_cons_succ, List.getElem_toArray, List.getElem_cons_zero, List.getElem_cons_succ])
                    refine wpAnyH_done (by kernel_rfl) ?_ _
                    go_wp2_with fail
                    rw [show k + 1 + (i - k) = i + 1 by omega] at own
                    obtain ⟨g4, cap4, hv4, -, -⟩ := own.form (Nat.succ_pos _)
                    injection hv4 with hA4 _ _
                    subst hA4
                    go_roundw
                    case rel => exact ⟨i + 1, g4, _, by omega, by go_num, by congr 1; omega, by rw [HIN.out, HR2.out]; exact own_base own K.size, bel_then K J6⟩
                    case measure => simp [intOf]; omega
                refine AllReadyH.cons rfl (fun K hK => ?_) AllReadyH.nil
                · go_simp
                  have U2 : Below wi1.heap.size wi1 (wi1.alloc (.cells #[.int .i64 x.cell, .int .i64 x.chance] 77)) := (Below.refl _ _).alloc (Nat.le_refl _) _
                  have J2 := bel_then J1 U2
                  refine hK.out _ _ (⟨(J2.cell (p := ⟨bx, ox + i * 2, none⟩) hbx).trans x0, (J2.cell (p := ⟨bx, ox + i * 2 + 1, none⟩) hbx).trans x1⟩) (fun hHeld => ?_)
                  clear hK K
                  (try simp only [Act.put, List.setIfInBounds_toArray, List.set_cons_zero, List.set_cons_succ, List.getElem_toArray, List.getElem_cons_zero, List.getElem_cons_succ])
                  have box : Blk (wi1.alloc (.cells #[.int .i64 x.cell, .int .i64 x.chance] 77)) wi1.heap.size 77 [.int .i64 x.cell, .int .i64 x.chance] := Blk.at_ rfl
                  have lb := box.lt
                  generalize (wi1.alloc (.cells #[.int .i64 x.cell, .int .i64 x.chance] 77)) = wi2 at *
                  refine wpAnyH_ready (rs := [0]) (by kernel_rfl) (by simp) ?_
                  refine AllReadyH.cons rfl (fun K hK => ?_) AllReadyH.nil
                  go_simp
                  have U3 : Below wi2.heap.size wi2 (wi2.alloc (.cells #[] 77)) := (Below.refl _ _).alloc (Nat.le_refl _) _
                  have J3 := bel_then J2 U3
                  refine hK.out _ _ (⟨(J3.cell (p := ⟨bx, ox + i * 2, none⟩) hbx).trans x0, (J3.cell (p := ⟨bx, ox + i * 2 + 1, none⟩) hbx).trans x1⟩) (fun hHeld => ?_)
                  clear hK K
                  (try simp only [Act.put, List.setIfInBounds_toArray, List.set_cons_zero, List.set_cons_succ, List.getElem_toArray, List.getElem_cons_zero])
                  replace box := box.next U3
                  have own := own_base (own_empty wi2 77 2) (show wv.heap.size ≤ wi2.heap.size from J2.size)
                  have hne : ∀ b, OwnB (some ⟨wi2.heap.size, 0, none⟩) b → b ≠ wi1.heap.size := fun b hb => by have h4 : wi2.heap.size = b := (by simpa [OwnB, Value.ownBlock] using hb); have h5 := lb; omega
                  generalize (wi2.alloc (.cells #[] 77)) = wi3 at *
                  have ownP := own
                  refine wpAnyH_ready (rs := [4]) (by kernel_rfl) (by simp) ?_
                  refine AllReadyH.cons rfl (fun K hK => ?_) AllReadyH.nil
                  refine step_cat rfl _ _ _ (by rfl) Try.underlying37 info_impl_Sector rfl (by decide) (by rfl) own (by rfl) (m := k) (hpre.next J3) (sec_all _) (by omega) (by omega) (by decide) (by have := J3.size; omega) ?_
                  intro A4 c4 wi4 own4 o4 b4 q4
                  have J4 := J3.trans b4
                  refine hK.out _ _ (⟨(J4.cell (p := ⟨bx, ox + i * 2, none⟩) hbx).trans x0, (J4.cell (p := ⟨bx, ox + i * 2 + 1, none⟩) hbx).trans x1⟩) (fun hHeld => ?_)
                  clear hK K
                  (try simp only [Act.put, List.setIfInBounds_toArray, List.set_cons_zero, List.set_cons_succ, List.getElem_toArray, List.getElem_cons_zero, List.getElem_cons_succ])
                  (try simp only [Nat.zero_add])
                  replace box := box.only o4 (fun h => hne _ h rfl)
                  simp only [Nat.zero_add, List.nil_append] at own4
                  replace own := own4
                  clear own4
                  replace ownP := own
                  refine wpAnyH_ready (rs := [10]) (by kernel_rfl) (by simp) ?_
                  refine AllReadyH.cons rfl (fun K hK => ?_) AllReadyH.nil
                  refine step_cat rfl _ _ _ (by rfl) Try.underlying37 info_impl_Sector rfl (by decide) (by rfl) own (by rfl) (m := 1) (box.sees (s := 2) (Nat.zero_le _) rfl) (by simp [Value.oneCell']) (by omega) (by omega) (by decide) (by have := J4.size; omega) ?_
                  intro A5 c5 wi5 own5 o5 b5 q5
                  have J5 := J4.trans b5
                  refine hK.out _ _ (⟨(J5.cell (p := ⟨bx, ox + i * 2, none⟩) hbx).trans x0, (J5.cell (p := ⟨bx, ox + i * 2 + 1, none⟩) hbx).trans x1⟩) (fun hHeld => ?_)
                  clear hK K
                  (try simp only [Act.put, List.setIfInBounds_toArray, List.set_cons_zero, List.set_cons_succ, List.getElem_toArray, List.getElem_cons_zero, List.getElem_cons_succ])
                  replace own := own5
                  clear own5
                  refine wpAnyH_ready (rs := [14]) (by kernel_rfl) (by simp) ?_
                  refine AllReadyH.cons rfl (fun K hK => ?_) AllReadyH.nil
                  refine step_cat rfl _ _ _ (by rfl) Try.underlying37 info_impl_Sector rfl (by decide) (by rfl) own (by rfl) (m := (i - k)) (hsuf.next J5) (sec_all _) (by omega) (by omega) (by decide) (by have := J5.size; omega) ?_
                  intro A6 c6 wi6 own6 o6 b6 q6
                  have J6 := J5.trans b6
                  refine hK.out _ _ (⟨(J6.cell (p := ⟨bx, ox + i * 2, none⟩) hbx).trans x0, (J6.cell (p := ⟨bx, ox + i * 2 + 1, none⟩) hbx).trans x1⟩) (fun hHeld => ?_)
                  clear hK K
                  (try simp only [Act.put, List.setIfInBounds_toArray, List.set_cons_zero, List.set_cons_succ, List.getElem_toArray, List.getElem_cons_zero, List.getElem_cons_succ])
                  replace own := own6
                  clear own6
                  refine wpAnyH_take (i := 15) (v := ?_) rfl (by kernel_rfl) (by kernel_rfl) (by kernel_rfl) (fun _ _ _ h => h) (Or.inl ⟨by rfl, ?_⟩) (by assumption) ?_
                  rotate_left 1
                  · (intro w hSw; (try dsimp only at hSw); go_simp; try with_reducible rfl)
                  (try simp only [Act.put, List.setIfInBounds_toArray, List.set_cons_zero, List.set_cons_succ, List.getElem_toArray, List.getElem_cons_zero, List.getElem_cons_succ])
                  refine wpAnyH_done (by kernel_rfl) ?_ _
                  go_wp2_with fail
                  rw [show k + 1 + (i - k) = i + 1 by omega] at own
                  obtain ⟨g4, cap4, hv4, -, -⟩ := own.form (Nat.succ_pos _)
                  injection hv4 with hA4 _ _
                  subst hA4
                  go_roundw
                  case rel => exact ⟨i + 1, g4, _, by omega, by go_num, by congr 1; omega, by rw [HIN.out, HR2.out]; exact own_base own K.size, bel_then K J6⟩
                  case measure => simp [intOf]; omega
            · obtain ⟨q, hkq⟩ : ∃ q, k = q + 1 := ⟨k - 1, by omega⟩
              have hq : q < ys.length := by rw [HYL.out]; omega
              have HPT := Lib.hid (fun (h : ltS x ys[q] = true) => show posR ltS ys x ys.length = posR ltS ys x q by rw [HP.out, hkq, posR_yes ltS hq h])
              have HPF := Lib.hid (fun (h : ltS x ys[q] = false) => show posR ltS ys x ys.length = k by rw [HP.out, hkq, posR_no ltS hq h])
              have hw1 : IntKind.i64.wrap ((k : Int) - 1) = (q : Int) := by rw [IntWalk.i64_in _ (by omega)]; omega
              have hgt : (0 : Int) < (k : Int) := by omega
              have hi2 : (0 : Int) ≤ (q : Int) := by omega
              have hi3 : (q : Int) < (i : Int) := by omega
              obtain ⟨by_, oy, ey, hky, y0, y1⟩ := (Sees.of_own own).elem2 (fun _ => rfl) (show q < i by omega)
              injection ey with ey
              injection ey with e1 e2
              subst e1 e2
              simp only [Nat.zero_add] at y0 y1
              obtain ⟨y, hy⟩ : ∃ y, ys[q] = y := ⟨_, rfl⟩
              rw [show ys[q] = y from hy] at y0 y1
              rw [hy] at HPT HPF
              have HKQ := Lib.hid hkq
              have HY := Lib.hid hy
              clear HP hy hkq
              by_cases hlt2 : y.chance < x.chance
              · have HPE := Lib.hid (HPT.out (decide_eq_true hlt2))
                clear HPT HPF
                go_wp2_with fail
                go_quiet (fail)
                have bq := (Quiet.mk wr nq).below wr.heap.size
                replace own := own_below own bq
                replace K := bel_then K bq
                replace x0 := (bq.cell (p := ⟨bx, ox + i * 2, none⟩) hbx).trans x0
                replace x1 := (bq.cell (p := ⟨bx, ox + i * 2 + 1, none⟩) hbx).trans x1
                replace hbx := Nat.lt_of_lt_of_le hbx bq.size
                replace HHB := Lib.hid (bel_then HHB.out bq)
                generalize wr.drewN nq = wv at *
                clear y0 y1
                have hkq := HKQ.out
                go_wp2_with fail
                go_roundw
                case rel => exact ⟨q, by omega, rfl, HPE, HHB.out⟩
                case measure => simp [intOf]; omega
              · have HPE := Lib.hid (HPF.out (decide_eq_false hlt2))
                clear HPT HPF
                go_wp2_with fail
                go_quiet (fail)
                have bq := (Quiet.mk wr nq).below wr.heap.size
                replace own := own_below own bq
                replace K := bel_then K bq
                replace x0 := (bq.cell (p := ⟨bx, ox + i * 2, none⟩) hbx).trans x0
                replace x1 := (bq.cell (p := ⟨bx, ox + i * 2 + 1, none⟩) hbx).trans x1
                replace hbx := Nat.lt_of_lt_of_le hbx bq.size
                generalize wr.drewN nq = wv at *
                clear bq y0 y1 hw1 hi2 hi3 HY HKQ
                have HR2 := Lib.hid (show (insR ltS ys x).flatMap Sector.enc = (ys.take k).flatMap Sector.enc ++ [.int .i64 x.cell, .int .i64 x.chance] ++ (ys.drop k).flatMap Sector.enc by
                  rw [insR_at ltS HPE.out, List.flatMap_append, List.flatMap_cons, List.append_assoc]; rfl)
                have hpre := (Sees.of_own own).takeB_ (by decide) (fun _ => rfl) k hk
                by_cases hck : c' = k
                · have hsuf : Sees wv 0 2 (some ⟨g, 0, none⟩) 0 ((ys.drop k).flatMap Sector.enc) := by
                    rw [List.drop_of_length_le (by rw [HYL.out]; omega)]; exact Sees.nil _ _ _ _
                  have hkc : k = c' := hck.symm
                  subst hkc
                  clear own
                  go_wp2_with fail
                  have J1 := (Quiet.one wv).below wv.heap.size
                  refine wp_region_held_drew (S := fun w' => w'.cell? ⟨bx, ox + i * 2, none⟩ = some (.int .i64 x.cell) ∧ w'.cell? ⟨bx, ox + i * 2 + 1, none⟩ = some (.int .i64 x.chance)) (by kernel_rfl) (⟨(J1.cell (p := ⟨bx, ox + i * 2, none⟩) hbx).trans x0, (J1.cell (p := ⟨bx, ox + i * 2 + 1, none⟩) hbx).trans x1⟩) (fun hHeld => ?_)
                  generalize wv.drew = wi1 at *
                  refine wpAnyH_take (i := 1) (v := ?_) rfl (by kernel_rfl) (by kernel_rfl) (by kernel_rfl) (fun _ _ _ h => h) (Or.inl ⟨by rfl, ?_⟩) (by assumption) ?_
                  rotate_left 1
                  · (intro w hSw; (try dsimp only at hSw); go_simp; try with_reducible rfl)
                  (try simp only [Act.put, List.setIfInBounds_toArray, List.set_cons_zero, List.set_cons_succ, List.getElem_toArray, List.getElem_cons_zero, List.getElem_cons_succ])
                  refine wpAnyH_take (i := 2) (v := ?_) rfl (by kernel_rfl) (by kernel_rfl) (by kernel_rfl) (fun _ _ _ h => h) (Or.inl ⟨by rfl, ?_⟩) (by assumption) ?_
                  rotate_left 1
                  · (intro w hSw; (try dsimp only at hSw); go_simp; try with_reducible rfl)
                  (try simp only [Act.put, List.setIfInBounds_toArray, List.set_cons_zero, List.set_cons_succ, List.getElem_toArray, List.getElem_cons_zero, List.getElem_cons_succ])
                  refine wpAnyH_take (i := 3) (v := ?_) rfl (by kernel_rfl) (by kernel_rfl) (by kernel_rfl) (fun _ _ _ h => h) (Or.inl ⟨by rfl, ?_⟩) (by assumption) ?_
                  rotate_left 1
                  · (intro w hSw; (try dsimp only at hSw); go_simp; try with_reducible rfl)
                  (try simp only [Act.put, List.setIfInBounds_toArray, List.set_cons_zero, List.set_cons_succ, List.getElem_toArray, List.getElem_cons_zero, List.getElem_cons_succ])
                  refine wpAnyH_take (i := 5) (v := ?_) rfl (by kernel_rfl) (by kernel_rfl) (by kernel_rfl) (fun _ _ _ h => h) (Or.inl ⟨by rfl, ?_⟩) (by assumption) ?_
                  rotate_left 1
                  · (intro w hSw; (try dsimp only at hSw); go_simp; try with_reducible rfl)
                  (try simp only [Act.put, List.setIfInBounds_toArray, List.set_cons_zero, List.set_cons_succ, List.getElem_toArray, List.getElem_cons_zero, List.getElem_cons_succ])
                  refine wpAnyH_take (i := 6) (v := ?_) rfl (by kernel_rfl) (by kernel_rfl) (by kernel_rfl) (fun _ _ _ h => h) (Or.inl ⟨by rfl, ?_⟩) (by assumption) ?_
                  rotate_left 1
                  · (intro w hSw; (try dsimp only at hSw); go_simp; try with_reducible rfl)
                  (try simp only [Act.put, List.setIfInBounds_toArray, List.set_cons_zero, List.set_cons_succ, List.getElem_toArray, List.getElem_cons_zero, List.getElem_cons_succ])
                  refine wpAnyH_take (i := 7) (v := ?_) rfl (by kernel_rfl) (by kernel_rfl) (by kernel_rfl) (fun _ _ _ h => h) (Or.inl ⟨by rfl, ?_⟩) (by assumption) ?_
                  rotate_left 1
                  · (intro w hSw; (try dsimp only at hSw); go_simp; try with_reducible rfl)
                  (try simp only [Act.put, List.setIfInBounds_toArray, List.set_cons_zero, List.set_cons_succ, List.getElem_toArray, List.getElem_cons_zero, List.getElem_cons_succ])
                  refine wpAnyH_take (i := 8) (v := ?_) rfl (by kernel_rfl) (by kernel_rfl) (by kernel_rfl) (fun _ _ _ h => h) (Or.inl ⟨by rfl, ?_⟩) (by assumption) ?_
                  rotate_left 1
                  · (intro w hSw; (try dsimp only at hSw); go_simp; try with_reducible rfl)
                  (try simp only [Act.put, List.setIfInBounds_toArray, List.set_cons_zero, List.set_cons_succ, List.getElem_toArray, List.getElem_cons_zero, List.getElem_cons_succ])
                  refine wpAnyH_take (i := 11) (v := ?_) rfl (by kernel_rfl) (by kernel_rfl) (by kernel_rfl) (fun _ _ _ h => h) (Or.inl ⟨by rfl, ?_⟩) (by assumption) ?_
                  rotate_left 1
                  · (intro w hSw; (try dsimp only at hSw); go_simp; try with_reducible rfl)
                  (try simp only [Act.put, List.setIfInBounds_toArray, List.set_cons_zero, List.set_cons_succ, List.getElem_toArray, List.getElem_cons_zero, List.getElem_cons_succ])
                  refine wpAnyH_take (i := 12) (v := ?_) rfl (by kernel_rfl) (by kernel_rfl) (by kernel_rfl) (fun _ _ _ h => h) (Or.inl ⟨by rfl, ?_⟩) (by assumption) ?_
                  rotate_left 1
                  · (intro w hSw; (try dsimp only at hSw); go_simp; try with_reducible rfl)
                  (try simp only [Act.put, List.setIfInBounds_toArray, List.set_cons_zero, List.set_cons_succ, List.getElem_toArray, List.getElem_cons_zero, List.getElem_cons_succ])
                  refine wpAnyH_take (i := 13) (v := ?_) rfl (by kernel_rfl) (by kernel_rfl) (by kernel_rfl) (fun _ _ _ h => h) (Or.inl ⟨by rfl, ?_⟩) (by assumption) ?_
                  rotate_left 1
                  · (intro w hSw; (try dsimp only at hSw); go_simp; try with_reducible rfl)
                  (try simp only [Act.put, List.setIfInBounds_toArray, List.set_cons_zero, List.set_cons_succ, List.getElem_toArray, List.getElem_cons_zero, List.getElem_cons_succ])
                  refine wpAnyH_ready (rs := [0, 9]) (by kernel_rfl) (by simp) ?_
                  refine AllReadyH.cons rfl (fun K hK => ?_) ?_
                  · go_simp
                    have U2 : Below wi1.heap.size wi1 (wi1.alloc (.cells #[] 77)) := (Below.refl _ _).alloc (Nat.le_refl _) _
                    have J2 := bel_then J1 U2
                    refine hK.out _ _ (⟨(J2.cell (p := ⟨bx, ox + i * 2, none⟩) hbx).trans x0, (J2.cell (p := ⟨bx, ox + i * 2 + 1, none⟩) hbx).trans x1⟩) (fun hHeld => ?_)
                    clear hK K
                    (try simp only [Act.put, List.setIfInBounds_toArray, List.set_cons_zero, List.set_cons_succ, List.getElem_toArray, List.getElem_cons_zero])
                    have own := own_base (own_empty wi1 77 2) (show wv.heap.size ≤ wi1.heap.size from J1.size)
                    generalize (wi1.alloc (.cells #[] 77)) = wi2 at *
                    have ownP := own
                    refine wpAnyH_ready (rs := [4, 9]) (by kernel_rfl) (by simp) ?_
                    refine AllReadyH.cons rfl (fun K hK => ?_) ?_
                    · refine step_cat rfl _ _ _ (by rfl) Try.underlying37 info_impl_Sector rfl (by decide) (by rfl) own (by rfl) (m := k) (hpre.next J2) (sec_all _) (by omega) (by omega) (by decide) (by have := J2.size; omega) ?_
                      intro A3 c3 wi3 own3 o3 b3 q3
                      have J3 := J2.trans b3
                      refine hK.out _ _ (⟨(J3.cell (p := ⟨bx, ox + i * 2, none⟩) hbx).trans x0, (J3.cell (p := ⟨bx, ox + i * 2 + 1, none⟩) hbx).trans x1⟩) (fun hHeld => ?_)
                      clear hK K
                      (try simp only [Act.put, List.setIfInBounds_toArray, List.set_cons_zero, List.set_cons_succ, List.getElem_toArray, List.getElem_cons_zero, List.getElem_cons_succ])
                      (try simp only [Nat.zero_add])
                      simp only [Nat.zero_add, List.nil_append] at own3
                      replace own := own3
                      clear own3
                      replace ownP := own
                      refine wpAnyH_ready (rs := [9]) (by kernel_rfl) (by simp) ?_
                      refine AllReadyH.cons rfl (fun K hK => ?_) AllReadyH.nil
                      go_simp
                      have U4 : Below wi3.heap.size wi3 (wi3.alloc (.cells #[.int .i64 x.cell, .int .i64 x.chance] 77)) := (Below.refl _ _).alloc (Nat.le_refl _) _
                      have J4 := bel_then J3 U4
                      refine hK.out _ _ (⟨(J4.cell (p := ⟨bx, ox + i * 2, none⟩) hbx).trans x0, (J4.cell (p := ⟨bx, ox + i * 2 + 1, none⟩) hbx).trans x1⟩) (fun hHeld => ?_)
                      clear hK K
                      (try simp only [Act.put, List.setIfInBounds_toArray, List.set_cons_zero, List.set_cons_succ, List.getElem_toArray, List.getElem_cons_zero, List.getElem_cons_succ])
                      replace own := own_below own U4
                      have box : Blk (wi3.alloc (.cells #[.int .i64 x.cell, .int .i64 x.chance] 77)) wi3.heap.size 77 [.int .i64 x.cell, .int .i64 x.chance] := Blk.at_ rfl
                      have lb := box.lt
                      have hne : ∀ b, OwnB A3 b → b ≠ wi3.heap.size := fun b hb => by have := (own_top ownP hb).2; omega
                      generalize (wi3.alloc (.cells #[.int .i64 x.cell, .int .i64 x.chance] 77)) = wi4 at *
                      replace ownP := own
                      refine wpAnyH_ready (rs := [10]) (by kernel_rfl) (by simp) ?_
                      refine AllReadyH.cons rfl (fun K hK => ?_) AllReadyH.nil
                      refine step_cat rfl _ _ _ (by rfl) Try.underlying37 info_impl_Sector rfl (by decide) (by rfl) own (by rfl) (m := 1) (box.sees (s := 2) (Nat.zero_le _) rfl) (by simp [Value.oneCell']) (by omega) (by omega) (by decide) (by have := J4.size; omega) ?_
                      intro A5 c5 wi5 own5 o5 b5 q5
                      have J5 := J4.trans b5
                      refine hK.out _ _ (⟨(J5.cell (p := ⟨bx, ox + i * 2, none⟩) hbx).trans x0, (J5.cell (p := ⟨bx, ox + i * 2 + 1, none⟩) hbx).trans x1⟩) (fun hHeld => ?_)
                      clear hK K
                      (try simp only [Act.put, List.setIfInBounds_toArray, List.set_cons_zero, List.set_cons_succ, List.getElem_toArray, List.getElem_cons_zero, List.getElem_cons_succ])
                      replace own := own5
                      clear own5
                      refine wpAnyH_ready (rs := [14]) (by kernel_rfl) (by simp) ?_
                      refine AllReadyH.cons rfl (fun K hK => ?_) AllReadyH.nil
                      refine step_cat rfl _ _ _ (by rfl) Try.underlying37 info_impl_Sector rfl (by decide) (by rfl) own (by rfl) (m := 0) (hsuf.next J5) (sec_all _) (by omega) (by omega) (by decide) (by have := J5.size; omega) ?_
                      intro A6 c6 wi6 own6 o6 b6 q6
                      have J6 := J5.trans b6
                      refine hK.out _ _ (⟨(J6.cell (p := ⟨bx, ox + i * 2, none⟩) hbx).trans x0, (J6.cell (p := ⟨bx, ox + i * 2 + 1, none⟩) hbx).trans x1⟩) (fun hHeld => ?_)
                      clear hK K
                      (try simp only [Act.put, List.setIfInBounds_toArray, List.set_cons_zero, List.set_cons_succ, List.getElem_toArray, List.getElem_cons_zero, List.getElem_cons_succ])
                      replace own := own6
                      clear own6
                      refine wpAnyH_take (i := 15) (v := ?_) rfl (by kernel_rfl) (by kernel_rfl) (by kernel_rfl) (fun _ _ _ h => h) (Or.inl ⟨by rfl, ?_⟩) (by assumption) ?_
                      rotate_left 1
                      · (intro w hSw; (try dsimp only at hSw); go_simp; try with_reducible rfl)
                      (try simp only [Act.put, List.setIfInBounds_toArray, List.set_cons_zero, List.set_cons_succ, List.getElem_toArray, List.getElem_cons_zero, List.getElem_cons_succ])
                      refine wpAnyH_done (by kernel_rfl) ?_ _
                      go_wp2_with fail
                      rw [show k + 1 + 0 = i + 1 by omega] at own
                      obtain ⟨g4, cap4, hv4, -, -⟩ := own.form (Nat.succ_pos _)
                      injection hv4 with hA4 _ _
                      subst hA4
                      go_roundw
                      case rel => exact ⟨i + 1, g4, _, by omega, by go_num, by congr 1; omega, by rw [HIN.out, HR2.out]; exact own_base own K.size, bel_then K J6⟩
                      case measure => simp [intOf]; omega
                    refine AllReadyH.cons rfl (fun K hK => ?_) AllReadyH.nil
                    · go_simp
                      have U3 : Below wi2.heap.size wi2 (wi2.alloc (.cells #[.int .i64 x.cell, .int .i64 x.chance] 77)) := (Below.refl _ _).alloc (Nat.le_refl _) _
                      have J3 := bel_then J2 U3
                      refine hK.out _ _ (⟨(J3.cell (p := ⟨bx, ox + i * 2, none⟩) hbx).trans x0, (J3.cell (p := ⟨bx, ox + i * 2 + 1, none⟩) hbx).trans x1⟩) (fun hHeld => ?_)
                      clear hK K
                      (try simp only [Act.put, List.setIfInBounds_toArray, List.set_cons_zero, List.set_cons_succ, List.getElem_toArray, List.getElem_cons_zero, List.getElem_cons_succ])
                      replace own := own_below own U3
                      have box : Blk (wi2.alloc (.cells #[.int .i64 x.cell, .int .i64 x.chance] 77)) wi2.heap.size 77 [.int .i64 x.cell, .int .i64 x.chance] := Blk.at_ rfl
                      have lb := box.lt
                      have hne : ∀ b, OwnB (some ⟨wi1.heap.size, 0, none⟩) b → b ≠ wi2.heap.size := fun b hb => by have := (own_top ownP hb).2; omega
                      generalize (wi2.alloc (.cells #[.int .i64 x.cell, .int .i64 x.chance] 77)) = wi3 at *
                      replace ownP := own
                      refine wpAnyH_ready (rs := [4]) (by kernel_rfl) (by simp) ?_
                      refine AllReadyH.cons rfl (fun K hK => ?_) AllReadyH.nil
                      refine step_cat rfl _ _ _ (by rfl) Try.underlying37 info_impl_Sector rfl (by decide) (by rfl) own (by rfl) (m := k) (hpre.next J3) (sec_all _) (by omega) (by omega) (by decide) (by have := J3.size; omega) ?_
                      intro A4 c4 wi4 own4 o4 b4 q4
                      have J4 := J3.trans b4
                      refine hK.out _ _ (⟨(J4.cell (p := ⟨bx, ox + i * 2, none⟩) hbx).trans x0, (J4.cell (p := ⟨bx, ox + i * 2 + 1, none⟩) hbx).trans x1⟩) (fun hHeld => ?_)
                      clear hK K
                      (try simp only [Act.put, List.setIfInBounds_toArray, List.set_cons_zero, List.set_cons_succ, List.getElem_toArray, List.getElem_cons_zero, List.getElem_cons_succ])
                      (try simp only [Nat.zero_add])
                      replace box := box.only o4 (fun h => hne _ h rfl)
                      simp only [Nat.zero_add, List.nil_append] at own4
                      replace own := own4
                      clear own4
                      replace ownP := own
                      refine wpAnyH_ready (rs := [10]) (by kernel_rfl) (by simp) ?_
                      refine AllReadyH.cons rfl (fun K hK => ?_) AllReadyH.nil
                      refine step_cat rfl _ _ _ (by rfl) Try.underlying37 info_impl_Sector rfl (by decide) (by rfl) own (by rfl) (m := 1) (box.sees (s := 2) (Nat.zero_le _) rfl) (by simp [Value.oneCell']) (by omega) (by omega) (by decide) (by have := J4.size; omega) ?_
                      intro A5 c5 wi5 own5 o5 b5 q5
                      have J5 := J4.trans b5
                      refine hK.out _ _ (⟨(J5.cell (p := ⟨bx, ox + i * 2, none⟩) hbx).trans x0, (J5.cell (p := ⟨bx, ox + i * 2 + 1, none⟩) hbx).trans x1⟩) (fun hHeld => ?_)
                      clear hK K
                      (try simp only [Act.put, List.setIfInBounds_toArray, List.set_cons_zero, List.set_cons_succ, List.getElem_toArray, List.getElem_cons_zero, List.getElem_cons_succ])
                      replace own := own5
                      clear own5
                      refine wpAnyH_ready (rs := [14]) (by kernel_rfl) (by simp) ?_
                      refine AllReadyH.cons rfl (fun K hK => ?_) AllReadyH.nil
                      refine step_cat rfl _ _ _ (by rfl) Try.underlying37 info_impl_Sector rfl (by decide) (by rfl) own (by rfl) (m := 0) (hsuf.next J5) (sec_all _) (by omega) (by omega) (by decide) (by have := J5.size; omega) ?_
                      intro A6 c6 wi6 own6 o6 b6 q6
                      have J6 := J5.trans b6
                      refine hK.out _ _ (⟨(J6.cell (p := ⟨bx, ox + i * 2, none⟩) hbx).trans x0, (J6.cell (p := ⟨bx, ox + i * 2 + 1, none⟩) hbx).trans x1⟩) (fun hHeld => ?_)
                      clear hK K
                      (try simp only [Act.put, List.setIfInBounds_toArray, List.set_cons_zero, List.set_cons_succ, List.getElem_toArray, List.getElem_cons_zero, List.getElem_cons_succ])
                      replace own := own6
                      clear own6
                      refine wpAnyH_take (i := 15) (v := ?_) rfl (by kernel_rfl) (by kernel_rfl) (by kernel_rfl) (fun _ _ _ h => h) (Or.inl ⟨by rfl, ?_⟩) (by assumption) ?_
                      rotate_left 1
                      · (intro w hSw; (try dsimp only at hSw); go_simp; try with_reducible rfl)
                      (try simp only [Act.put, List.setIfInBounds_toArray, List.set_cons_zero, List.set_cons_succ, List.getElem_toArray, List.getElem_cons_zero, List.getElem_cons_succ])
                      refine wpAnyH_done (by kernel_rfl) ?_ _
                      go_wp2_with fail
                      rw [show k + 1 + 0 = i + 1 by omega] at own
                      obtain ⟨g4, cap4, hv4, -, -⟩ := own.form (Nat.succ_pos _)
                      injection hv4 with hA4 _ _
                      subst hA4
                      go_roundw
                      case rel => exact ⟨i + 1, g4, _, by omega, by go_num, by congr 1; omega, by rw [HIN.out, HR2.out]; exact own_base own K.size, bel_then K J6⟩
                      case measure => simp [intOf]; omega
                  refine AllReadyH.cons rfl (fun K hK => ?_) AllReadyH.nil
                  · go_simp
                    have U2 : Below wi1.heap.size wi1 (wi1.alloc (.cells #[.int .i64 x.cell, .int .i64 x.chance] 77)) := (Below.refl _ _).alloc (Nat.le_refl _) _
                    have J2 := bel_then J1 U2
                    refine hK.out _ _ (⟨(J2.cell (p := ⟨bx, ox + i * 2, none⟩) hbx).trans x0, (J2.cell (p := ⟨bx, ox + i * 2 + 1, none⟩) hbx).trans x1⟩) (fun hHeld => ?_)
                    clear hK K
                    (try simp only [Act.put, List.setIfInBounds_toArray, List.set_cons_zero, List.set_cons_succ, List.getElem_toArray, List.getElem_cons_zero, List.getElem_cons_succ])
                    have box : Blk (wi1.alloc (.cells #[.int .i64 x.cell, .int .i64 x.chance] 77)) wi1.heap.size 77 [.int .i64 x.cell, .int .i64 x.chance] := Blk.at_ rfl
                    have lb := box.lt
                    generalize (wi1.alloc (.cells #[.int .i64 x.cell, .int .i64 x.chance] 77)) = wi2 at *
                    refine wpAnyH_ready (rs := [0]) (by kernel_rfl) (by simp) ?_
                    refine AllReadyH.cons rfl (fun K hK => ?_) AllReadyH.nil
                    go_simp
                    have U3 : Below wi2.heap.size wi2 (wi2.alloc (.cells #[] 77)) := (Below.refl _ _).alloc (Nat.le_refl _) _
                    have J3 := bel_then J2 U3
                    refine hK.out _ _ (⟨(J3.cell (p := ⟨bx, ox + i * 2, none⟩) hbx).trans x0, (J3.cell (p := ⟨bx, ox + i * 2 + 1, none⟩) hbx).trans x1⟩) (fun hHeld => ?_)
                    clear hK K
                    (try simp only [Act.put, List.setIfInBounds_toArray, List.set_cons_zero, List.set_cons_succ, List.getElem_toArray, List.getElem_cons_zero])
                    replace box := box.next U3
                    have own := own_base (own_empty wi2 77 2) (show wv.heap.size ≤ wi2.heap.size from J2.size)
                    have hne : ∀ b, OwnB (some ⟨wi2.heap.size, 0, none⟩) b → b ≠ wi1.heap.size := fun b hb => by have h4 : wi2.heap.size = b := (by simpa [OwnB, Value.ownBlock] using hb); have h5 := lb; omega
                    generalize (wi2.alloc (.cells #[] 77)) = wi3 at *
                    have ownP := own
                    refine wpAnyH_ready (rs := [4]) (by kernel_rfl) (by simp) ?_
                    refine AllReadyH.cons rfl (fun K hK => ?_) AllReadyH.nil
                    refine step_cat rfl _ _ _ (by rfl) Try.underlying37 info_impl_Sector rfl (by decide) (by rfl) own (by rfl) (m := k) (hpre.next J3) (sec_all _) (by omega) (by omega) (by decide) (by have := J3.size; omega) ?_
                    intro A4 c4 wi4 own4 o4 b4 q4
                    have J4 := J3.trans b4
                    refine hK.out _ _ (⟨(J4.cell (p := ⟨bx, ox + i * 2, none⟩) hbx).trans x0, (J4.cell (p := ⟨bx, ox + i * 2 + 1, none⟩) hbx).trans x1⟩) (fun hHeld => ?_)
                    clear hK K
                    (try simp only [Act.put, List.setIfInBounds_toArray, List.set_cons_zero, List.set_cons_succ, List.getElem_toArray, List.getElem_cons_zero, List.getElem_cons_succ])
                    (try simp only [Nat.zero_add])
                    replace box := box.only o4 (fun h => hne _ h rfl)
                    simp only [Nat.zero_add, List.nil_append] at own4
                    replace own := own4
                    clear own4
                    replace ownP := own
                    refine wpAnyH_ready (rs := [10]) (by kernel_rfl) (by simp) ?_
                    refine AllReadyH.cons rfl (fun K hK => ?_) AllReadyH.nil
                    refine step_cat rfl _ _ _ (by rfl) Try.underlying37 info_impl_Sector rfl (by decide) (by rfl) own (by rfl) (m := 1) (box.sees (s := 2) (Nat.zero_le _) rfl) (by simp [Value.oneCell']) (by omega) (by omega) (by decide) (by have := J4.size; omega) ?_
                    intro A5 c5 wi5 own5 o5 b5 q5
                    have J5 := J4.trans b5
                    refine hK.out _ _ (⟨(J5.cell (p := ⟨bx, ox + i * 2, none⟩) hbx).trans x0, (J5.cell (p := ⟨bx, ox + i * 2 + 1, none⟩) hbx).trans x1⟩) (fun hHeld => ?_)
                    clear hK K
                    (try simp only [Act.put, List.setIfInBounds_toArray, List.set_cons_zero, List.set_cons_succ, List.getElem_toArray, List.getElem_cons_zero, List.getElem_cons_succ])
                    replace own := own5
                    clear own5
                    refine wpAnyH_ready (rs := [14]) (by kernel_rfl) (by simp) ?_
                    refine AllReadyH.cons rfl (fun K hK => ?_) AllReadyH.nil
                    refine step_cat rfl _ _ _ (by rfl) Try.underlying37 info_impl_Sector rfl (by decide) (by rfl) own (by rfl) (m := 0) (hsuf.next J5) (sec_all _) (by omega) (by omega) (by decide) (by have := J5.size; omega) ?_
                    intro A6 c6 wi6 own6 o6 b6 q6
                    have J6 := J5.trans b6
                    refine hK.out _ _ (⟨(J6.cell (p := ⟨bx, ox + i * 2, none⟩) hbx).trans x0, (J6.cell (p := ⟨bx, ox + i * 2 + 1, none⟩) hbx).trans x1⟩) (fun hHeld => ?_)
                    clear hK K
                    (try simp only [Act.put, List.setIfInBounds_toArray, List.set_cons_zero, List.set_cons_succ, List.getElem_toArray, List.getElem_cons_zero, List.getElem_cons_succ])
                    replace own := own6
                    clear own6
                    refine wpAnyH_take (i := 15) (v := ?_) rfl (by kernel_rfl) (by kernel_rfl) (by kernel_rfl) (fun _ _ _ h => h) (Or.inl ⟨by rfl, ?_⟩) (by assumption) ?_
                    rotate_left 1
                    · (intro w hSw; (try dsimp only at hSw); go_simp; try with_reducible rfl)
                    (try simp only [Act.put, List.setIfInBounds_toArray, List.set_cons_zero, List.set_cons_succ, List.getElem_toArray, List.getElem_cons_zero, List.getElem_cons_succ])
                    refine wpAnyH_done (by kernel_rfl) ?_ _
                    go_wp2_with fail
                    rw [show k + 1 + 0 = i + 1 by omega] at own
                    obtain ⟨g4, cap4, hv4, -, -⟩ := own.form (Nat.succ_pos _)
                    injection hv4 with hA4 _ _
                    subst hA4
                    go_roundw
                    case rel => exact ⟨i + 1, g4, _, by omega, by go_num, by congr 1; omega, by rw [HIN.out, HR2.out]; exact own_base own K.size, bel_then K J6⟩
                    case measure => simp [intOf]; omega
                · have hsuf := (Sees.of_own own).dropB_ (by decide) (fun _ => rfl) k hk
                  have hk1 : k ≤ c' := by omega
                  clear own
                  go_wp2_with fail
                  have J1 := (Quiet.one wv).below wv.heap.size
                  refine wp_region_held_drew (S := fun w' => w'.cell? ⟨bx, ox + i * 2, none⟩ = some (.int .i64 x.cell) ∧ w'.cell? ⟨bx, ox + i * 2 + 1, none⟩ = some (.int .i64 x.chance)) (by kernel_rfl) (⟨(J1.cell (p := ⟨bx, ox + i * 2, none⟩) hbx).trans x0, (J1.cell (p := ⟨bx, ox + i * 2 + 1, none⟩) hbx).trans x1⟩) (fun hHeld => ?_)
                  generalize wv.drew = wi1 at *
                  refine wpAnyH_take (i := 1) (v := ?_) rfl (by kernel_rfl) (by kernel_rfl) (by kernel_rfl) (fun _ _ _ h => h) (Or.inl ⟨by rfl, ?_⟩) (by assumption) ?_
                  rotate_left 1
                  · (intro w hSw; (try dsimp only at hSw); go_simp; try with_reducible rfl)
                  (try simp only [Act.put, List.setIfInBounds_toArray, List.set_cons_zero, List.set_cons_succ, List.getElem_toArray, List.getElem_cons_zero, List.getElem_cons_succ])
                  refine wpAnyH_take (i := 2) (v := ?_) rfl (by kernel_rfl) (by kernel_rfl) (by kernel_rfl) (fun _ _ _ h => h) (Or.inl ⟨by rfl, ?_⟩) (by assumption) ?_
                  rotate_left 1
                  · (intro w hSw; (try dsimp only at hSw); go_simp; try with_reducible rfl)
                  (try simp only [Act.put, List.setIfInBounds_toArray, List.set_cons_zero, List.set_cons_succ, List.getElem_toArray, List.getElem_cons_zero, List.getElem_cons_succ])
                  refine wpAnyH_take (i := 3) (v := ?_) rfl (by kernel_rfl) (by kernel_rfl) (by kernel_rfl) (fun _ _ _ h => h) (Or.inl ⟨by rfl, ?_⟩) (by assumption) ?_
                  rotate_left 1
                  · (intro w hSw; (try dsimp only at hSw); go_simp; try with_reducible rfl)
                  (try simp only [Act.put, List.setIfInBounds_toArray, List.set_cons_zero, List.set_cons_succ, List.getElem_toArray, List.getElem_cons_zero, List.getElem_cons_succ])
                  refine wpAnyH_take (i := 5) (v := ?_) rfl (by kernel_rfl) (by kernel_rfl) (by kernel_rfl) (fun _ _ _ h => h) (Or.inl ⟨by rfl, ?_⟩) (by assumption) ?_
                  rotate_left 1
                  · (intro w hSw; (try dsimp only at hSw); go_simp; try with_reducible rfl)
                  (try simp only [Act.put, List.setIfInBounds_toArray, List.set_cons_zero, List.set_cons_succ, List.getElem_toArray, List.getElem_cons_zero, List.getElem_cons_succ])
                  refine wpAnyH_take (i := 6) (v := ?_) rfl (by kernel_rfl) (by kernel_rfl) (by kernel_rfl) (fun _ _ _ h => h) (Or.inl ⟨by rfl, ?_⟩) (by assumption) ?_
                  rotate_left 1
                  · (intro w hSw; (try dsimp only at hSw); go_simp; try with_reducible rfl)
                  (try simp only [Act.put, List.setIfInBounds_toArray, List.set_cons_zero, List.set_cons_succ, List.getElem_toArray, List.getElem_cons_zero, List.getElem_cons_succ])
                  refine wpAnyH_take (i := 7) (v := ?_) rfl (by kernel_rfl) (by kernel_rfl) (by kernel_rfl) (fun _ _ _ h => h) (Or.inl ⟨by rfl, ?_⟩) (by assumption) ?_
                  rotate_left 1
                  · (intro w hSw; (try dsimp only at hSw); go_simp; try with_reducible rfl)
                  (try simp only [Act.put, List.setIfInBounds_toArray, List.set_cons_zero, List.set_cons_succ, List.getElem_toArray, List.getElem_cons_zero, List.getElem_cons_succ])
                  refine wpAnyH_take (i := 8) (v := ?_) rfl (by kernel_rfl) (by kernel_rfl) (by kernel_rfl) (fun _ _ _ h => h) (Or.inl ⟨by rfl, ?_⟩) (by assumption) ?_
                  rotate_left 1
                  · (intro w hSw; (try dsimp only at hSw); go_simp; try with_reducible rfl)
                  (try simp only [Act.put, List.setIfInBounds_toArray, List.set_cons_zero, List.set_cons_succ, List.getElem_toArray, List.getElem_cons_zero, List.getElem_cons_succ])
                  refine wpAnyH_take (i := 11) (v := ?_) rfl (by kernel_rfl) (by kernel_rfl) (by kernel_rfl) (fun _ _ _ h => h) (Or.inl ⟨by rfl, ?_⟩) (by assumption) ?_
                  rotate_left 1
                  · (intro w hSw; (try dsimp only at hSw); go_simp; try with_reducible rfl)
                  (try simp only [Act.put, List.setIfInBounds_toArray, List.set_cons_zero, List.set_cons_succ, List.getElem_toArray, List.getElem_cons_zero, List.getElem_cons_succ])
                  refine wpAnyH_take (i := 12) (v := ?_) rfl (by kernel_rfl) (by kernel_rfl) (by kernel_rfl) (fun _ _ _ h => h) (Or.inl ⟨by rfl, ?_⟩) (by assumption) ?_
                  rotate_left 1
                  · (intro w hSw; (try dsimp only at hSw); go_simp; try with_reducible rfl)
                  (try simp only [Act.put, List.setIfInBounds_toArray, List.set_cons_zero, List.set_cons_succ, List.getElem_toArray, List.getElem_cons_zero, List.getElem_cons_succ])
                  refine wpAnyH_take (i := 13) (v := ?_) rfl (by kernel_rfl) (by kernel_rfl) (by kernel_rfl) (fun _ _ _ h => h) (Or.inl ⟨by rfl, ?_⟩) (by assumption) ?_
                  rotate_left 1
                  · (intro w hSw; (try dsimp only at hSw); go_simp; try with_reducible rfl)
                  (try simp only [Act.put, List.setIfInBounds_toArray, List.set_cons_zero, List.set_cons_succ, List.getElem_toArray, List.getElem_cons_zero, List.getElem_cons_succ])
                  refine wpAnyH_ready (rs := [0, 9]) (by kernel_rfl) (by simp) ?_
                  refine AllReadyH.cons rfl (fun K hK => ?_) ?_
                  · go_simp
                    have U2 : Below wi1.heap.size wi1 (wi1.alloc (.cells #[] 77)) := (Below.refl _ _).alloc (Nat.le_refl _) _
                    have J2 := bel_then J1 U2
                    refine hK.out _ _ (⟨(J2.cell (p := ⟨bx, ox + i * 2, none⟩) hbx).trans x0, (J2.cell (p := ⟨bx, ox + i * 2 + 1, none⟩) hbx).trans x1⟩) (fun hHeld => ?_)
                    clear hK K
                    (try simp only [Act.put, List.setIfInBounds_toArray, List.set_cons_zero, List.set_cons_succ, List.getElem_toArray, List.getElem_cons_zero])
                    have own := own_base (own_empty wi1 77 2) (show wv.heap.size ≤ wi1.heap.size from J1.size)
                    generalize (wi1.alloc (.cells #[] 77)) = wi2 at *
                    have ownP := own
                    refine wpAnyH_ready (rs := [4, 9]) (by kernel_rfl) (by simp) ?_
                    refine AllReadyH.cons rfl (fun K hK => ?_) ?_
                    · refine step_cat rfl _ _ _ (by rfl) Try.underlying37 info_impl_Sector rfl (by decide) (by rfl) own (by rfl) (m := k) (hpre.next J2) (sec_all _) (by omega) (by omega) (by decide) (by have := J2.size; omega) ?_
                      intro A3 c3 wi3 own3 o3 b3 q3
                      have J3 := J2.trans b3
                      refine hK.out _ _ (⟨(J3.cell (p := ⟨bx, ox + i * 2, none⟩) hbx).trans x0, (J3.cell (p := ⟨bx, ox + i * 2 + 1, none⟩) hbx).trans x1⟩) (fun hHeld => ?_)
                      clear hK K
                      (try simp only [Act.put, List.setIfInBounds_toArray, List.set_cons_zero, List.set_cons_succ, List.getElem_toArray, List.getElem_cons_zero, List.getElem_cons_succ])
                      (try simp only [Nat.zero_add])
                      simp only [Nat.zero_add, List.nil_append] at own3
                      replace own := own3
                      clear own3
                      replace ownP := own
                      refine wpAnyH_ready (rs := [9]) (by kernel_rfl) (by simp) ?_
                      refine AllReadyH.cons rfl (fun K hK => ?_) AllReadyH.nil
                      go_simp
                      have U4 : Below wi3.heap.size wi3 (wi3.alloc (.cells #[.int .i64 x.cell, .int .i64 x.chance] 77)) := (Below.refl _ _).alloc (Nat.le_refl _) _
                      have J4 := bel_then J3 U4
                      refine hK.out _ _ (⟨(J4.cell (p := ⟨bx, ox + i * 2, none⟩) hbx).trans x0, (J4.cell (p := ⟨bx, ox + i * 2 + 1, none⟩) hbx).trans x1⟩) (fun hHeld => ?_)
                      clear hK K
                      (try simp only [Act.put, List.setIfInBounds_toArray, List.set_cons_zero, List.set_cons_succ, List.getElem_toArray, List.getElem_cons_zero, List.getElem_cons_succ])
                      replace own := own_below own U4
                      have box : Blk (wi3.alloc (.cells #[.int .i64 x.cell, .int .i64 x.chance] 77)) wi3.heap.size 77 [.int .i64 x.cell, .int .i64 x.chance] := Blk.at_ rfl
                      have lb := box.lt
                      have hne : ∀ b, OwnB A3 b → b ≠ wi3.heap.size := fun b hb => by have := (own_top ownP hb).2; omega
                      generalize (wi3.alloc (.cells #[.int .i64 x.cell, .int .i64 x.chance] 77)) = wi4 at *
                      replace ownP := own
                      refine wpAnyH_ready (rs := [10]) (by kernel_rfl) (by simp) ?_
                      refine AllReadyH.cons rfl (fun K hK => ?_) AllReadyH.nil
                      refine step_cat rfl _ _ _ (by rfl) Try.underlying37 info_impl_Sector rfl (by decide) (by rfl) own (by rfl) (m := 1) (box.sees (s := 2) (Nat.zero_le _) rfl) (by simp [Value.oneCell']) (by omega) (by omega) (by decide) (by have := J4.size; omega) ?_
                      intro A5 c5 wi5 own5 o5 b5 q5
                      have J5 := J4.trans b5
                      refine hK.out _ _ (⟨(J5.cell (p := ⟨bx, ox + i * 2, none⟩) hbx).trans x0, (J5.cell (p := ⟨bx, ox + i * 2 + 1, none⟩) hbx).trans x1⟩) (fun hHeld => ?_)
                      clear hK K
                      (try simp only [Act.put, List.setIfInBounds_toArray, List.set_cons_zero, List.set_cons_succ, List.getElem_toArray, List.getElem_cons_zero, List.getElem_cons_succ])
                      replace own := own5
                      clear own5
                      refine wpAnyH_ready (rs := [14]) (by kernel_rfl) (by simp) ?_
                      refine AllReadyH.cons rfl (fun K hK => ?_) AllReadyH.nil
                      refine step_cat rfl _ _ _ (by rfl) Try.underlying37 info_impl_Sector rfl (by decide) (by rfl) own (by rfl) (m := (i - k)) (hsuf.next J5) (sec_all _) (by omega) (by omega) (by decide) (by have := J5.size; omega) ?_
                      intro A6 c6 wi6 own6 o6 b6 q6
                      have J6 := J5.trans b6
                      refine hK.out _ _ (⟨(J6.cell (p := ⟨bx, ox + i * 2, none⟩) hbx).trans x0, (J6.cell (p := ⟨bx, ox + i * 2 + 1, none⟩) hbx).trans x1⟩) (fun hHeld => ?_)
                      clear hK K
                      (try simp only [Act.put, List.setIfInBounds_toArray, List.set_cons_zero, List.set_cons_succ, List.getElem_toArray, List.getElem_cons_zero, List.getElem_cons_succ])
                      replace own := own6
                      clear own6
                      refine wpAnyH_take (i := 15) (v := ?_) rfl (by kernel_rfl) (by kernel_rfl) (by kernel_rfl) (fun _ _ _ h => h) (Or.inl ⟨by rfl, ?_⟩) (by assumption) ?_
                      rotate_left 1
                      · (intro w hSw; (try dsimp only at hSw); go_simp; try with_reducible rfl)
                      (try simp only [Act.put, List.setIfInBounds_toArray, List.set_cons_zero, List.set_cons_succ, List.getElem_toArray, List.getElem_cons_zero, List.getElem_cons_succ])
                      refine wpAnyH_done (by kernel_rfl) ?_ _
                      go_wp2_with fail
                      rw [show k + 1 + (i - k) = i + 1 by omega] at own
                      obtain ⟨g4, cap4, hv4, -, -⟩ := own.form (Nat.succ_pos _)
                      injection hv4 with hA4 _ _
                      subst hA4
                      go_roundw
                      case rel => exact ⟨i + 1, g4, _, by omega, by go_num, by congr 1; omega, by rw [HIN.out, HR2.out]; exact own_base own K.size, bel_then K J6⟩
                      case measure => simp [intOf]; omega
                    refine AllReadyH.cons rfl (fun K hK => ?_) AllReadyH.nil
                    · go_simp
                      have U3 : Below wi2.heap.size wi2 (wi2.alloc (.cells #[.int .i64 x.cell, .int .i64 x.chance] 77)) := (Below.refl _ _).alloc (Nat.le_refl _) _
                      have J3 := bel_then J2 U3
                      refine hK.out _ _ (⟨(J3.cell (p := ⟨bx, ox + i * 2, none⟩) hbx).trans x0, (J3.cell (p := ⟨bx, ox + i * 2 + 1, none⟩) hbx).trans x1⟩) (fun hHeld => ?_)
                      clear hK K
                      (try simp only [Act.put, List.setIfInBounds_toArray, List.set_cons_zero, List.set_cons_succ, List.getElem_toArray, List.getElem_cons_zero, List.getElem_cons_succ])
                      replace own := own_below own U3
                      have box : Blk (wi2.alloc (.cells #[.int .i64 x.cell, .int .i64 x.chance] 77)) wi2.heap.size 77 [.int .i64 x.cell, .int .i64 x.chance] := Blk.at_ rfl
                      have lb := box.lt
                      have hne : ∀ b, OwnB (some ⟨wi1.heap.size, 0, none⟩) b → b ≠ wi2.heap.size := fun b hb => by have := (own_top ownP hb).2; omega
                      generalize (wi2.alloc (.cells #[.int .i64 x.cell, .int .i64 x.chance] 77)) = wi3 at *
                      replace ownP := own
                      refine wpAnyH_ready (rs := [4]) (by kernel_rfl) (by simp) ?_
                      refine AllReadyH.cons rfl (fun K hK => ?_) AllReadyH.nil
                      refine step_cat rfl _ _ _ (by rfl) Try.underlying37 info_impl_Sector rfl (by decide) (by rfl) own (by rfl) (m := k) (hpre.next J3) (sec_all _) (by omega) (by omega) (by decide) (by have := J3.size; omega) ?_
                      intro A4 c4 wi4 own4 o4 b4 q4
                      have J4 := J3.trans b4
                      refine hK.out _ _ (⟨(J4.cell (p := ⟨bx, ox + i * 2, none⟩) hbx).trans x0, (J4.cell (p := ⟨bx, ox + i * 2 + 1, none⟩) hbx).trans x1⟩) (fun hHeld => ?_)
                      clear hK K
                      (try simp only [Act.put, List.setIfInBounds_toArray, List.set_cons_zero, List.set_cons_succ, List.getElem_toArray, List.getElem_cons_zero, List.getElem_cons_succ])
                      (try simp only [Nat.zero_add])
                      replace box := box.only o4 (fun h => hne _ h rfl)
                      simp only [Nat.zero_add, List.nil_append] at own4
                      replace own := own4
                      clear own4
                      replace ownP := own
                      refine wpAnyH_ready (rs := [10]) (by kernel_rfl) (by simp) ?_
                      refine AllReadyH.cons rfl (fun K hK => ?_) AllReadyH.nil
                      refine step_cat rfl _ _ _ (by rfl) Try.underlying37 info_impl_Sector rfl (by decide) (by rfl) own (by rfl) (m := 1) (box.sees (s := 2) (Nat.zero_le _) rfl) (by simp [Value.oneCell']) (by omega) (by omega) (by decide) (by have := J4.size; omega) ?_
                      intro A5 c5 wi5 own5 o5 b5 q5
                      have J5 := J4.trans b5
                      refine hK.out _ _ (⟨(J5.cell (p := ⟨bx, ox + i * 2, none⟩) hbx).trans x0, (J5.cell (p := ⟨bx, ox + i * 2 + 1, none⟩) hbx).trans x1⟩) (fun hHeld => ?_)
                      clear hK K
                      (try simp only [Act.put, List.setIfInBounds_toArray, List.set_cons_zero, List.set_cons_succ, List.getElem_toArray, List.getElem_cons_zero, List.getElem_cons_succ])
                      replace own := own5
                      clear own5
                      refine wpAnyH_ready (rs := [14]) (by kernel_rfl) (by simp) ?_
                      refine AllReadyH.cons rfl (fun K hK => ?_) AllReadyH.nil
                      refine step_cat rfl _ _ _ (by rfl) Try.underlying37 info_impl_Sector rfl (by decide) (by rfl) own (by rfl) (m := (i - k)) (hsuf.next J5) (sec_all _) (by omega) (by omega) (by decide) (by have := J5.size; omega) ?_
                      intro A6 c6 wi6 own6 o6 b6 q6
                      have J6 := J5.trans b6
                      refine hK.out _ _ (⟨(J6.cell (p := ⟨bx, ox + i * 2, none⟩) hbx).trans x0, (J6.cell (p := ⟨bx, ox + i * 2 + 1, none⟩) hbx).trans x1⟩) (fun hHeld => ?_)
                      clear hK K
                      (try simp only [Act.put, List.setIfInBounds_toArray, List.set_cons_zero, List.set_cons_succ, List.getElem_toArray, List.getElem_cons_zero, List.getElem_cons_succ])
                      replace own := own6
                      clear own6
                      refine wpAnyH_take (i := 15) (v := ?_) rfl (by kernel_rfl) (by kernel_rfl) (by kernel_rfl) (fun _ _ _ h => h) (Or.inl ⟨by rfl, ?_⟩) (by assumption) ?_
                      rotate_left 1
                      · (intro w hSw; (try dsimp only at hSw); go_simp; try with_reducible rfl)
                      (try simp only [Act.put, List.setIfInBounds_toArray, List.set_cons_zero, List.set_cons_succ, List.getElem_toArray, List.getElem_cons_zero, List.getElem_cons_succ])
                      refine wpAnyH_done (by kernel_rfl) ?_ _
                      go_wp2_with fail
                      rw [show k + 1 + (i - k) = i + 1 by omega] at own
                      obtain ⟨g4, cap4, hv4, -, -⟩ := own.form (Nat.succ_pos _)
                      injection hv4 with hA4 _ _
                      subst hA4
                      go_roundw
                      case rel => exact ⟨i + 1, g4, _, by omega, by go_num, by congr 1; omega, by rw [HIN.out, HR2.out]; exact own_base own K.size, bel_then K J6⟩
                      case measure => simp [intOf]; omega
                  refine AllReadyH.cons rfl (fun K hK => ?_) AllReadyH.nil
                  · go_simp
                    have U2 : Below wi1.heap.size wi1 (wi1.alloc (.cells #[.int .i64 x.cell, .int .i64 x.chance] 77)) := (Below.refl _ _).alloc (Nat.le_refl _) _
                    have J2 := bel_then J1 U2
                    refine hK.out _ _ (⟨(J2.cell (p := ⟨bx, ox + i * 2, none⟩) hbx).trans x0, (J2.cell (p := ⟨bx, ox + i * 2 + 1, none⟩) hbx).trans x1⟩) (fun hHeld => ?_)
                    clear hK K
                    (try simp only [Act.put, List.setIfInBounds_toArray, List.set_cons_zero, List.set_cons_succ, List.getElem_toArray, List.getElem_cons_zero, List.getElem_cons_succ])
                    have box : Blk (wi1.alloc (.cells #[.int .i64 x.cell, .int .i64 x.chance] 77)) wi1.heap.size 77 [.int .i64 x.cell, .int .i64 x.chance] := Blk.at_ rfl
                    have lb := box.lt
                    generalize (wi1.alloc (.cells #[.int .i64 x.cell, .int .i64 x.chance] 77)) = wi2 at *
                    refine wpAnyH_ready (rs := [0]) (by kernel_rfl) (by simp) ?_
                    refine AllReadyH.cons rfl (fun K hK => ?_) AllReadyH.nil
                    go_simp
                    have U3 : Below wi2.heap.size wi2 (wi2.alloc (.cells #[] 77)) := (Below.refl _ _).alloc (Nat.le_refl _) _
                    have J3 := bel_then J2 U3
                    refine hK.out _ _ (⟨(J3.cell (p := ⟨bx, ox + i * 2, none⟩) hbx).trans x0, (J3.cell (p := ⟨bx, ox + i * 2 + 1, none⟩) hbx).trans x1⟩) (fun hHeld => ?_)
                    clear hK K
                    (try simp only [Act.put, List.setIfInBounds_toArray, List.set_cons_zero, List.set_cons_succ, List.getElem_toArray, List.getElem_cons_zero])
                    replace box := box.next U3
                    have own := own_base (own_empty wi2 77 2) (show wv.heap.size ≤ wi2.heap.size from J2.size)
                    have hne : ∀ b, OwnB (some ⟨wi2.heap.size, 0, none⟩) b → b ≠ wi1.heap.size := fun b hb => by have h4 : wi2.heap.size = b := (by simpa [OwnB, Value.ownBlock] using hb); have h5 := lb; omega
                    generalize (wi2.alloc (.cells #[] 77)) = wi3 at *
                    have ownP := own
                    refine wpAnyH_ready (rs := [4]) (by kernel_rfl) (by simp) ?_
                    refine AllReadyH.cons rfl (fun K hK => ?_) AllReadyH.nil
                    refine step_cat rfl _ _ _ (by rfl) Try.underlying37 info_impl_Sector rfl (by decide) (by rfl) own (by rfl) (m := k) (hpre.next J3) (sec_all _) (by omega) (by omega) (by decide) (by have := J3.size; omega) ?_
                    intro A4 c4 wi4 own4 o4 b4 q4
                    have J4 := J3.trans b4
                    refine hK.out _ _ (⟨(J4.cell (p := ⟨bx, ox + i * 2, none⟩) hbx).trans x0, (J4.cell (p := ⟨bx, ox + i * 2 + 1, none⟩) hbx).trans x1⟩) (fun hHeld => ?_)
                    clear hK K
                    (try simp only [Act.put, List.setIfInBounds_toArray, List.set_cons_zero, List.set_cons_succ, List.getElem_toArray, List.getElem_cons_zero, List.getElem_cons_succ])
                    (try simp only [Nat.zero_add])
                    replace box := box.only o4 (fun h => hne _ h rfl)
                    simp only [Nat.zero_add, List.nil_append] at own4
                    replace own := own4
                    clear own4
                    replace ownP := own
                    refine wpAnyH_ready (rs := [10]) (by kernel_rfl) (by simp) ?_
                    refine AllReadyH.cons rfl (fun K hK => ?_) AllReadyH.nil
                    refine step_cat rfl _ _ _ (by rfl) Try.underlying37 info_impl_Sector rfl (by decide) (by rfl) own (by rfl) (m := 1) (box.sees (s := 2) (Nat.zero_le _) rfl) (by simp [Value.oneCell']) (by omega) (by omega) (by decide) (by have := J4.size; omega) ?_
                    intro A5 c5 wi5 own5 o5 b5 q5
                    have J5 := J4.trans b5
                    refine hK.out _ _ (⟨(J5.cell (p := ⟨bx, ox + i * 2, none⟩) hbx).trans x0, (J5.cell (p := ⟨bx, ox + i * 2 + 1, none⟩) hbx).trans x1⟩) (fun hHeld => ?_)
                    clear hK K
                    (try simp only [Act.put, List.setIfInBounds_toArray, List.set_cons_zero, List.set_cons_succ, List.getElem_toArray, List.getElem_cons_zero, List.getElem_cons_succ])
                    replace own := own5
                    clear own5
                    refine wpAnyH_ready (rs := [14]) (by kernel_rfl) (by simp) ?_
                    refine AllReadyH.cons rfl (fun K hK => ?_) AllReadyH.nil
                    refine step_cat rfl _ _ _ (by rfl) Try.underlying37 info_impl_Sector rfl (by decide) (by rfl) own (by rfl) (m := (i - k)) (hsuf.next J5) (sec_all _) (by omega) (by omega) (by decide) (by have := J5.size; omega) ?_
                    intro A6 c6 wi6 own6 o6 b6 q6
                    have J6 := J5.trans b6
                    refine hK.out _ _ (⟨(J6.cell (p := ⟨bx, ox + i * 2, none⟩) hbx).trans x0, (J6.cell (p := ⟨bx, ox + i * 2 + 1, none⟩) hbx).trans x1⟩) (fun hHeld => ?_)
                    clear hK K
                    (try simp only [Act.put, List.setIfInBounds_toArray, List.set_cons_zero, List.set_cons_succ, List.getElem_toArray, List.getElem_cons_zero, List.getElem_cons_succ])
                    replace own := own6
                    clear own6
                    refine wpAnyH_take (i := 15) (v := ?_) rfl (by kernel_rfl) (by kernel_rfl) (by kernel_rfl) (fun _ _ _ h => h) (Or.inl ⟨by rfl, ?_⟩) (by assumption) ?_
                    rotate_left 1
                    · (intro w hSw; (try dsimp only at hSw); go_simp; try with_reducible rfl)
                    (try simp only [Act.put, List.setIfInBounds_toArray, List.set_cons_zero, List.set_cons_succ, List.getElem_toArray, List.getElem_cons_zero, List.getElem_cons_succ])
                    refine wpAnyH_done (by kernel_rfl) ?_ _
                    go_wp2_with fail
                    rw [show k + 1 + (i - k) = i + 1 by omega] at own
                    obtain ⟨g4, cap4, hv4, -, -⟩ := own.form (Nat.succ_pos _)
                    injection hv4 with hA4 _ _
                    subst hA4
                    go_roundw
                    case rel => exact ⟨i + 1, g4, _, by omega, by go_num, by congr 1; omega, by rw [HIN.out, HR2.out]; exact own_base own K.size, bel_then K J6⟩
                    case measure => simp [intOf]; omega
        · obtain rfl : i = n := by omega
          rw [List.take_of_length_le (by rw [HL.out]; exact Nat.le_refl _)] at own
          obtain ⟨ys, hys⟩ : ∃ ys, sortR ltS xs = ys := ⟨_, rfl⟩
          have HYL := Lib.hid (show ys.length = i by rw [← hys, sortR_length]; exact HL.out)
          rw [hys] at own HR
          obtain ⟨rest, hB, hic⟩ : ∃ rest, Blk wr g 77 (ys.flatMap Sector.enc ++ rest) ∧ i ≤ c' := by
            rcases own_rowB own with ⟨h, _⟩ | ⟨g', rest, h1, h2, h3, h4, h5, h6⟩
            · cases h
            · obtain rfl : g = g' := by simpa using h1
              exact ⟨rest, h3, h5⟩
          have hgl := hB.lt
          have hKs := K.size
          have O4 := own_empty wr 3 1
          have B4 := hB.alloc (.cells #[] 3)
          have K4 : Below w.heap.size w (wr.alloc (.cells #[] 3)) := K.alloc K.size _
          have HYS := Lib.hid hys
          clear own hB hys
          go_wp2_with fail
          go_loopw [9, 10] (fun v iv wx => ∃ (t : Nat) (A' : Option Addr) (c' : Nat), t ≤ i ∧ (t : Int) ≤ s ∧ iv = .int .i64 (t : Int) ∧ v = .slice A' t c' ∧ wx.ownsRow wr.heap.size 3 1 (.slice A' t c') t (ints ((ys.take t).map Sector.cell)) ∧ Blk wx g 77 (ys.flatMap Sector.enc ++ rest) ∧ wr.heap.size ≤ wx.heap.size ∧ Below w.heap.size w wx) (fun _ iv _ => i - (intOf iv).toNat)
          case atStart => exact ⟨0, _, _, Nat.zero_le _, by omega, rfl, rfl, O4, B4, by simp, K4⟩
          case round =>
            obtain ⟨t, A', c4, ht, hts, rfl, rfl, own, hB, hz5, hb⟩ := hrel
            by_cases hlt2 : t < i ∧ (t : Int) < s
            · obtain ⟨hlt3, hlt4⟩ := hlt2
              have hty : t < ys.length := by rw [HYL.out]; omega
              have hx2 : Sees wr 0 2 (some ⟨g, 0, none⟩) i (ys.flatMap Sector.enc) := blk_sees hB HYL.out
              obtain ⟨b, off, hbe, hky, x0, x1⟩ := hx2.elem2 (fun _ => rfl) hlt3
              obtain ⟨rfl, rfl⟩ : g = b ∧ 0 = off := by simpa using hbe
              rw [Nat.zero_add] at x0 x1
              have HN := Lib.hid (best_next hty)
              have hgl2 := hB.lt
              clear HYL
              go_wp2_with (at_builtin; (refine wpList_pushNew rfl _ _ _ rfl Try.underlying22 info_int rfl (by decide) rfl own rfl (by simp) (by rfl) (by rfl) (by omega) (by decide) (by omega) ?_); intro A3 c3 w6 own3 ho3 hbb3 hat3)
              go_roundw
              case rel => exact ⟨t + 1, A3, c3, by omega, by omega, by go_num, rfl, by rw [HN.out]; simpa [ints] using own3, hB.only ho3 (fun e => by have := (own.lt _ (ownB_iff.2 e)).1; omega), by have := hbb3.size; omega, hb.trans (hbb3.mono (by omega))⟩
              case measure => simp [intOf]; omega
            · have HL2 := Lib.hid (show ((ys.take t).map Sector.cell).length = t by rw [List.length_map, List.length_take, HYL.out]; omega)
              have HE := Lib.hid (show bestM xs s = some ((ys.take t).map Sector.cell) by
                rw [HR.out]
                by_cases he : (t : Int) = s
                · rw [← he, Int.toNat_natCast]
                · rw [List.take_of_length_le (by rw [HYL.out]; omega), List.take_of_length_le (by rw [HYL.out]; omega)])
              have HO := Lib.hid hlt2
              rcases Nat.lt_or_ge t i with h8 | h8
              · have h9 : ¬ (t : Int) < s := fun h => hlt2 ⟨h8, h⟩
                clear hlt2
                go_wp2_with fail
                go_ret2
                rw [HE.out]
                exact ⟨A', c4, by show _ = Ending.returned (.tuple #[.slice A' ((ys.take t).map Sector.cell).length c4, .bool true]); rw [HL2.out]; rfl, by have o5 := own_base own hKs; show World.ownsRow _ _ _ _ (.slice A' ((ys.take t).map Sector.cell).length c4) ((ys.take t).map Sector.cell).length _; rw [HL2.out]; exact o5, hb⟩
              · have h9 : ¬ t < i := by omega
                clear hlt2
                go_wp2_with fail
                go_ret2
                rw [HE.out]
                exact ⟨A', c4, by show _ = Ending.returned (.tuple #[.slice A' ((ys.take t).map Sector.cell).length c4, .bool true]); rw [HL2.out]; rfl, by have o5 := own_base own hKs; show World.ownsRow _ _ _ _ (.slice A' ((ys.take t).map Sector.cell).length c4) ((ys.take t).map Sector.cell).length _; rw [HL2.out]; exact o5, hb⟩

end Go.Proofs.Ytjcmlloglnkbfaa
