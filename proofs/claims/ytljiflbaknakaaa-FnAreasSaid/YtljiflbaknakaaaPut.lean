/- A number put to its place, as the reference has it. -/
import Derived.Test.YtljiflbaknakaaaCopy
namespace Go.Proofs.Ytljiflbaknakaaa
open Go.RowKit

theorem Sees.take {w : World} {lo n : Nat} {A : Option Addr} {xs : List Int} (h : Sees w lo 1 A n (ints xs)) (k : Nat) (hk : k ≤ n) : Sees w lo 1 A k (ints (xs.take k)) := by
  have hl := h.icount
  refine ⟨by rw [ints_length, List.length_take]; omega, fun h0 => ?_⟩
  obtain ⟨b, off, e, h1, h2, h3⟩ := h.at' (by omega)
  refine ⟨b, off, e, h1, h2, fun j u hu => h3 j u ?_⟩
  have hj : j < (ints (xs.take k)).length := (List.getElem?_eq_some_iff.1 hu).1
  rw [ints_length, List.length_take] at hj
  unfold ints at hu ⊢
  rw [List.getElem?_map, List.getElem?_take_of_lt (by omega)] at hu
  rw [List.getElem?_map]
  exact hu
theorem Sees.drop {w : World} {lo n b off : Nat} {xs : List Int} (h : Sees w lo 1 (some ⟨b, off, none⟩) n (ints xs)) (k : Nat) (hk : k ≤ n) : Sees w lo 1 (some ⟨b, off + k, none⟩) (n - k) (ints (xs.drop k)) := by
  have hl := h.icount
  refine ⟨by rw [ints_length, List.length_drop]; omega, fun h0 => ?_⟩
  obtain ⟨b', off', e, h1, h2, h3⟩ := h.at' (by omega)
  obtain ⟨rfl, rfl⟩ : b = b' ∧ off = off' := by simpa using e
  refine ⟨b, off + k, rfl, h1, h2, fun j u hu => ?_⟩
  rw [Nat.add_assoc]
  refine h3 (k + j) u ?_
  unfold ints at hu ⊢
  rw [List.getElem?_map, List.getElem?_drop] at hu
  rw [List.getElem?_map]
  exact hu

theorem givesL_of {w w' : World} {R : List Int} {A : Option Addr} {n c : Nat} {cs : List Value} (own : w'.ownsRow w.heap.size 3 1 (.slice A n c) n cs) (hcs : cs = ints R) (K : Below w.heap.size w w') : GivesL w R (.returned (.slice A n c)) w' := by
  subst hcs
  have h := own.1
  rw [ints_length, Nat.mul_one] at h
  subst h
  exact ⟨A, c, rfl, own, K⟩

set_option maxRecDepth 100000 in
set_option maxHeartbeats 4000000 in
theorem l1Put_any (b off n c lo : Nat) (xs : List Int) (v : Int) (w : World) (hx : Sees w lo 1 (some ⟨b, off, none⟩) n (ints xs)) (hn : n ≤ 1000) (hnc : n ≤ c) (hv : v ∉ xs) :
    Calls Try.prog 90 #[.slice (some ⟨b, off, none⟩) n c, .int .i64 v] w (GivesL w (putI xs v)) := by
  have hl := hx.icount
  go_enter Try.func90, Try.ntmps90
  go_wp2_with fail
  go_loop [5] (fun i => ∃ k : Nat, k ≤ n ∧ i = .int .i64 (k : Int) ∧ Hid (∀ (j : Nat) (_ : j < xs.length), j < k → xs[j] < v)) (fun i => n - (intOf i).toNat)
  case atStart => exact ⟨0, Nat.zero_le _, rfl, Lib.hid (fun j _ h => absurd h (by omega))⟩
  case round =>
    obtain ⟨k, hk, rfl, HB⟩ := hrel
    by_cases hlt : k < n
    · obtain ⟨b', off', e, hk3, x3⟩ := hx.int hlt
      obtain ⟨rfl, rfl⟩ : b = b' ∧ off = off' := by simpa using e
      have hvk : xs[k] ≠ v := fun h => hv (h ▸ List.getElem_mem hk3)
      have HB2 := Lib.hid (fun (h : xs[k] < v) (j : Nat) (hj : j < xs.length) (hjk : j < k + 1) => show xs[j] < v by
        rcases Nat.lt_or_ge j k with h1 | h1
        · exact HB.out j hj h1
        · obtain rfl : j = k := by omega
          exact h)
      have HP := Lib.hid (fun (h : ¬ xs[k] < v) => putI_at (n := v) (l := xs) (k := k) (by omega) HB.out (fun _ => by omega))
      have hk36 : k ≤ 1000 := by omega
      have hg := List.getElem?_eq_getElem hk3
      clear e
      generalize xs[k] = y at *
      by_cases hy : y < v
      · have hd : decide (y < v) = true := decide_eq_true hy
        have HB3 := Lib.hid (HB2.out hy)
        clear HB2 HP hg
        go_wp2_with fail
        go_round
        case rel => exact ⟨k + 1, by omega, by go_num, HB3⟩
        case measure => simp [intOf]; omega
      · have hd : decide (y < v) = false := decide_eq_false hy
        have hbe : (y == v) = false := beq_eq_false_iff_ne.2 hvk
        have HPF := Lib.hid (show putI xs v = xs.take k ++ v :: xs.drop k by rw [HP.out hy, hg, if_neg (by simpa using hvk)])
        have hpre := hx.take k (by omega)
        clear HB2 HB hg hv HP
        have hsuf := hx.drop k (by omega)
        have hk1 : k ≤ c := by omega
        have hk2 : ¬ c = k := by omega
        have hk3' : k ≤ n := by omega
        go_wp2_with fail
        refine wp_region_held_drew (S := fun _ => True) (by kernel_rfl) trivial (fun hHeld => ?_)
        have K1 := (Quiet.one w).below w.heap.size
        generalize w.drew = w1 at *
        refine wpAnyH_take (i := 1) (v := ?_) rfl (by kernel_rfl) (by kernel_rfl) (by kernel_rfl) (fun _ _ _ h => h) (Or.inl ⟨by rfl, ?_⟩) (by assumption) ?_
        rotate_left 1
        · (intro w hSw; (try dsimp only at hSw); go_simp; try with_reducible rfl)
        (try simp only [Act.put, List.setIfInBounds_toArray, List.set_cons_zero, List.set_cons_succ, List.getElem_toArray, List.getElem_cons_zero, List.getElem_cons_succ])
        refine wpAnyH_take (i := 2) (v := ?_) rfl (by kernel_rfl) (by kernel_rfl) (by kernel_rfl) (fun _ _ _ h => h) (Or.inl ⟨by rfl, ?_⟩) (by assumption) ?_
        rotate_left 1
        · (intro w hSw; (try dsimp only at hSw); go_simp; try with_reducible rfl)
        (try simp only [Act.put, List.setIfInBounds_toArray, List.set_cons_zero, List.set_cons_succ, List.getElem_toArray, List.getElem_cons_zero, List.getElem_cons_succ])
        refine wpAnyH_take (i := 3) (v := ?_) rfl (by kernel_rfl) (by kernel_rfl) (by kernel_rfl) (fun _ _ _ h => h) (Or.inl ⟨by rfl, ?_⟩) (by assumption) ?_
        rotate_left 1
        · (intro w hSw; (try dsimp only at hSw); go_simp; try with_reducible rfl)
        (try simp only [Act.put, List.setIfInBounds_toArray, List.set_cons_zero, List.set_cons_succ, List.getElem_toArray, List.getElem_cons_zero, List.getElem_cons_succ])
        refine wpAnyH_take (i := 5) (v := ?_) rfl (by kernel_rfl) (by kernel_rfl) (by kernel_rfl) (fun _ _ _ h => h) (Or.inl ⟨by rfl, ?_⟩) (by assumption) ?_
        rotate_left 1
        · (intro w hSw; (try dsimp only at hSw); go_simp; try with_reducible rfl)
        (try simp only [Act.put, List.setIfInBounds_toArray, List.set_cons_zero, List.set_cons_succ, List.getElem_toArray, List.getElem_cons_zero, List.getElem_cons_succ])
        refine wpAnyH_take (i := 8) (v := ?_) rfl (by kernel_rfl) (by kernel_rfl) (by kernel_rfl) (fun _ _ _ h => h) (Or.inl ⟨by rfl, ?_⟩) (by assumption) ?_
        rotate_left 1
        · (intro w hSw; (try dsimp only at hSw); go_simp; try with_reducible rfl)
        (try simp only [Act.put, List.setIfInBounds_toArray, List.set_cons_zero, List.set_cons_succ, List.getElem_toArray, List.getElem_cons_zero, List.getElem_cons_succ])
        refine wpAnyH_take (i := 9) (v := ?_) rfl (by kernel_rfl) (by kernel_rfl) (by kernel_rfl) (fun _ _ _ h => h) (Or.inl ⟨by rfl, ?_⟩) (by assumption) ?_
        rotate_left 1
        · (intro w hSw; (try dsimp only at hSw); go_simp; try with_reducible rfl)
        (try simp only [Act.put, List.setIfInBounds_toArray, List.set_cons_zero, List.set_cons_succ, List.getElem_toArray, List.getElem_cons_zero, List.getElem_cons_succ])
        refine wpAnyH_take (i := 10) (v := ?_) rfl (by kernel_rfl) (by kernel_rfl) (by kernel_rfl) (fun _ _ _ h => h) (Or.inl ⟨by rfl, ?_⟩) (by assumption) ?_
        rotate_left 1
        · (intro w hSw; (try dsimp only at hSw); go_simp; try with_reducible rfl)
        (try simp only [Act.put, List.setIfInBounds_toArray, List.set_cons_zero, List.set_cons_succ, List.getElem_toArray, List.getElem_cons_zero, List.getElem_cons_succ])
        refine wpAnyH_ready (rs := [0, 6]) (by kernel_rfl) (by simp) ?_
        refine AllReadyH.cons rfl (fun K hK => ?_) ?_
        · go_simp
          refine hK.out _ _ trivial (fun hHeld => ?_)
          clear hK K
          try simp only [Act.put, List.setIfInBounds_toArray, List.set_cons_zero, List.set_cons_succ, List.getElem_toArray, List.getElem_cons_zero]
          have U2 : Below w1.heap.size w1 (w1.alloc (.cells #[] 3)) := (Below.refl _ _).alloc (Nat.le_refl _) _
          have own := own_base (own_empty w1 3 1) (show w.heap.size ≤ w1.heap.size from K1.size)
          have K2 := bel_then K1 U2
          generalize (w1.alloc (.cells #[] 3)) = w2 at *
          have ownP := own
          refine wpAnyH_ready (rs := [4, 6]) (by kernel_rfl) (by simp) ?_
          refine AllReadyH.cons rfl (fun K hK => ?_) ?_
          · refine step_cat rfl _ _ _ (by rfl) Try.underlying22 info_int rfl (by decide) (by rfl) own (by rfl) (m := k) (hpre.next K2) (ints_all _) (by omega) (by omega) (by decide) (by have := K2.size; omega) ?_
            intro A3 c3 w3 own3 o3 b3 q3
            refine hK.out _ _ trivial (fun hHeld => ?_)
            clear hK K
            (try simp only [Act.put, List.setIfInBounds_toArray, List.set_cons_zero, List.set_cons_succ, List.getElem_toArray, List.getElem_cons_zero, List.getElem_cons_succ])
            (try simp only [Nat.zero_add])
            have K3 := K2.trans b3
            simp only [Nat.zero_add, List.nil_append] at own3
            replace own := own3
            clear own3
            replace ownP := own
            refine wpAnyH_ready (rs := [6]) (by kernel_rfl) (by simp) ?_
            refine AllReadyH.cons rfl (fun K hK => ?_) AllReadyH.nil
            go_simp
            refine hK.out _ _ trivial (fun hHeld => ?_)
            clear hK K
            try simp only [Act.put, List.setIfInBounds_toArray, List.set_cons_zero, List.set_cons_succ, List.getElem_toArray, List.getElem_cons_zero, List.getElem_cons_succ]
            have U4 : Below w3.heap.size w3 (w3.alloc (.cells #[.int .i64 v] 3)) := (Below.refl _ _).alloc (Nat.le_refl _) _
            replace own := own_below own U4
            have box : Blk (w3.alloc (.cells #[.int .i64 v] 3)) w3.heap.size 3 [.int .i64 v] := Blk.at_ rfl
            have lb := box.lt
            have hne : ∀ b, OwnB A3 b → b ≠ w3.heap.size := fun b hb => by have := (own_top ownP hb).2; omega
            have K4 := bel_then K3 U4
            generalize (w3.alloc (.cells #[.int .i64 v] 3)) = w4 at *
            replace ownP := own
            refine wpAnyH_ready (rs := [7]) (by kernel_rfl) (by simp) ?_
            refine AllReadyH.cons rfl (fun K hK => ?_) AllReadyH.nil
            refine step_cat rfl _ _ _ (by rfl) Try.underlying22 info_int rfl (by decide) (by rfl) own (by rfl) (m := 1) (box.sees (s := 1) (Nat.zero_le _) rfl) (by simp [Value.oneCell']) (by omega) (by omega) (by decide) (by have := K4.size; omega) ?_
            intro A5 c5 w5 own5 o5 b5 q5
            refine hK.out _ _ trivial (fun hHeld => ?_)
            clear hK K
            (try simp only [Act.put, List.setIfInBounds_toArray, List.set_cons_zero, List.set_cons_succ, List.getElem_toArray, List.getElem_cons_zero, List.getElem_cons_succ])
            have K5 := K4.trans b5
            replace own := own5
            clear own5
            refine wpAnyH_ready (rs := [11]) (by kernel_rfl) (by simp) ?_
            refine AllReadyH.cons rfl (fun K hK => ?_) AllReadyH.nil
            refine step_cat rfl _ _ _ (by rfl) Try.underlying22 info_int rfl (by decide) (by rfl) own (by rfl) (m := (n - k)) (hsuf.next K5) (ints_all _) (by omega) (by omega) (by decide) (by have := K5.size; omega) ?_
            intro A6 c6 w6 own6 o6 b6 q6
            refine hK.out _ _ trivial (fun hHeld => ?_)
            clear hK K
            (try simp only [Act.put, List.setIfInBounds_toArray, List.set_cons_zero, List.set_cons_succ, List.getElem_toArray, List.getElem_cons_zero, List.getElem_cons_succ])
            have K6 := K5.trans b6
            replace own := own6
            clear own6
            refine wpAnyH_take (i := 12) (v := ?_) rfl (by kernel_rfl) (by kernel_rfl) (by kernel_rfl) (fun _ _ _ h => h) (Or.inl ⟨by rfl, ?_⟩) (by assumption) ?_
            rotate_left 1
            · (intro w hSw; (try dsimp only at hSw); go_simp; try with_reducible rfl)
            (try simp only [Act.put, List.setIfInBounds_toArray, List.set_cons_zero, List.set_cons_succ, List.getElem_toArray, List.getElem_cons_zero, List.getElem_cons_succ])
            refine wpAnyH_done (by kernel_rfl) ?_ _
            go_wp2_with fail
            go_ret
            exact givesL_of own (by rw [HPF.out]; simp [ints]) K6
          refine AllReadyH.cons rfl (fun K hK => ?_) AllReadyH.nil
          · go_simp
            refine hK.out _ _ trivial (fun hHeld => ?_)
            clear hK K
            try simp only [Act.put, List.setIfInBounds_toArray, List.set_cons_zero, List.set_cons_succ, List.getElem_toArray, List.getElem_cons_zero, List.getElem_cons_succ]
            have U3 : Below w2.heap.size w2 (w2.alloc (.cells #[.int .i64 v] 3)) := (Below.refl _ _).alloc (Nat.le_refl _) _
            replace own := own_below own U3
            have box : Blk (w2.alloc (.cells #[.int .i64 v] 3)) w2.heap.size 3 [.int .i64 v] := Blk.at_ rfl
            have lb := box.lt
            have hne : ∀ b, OwnB (some ⟨w1.heap.size, 0, none⟩) b → b ≠ w2.heap.size := fun b hb => by have := (own_top ownP hb).2; omega
            have K3 := bel_then K2 U3
            generalize (w2.alloc (.cells #[.int .i64 v] 3)) = w3 at *
            replace ownP := own
            refine wpAnyH_ready (rs := [4]) (by kernel_rfl) (by simp) ?_
            refine AllReadyH.cons rfl (fun K hK => ?_) AllReadyH.nil
            refine step_cat rfl _ _ _ (by rfl) Try.underlying22 info_int rfl (by decide) (by rfl) own (by rfl) (m := k) (hpre.next K3) (ints_all _) (by omega) (by omega) (by decide) (by have := K3.size; omega) ?_
            intro A4 c4 w4 own4 o4 b4 q4
            refine hK.out _ _ trivial (fun hHeld => ?_)
            clear hK K
            (try simp only [Act.put, List.setIfInBounds_toArray, List.set_cons_zero, List.set_cons_succ, List.getElem_toArray, List.getElem_cons_zero, List.getElem_cons_succ])
            (try simp only [Nat.zero_add])
            have K4 := K3.trans b4
            replace box := box.only o4 (fun h => hne _ h rfl)
            simp only [Nat.zero_add, List.nil_append] at own4
            replace own := own4
            clear own4
            replace ownP := own
            refine wpAnyH_ready (rs := [7]) (by kernel_rfl) (by simp) ?_
            refine AllReadyH.cons rfl (fun K hK => ?_) AllReadyH.nil
            refine step_cat rfl _ _ _ (by rfl) Try.underlying22 info_int rfl (by decide) (by rfl) own (by rfl) (m := 1) (box.sees (s := 1) (Nat.zero_le _) rfl) (by simp [Value.oneCell']) (by omega) (by omega) (by decide) (by have := K4.size; omega) ?_
            intro A5 c5 w5 own5 o5 b5 q5
            refine hK.out _ _ trivial (fun hHeld => ?_)
            clear hK K
            (try simp only [Act.put, List.setIfInBounds_toArray, List.set_cons_zero, List.set_cons_succ, List.getElem_toArray, List.getElem_cons_zero, List.getElem_cons_succ])
            have K5 := K4.trans b5
            replace own := own5
            clear own5
            refine wpAnyH_ready (rs := [11]) (by kernel_rfl) (by simp) ?_
            refine AllReadyH.cons rfl (fun K hK => ?_) AllReadyH.nil
            refine step_cat rfl _ _ _ (by rfl) Try.underlying22 info_int rfl (by decide) (by rfl) own (by rfl) (m := (n - k)) (hsuf.next K5) (ints_all _) (by omega) (by omega) (by decide) (by have := K5.size; omega) ?_
            intro A6 c6 w6 own6 o6 b6 q6
            refine hK.out _ _ trivial (fun hHeld => ?_)
            clear hK K
            (try simp only [Act.put, List.setIfInBounds_toArray, List.set_cons_zero, List.set_cons_succ, List.getElem_toArray, List.getElem_cons_zero, List.getElem_cons_succ])
            have K6 := K5.trans b6
            replace own := own6
            clear own6
            refine wpAnyH_take (i := 12) (v := ?_) rfl (by kernel_rfl) (by kernel_rfl) (by kernel_rfl) (fun _ _ _ h => h) (Or.inl ⟨by rfl, ?_⟩) (by assumption) ?_
            rotate_left 1
            · (intro w hSw; (try dsimp only at hSw); go_simp; try with_reducible rfl)
            (try simp only [Act.put, List.setIfInBounds_toArray, List.set_cons_zero, List.set_cons_succ, List.getElem_toArray, List.getElem_cons_zero, List.getElem_cons_succ])
            refine wpAnyH_done (by kernel_rfl) ?_ _
            go_wp2_with fail
            go_ret
            exact givesL_of own (by rw [HPF.out]; simp [ints]) K6
        refine AllReadyH.cons rfl (fun K hK => ?_) AllReadyH.nil
        · go_simp
          refine hK.out _ _ trivial (fun hHeld => ?_)
          clear hK K
          try simp only [Act.put, List.setIfInBounds_toArray, List.set_cons_zero, List.set_cons_succ, List.getElem_toArray, List.getElem_cons_zero, List.getElem_cons_succ]
          have U2 : Below w1.heap.size w1 (w1.alloc (.cells #[.int .i64 v] 3)) := (Below.refl _ _).alloc (Nat.le_refl _) _
          have box : Blk (w1.alloc (.cells #[.int .i64 v] 3)) w1.heap.size 3 [.int .i64 v] := Blk.at_ rfl
          have lb := box.lt
          have K2 := bel_then K1 U2
          generalize (w1.alloc (.cells #[.int .i64 v] 3)) = w2 at *
          refine wpAnyH_ready (rs := [0]) (by kernel_rfl) (by simp) ?_
          refine AllReadyH.cons rfl (fun K hK => ?_) AllReadyH.nil
          go_simp
          refine hK.out _ _ trivial (fun hHeld => ?_)
          clear hK K
          try simp only [Act.put, List.setIfInBounds_toArray, List.set_cons_zero, List.set_cons_succ, List.getElem_toArray, List.getElem_cons_zero]
          have U3 : Below w2.heap.size w2 (w2.alloc (.cells #[] 3)) := (Below.refl _ _).alloc (Nat.le_refl _) _
          replace box := box.next U3
          have own := own_base (own_empty w2 3 1) (show w.heap.size ≤ w2.heap.size from K2.size)
          have hne : ∀ b, OwnB (some ⟨w2.heap.size, 0, none⟩) b → b ≠ w1.heap.size := fun b hb => by have h4 : w2.heap.size = b := (by simpa [OwnB, Value.ownBlock] using hb); have h5 := lb; omega
          have K3 := bel_then K2 U3
          generalize (w2.alloc (.cells #[] 3)) = w3 at *
          have ownP := own
          refine wpAnyH_ready (rs := [4]) (by kernel_rfl) (by simp) ?_
          refine AllReadyH.cons rfl (fun K hK => ?_) AllReadyH.nil
          refine step_cat rfl _ _ _ (by rfl) Try.underlying22 info_int rfl (by decide) (by rfl) own (by rfl) (m := k) (hpre.next K3) (ints_all _) (by omega) (by omega) (by decide) (by have := K3.size; omega) ?_
          intro A4 c4 w4 own4 o4 b4 q4
          refine hK.out _ _ trivial (fun hHeld => ?_)
          clear hK K
          (try simp only [Act.put, List.setIfInBounds_toArray, List.set_cons_zero, List.set_cons_succ, List.getElem_toArray, List.getElem_cons_zero, List.getElem_cons_succ])
          (try simp only [Nat.zero_add])
          have K4 := K3.trans b4
          replace box := box.only o4 (fun h => hne _ h rfl)
          simp only [Nat.zero_add, List.nil_append] at own4
          replace own := own4
          clear own4
          replace ownP := own
          refine wpAnyH_ready (rs := [7]) (by kernel_rfl) (by simp) ?_
          refine AllReadyH.cons rfl (fun K hK => ?_) AllReadyH.nil
          refine step_cat rfl _ _ _ (by rfl) Try.underlying22 info_int rfl (by decide) (by rfl) own (by rfl) (m := 1) (box.sees (s := 1) (Nat.zero_le _) rfl) (by simp [Value.oneCell']) (by omega) (by omega) (by decide) (by have := K4.size; omega) ?_
          intro A5 c5 w5 own5 o5 b5 q5
          refine hK.out _ _ trivial (fun hHeld => ?_)
          clear hK K
          (try simp only [Act.put, List.setIfInBounds_toArray, List.set_cons_zero, List.set_cons_succ, List.getElem_toArray, List.getElem_cons_zero, List.getElem_cons_succ])
          have K5 := K4.trans b5
          replace own := own5
          clear own5
          refine wpAnyH_ready (rs := [11]) (by kernel_rfl) (by simp) ?_
          refine AllReadyH.cons rfl (fun K hK => ?_) AllReadyH.nil
          refine step_cat rfl _ _ _ (by rfl) Try.underlying22 info_int rfl (by decide) (by rfl) own (by rfl) (m := (n - k)) (hsuf.next K5) (ints_all _) (by omega) (by omega) (by decide) (by have := K5.size; omega) ?_
          intro A6 c6 w6 own6 o6 b6 q6
          refine hK.out _ _ trivial (fun hHeld => ?_)
          clear hK K
          (try simp only [Act.put, List.setIfInBounds_toArray, List.set_cons_zero, List.set_cons_succ, List.getElem_toArray, List.getElem_cons_zero, List.getElem_cons_succ])
          have K6 := K5.trans b6
          replace own := own6
          clear own6
          refine wpAnyH_take (i := 12) (v := ?_) rfl (by kernel_rfl) (by kernel_rfl) (by kernel_rfl) (fun _ _ _ h => h) (Or.inl ⟨by rfl, ?_⟩) (by assumption) ?_
          rotate_left 1
          · (intro w hSw; (try dsimp only at hSw); go_simp; try with_reducible rfl)
          (try simp only [Act.put, List.setIfInBounds_toArray, List.set_cons_zero, List.set_cons_succ, List.getElem_toArray, List.getElem_cons_zero, List.getElem_cons_succ])
          refine wpAnyH_done (by kernel_rfl) ?_ _
          go_wp2_with fail
          go_ret
          exact givesL_of own (by rw [HPF.out]; simp [ints]) K6
    · obtain rfl : n = k := by omega
      have HPF := Lib.hid (show putI xs v = xs.take n ++ [v] by
        rw [putI_at (n := v) (l := xs) (k := n) (by omega) HB.out (fun h => absurd h (by omega)), List.getElem?_eq_none (by omega), if_neg (by simp), List.drop_of_length_le (by omega)])
      have hpre := hx.take n (Nat.le_refl _)
      clear HB hv
      have hk1 : n ≤ c := hnc
      by_cases hk2 : c = n
      · go_wp2_with fail
        refine wp_region_held_drew (S := fun _ => True) (by kernel_rfl) trivial (fun hHeld => ?_)
        have K1 := (Quiet.one w).below w.heap.size
        generalize w.drew = w1 at *
        refine wpAnyH_take (i := 1) (v := ?_) rfl (by kernel_rfl) (by kernel_rfl) (by kernel_rfl) (fun _ _ _ h => h) (Or.inl ⟨by rfl, ?_⟩) (by assumption) ?_
        rotate_left 1
        · (intro w hSw; (try dsimp only at hSw); go_simp; try with_reducible rfl)
        (try simp only [Act.put, List.setIfInBounds_toArray, List.set_cons_zero, List.set_cons_succ, List.getElem_toArray, List.getElem_cons_zero, List.getElem_cons_succ])
        refine wpAnyH_take (i := 2) (v := ?_) rfl (by kernel_rfl) (by kernel_rfl) (by kernel_rfl) (fun _ _ _ h => h) (Or.inl ⟨by rfl, ?_⟩) (by assumption) ?_
        rotate_left 1
        · (intro w hSw; (try dsimp only at hSw); go_simp; try with_reducible rfl)
        (try simp only [Act.put, List.setIfInBounds_toArray, List.set_cons_zero, List.set_cons_succ, List.getElem_toArray, List.getElem_cons_zero, List.getElem_cons_succ])
        refine wpAnyH_take (i := 3) (v := ?_) rfl (by kernel_rfl) (by kernel_rfl) (by kernel_rfl) (fun _ _ _ h => h) (Or.inl ⟨by rfl, ?_⟩) (by assumption) ?_
        rotate_left 1
        · (intro w hSw; (try dsimp only at hSw); go_simp; try with_reducible rfl)
        (try simp only [Act.put, List.setIfInBounds_toArray, List.set_cons_zero, List.set_cons_succ, List.getElem_toArray, List.getElem_cons_zero, List.getElem_cons_succ])
        refine wpAnyH_take (i := 5) (v := ?_) rfl (by kernel_rfl) (by kernel_rfl) (by kernel_rfl) (fun _ _ _ h => h) (Or.inl ⟨by rfl, ?_⟩) (by assumption) ?_
        rotate_left 1
        · (intro w hSw; (try dsimp only at hSw); go_simp; try with_reducible rfl)
        (try simp only [Act.put, List.setIfInBounds_toArray, List.set_cons_zero, List.set_cons_succ, List.getElem_toArray, List.getElem_cons_zero, List.getElem_cons_succ])
        refine wpAnyH_take (i := 8) (v := ?_) rfl (by kernel_rfl) (by kernel_rfl) (by kernel_rfl) (fun _ _ _ h => h) (Or.inl ⟨by rfl, ?_⟩) (by assumption) ?_
        rotate_left 1
        · (intro w hSw; (try dsimp only at hSw); go_simp; try with_reducible rfl)
        (try simp only [Act.put, List.setIfInBounds_toArray, List.set_cons_zero, List.set_cons_succ, List.getElem_toArray, List.getElem_cons_zero, List.getElem_cons_succ])
        refine wpAnyH_take (i := 9) (v := ?_) rfl (by kernel_rfl) (by kernel_rfl) (by kernel_rfl) (fun _ _ _ h => h) (Or.inl ⟨by rfl, ?_⟩) (by assumption) ?_
        rotate_left 1
        · (intro w hSw; (try dsimp only at hSw); go_simp; try with_reducible rfl)
        (try simp only [Act.put, List.setIfInBounds_toArray, List.set_cons_zero, List.set_cons_succ, List.getElem_toArray, List.getElem_cons_zero, List.getElem_cons_succ])
        refine wpAnyH_take (i := 10) (v := ?_) rfl (by kernel_rfl) (by kernel_rfl) (by kernel_rfl) (fun _ _ _ h => h) (Or.inl ⟨by rfl, ?_⟩) (by assumption) ?_
        rotate_left 1
        · (intro w hSw; (try dsimp only at hSw); go_simp; try with_reducible rfl)
        (try simp only [Act.put, List.setIfInBounds_toArray, List.set_cons_zero, List.set_cons_succ, List.getElem_toArray, List.getElem_cons_zero, List.getElem_cons_succ])
        refine wpAnyH_ready (rs := [0, 6]) (by kernel_rfl) (by simp) ?_
        refine AllReadyH.cons rfl (fun K hK => ?_) ?_
        · go_simp
          refine hK.out _ _ trivial (fun hHeld => ?_)
          clear hK K
          try simp only [Act.put, List.setIfInBounds_toArray, List.set_cons_zero, List.set_cons_succ, List.getElem_toArray, List.getElem_cons_zero]
          have U2 : Below w1.heap.size w1 (w1.alloc (.cells #[] 3)) := (Below.refl _ _).alloc (Nat.le_refl _) _
          have own := own_base (own_empty w1 3 1) (show w.heap.size ≤ w1.heap.size from K1.size)
          have K2 := bel_then K1 U2
          generalize (w1.alloc (.cells #[] 3)) = w2 at *
          have ownP := own
          refine wpAnyH_ready (rs := [4, 6]) (by kernel_rfl) (by simp) ?_
          refine AllReadyH.cons rfl (fun K hK => ?_) ?_
          · refine step_cat rfl _ _ _ (by rfl) Try.underlying22 info_int rfl (by decide) (by rfl) own (by rfl) (m := n) (hpre.next K2) (ints_all _) (by omega) (by omega) (by decide) (by have := K2.size; omega) ?_
            intro A3 c3 w3 own3 o3 b3 q3
            refine hK.out _ _ trivial (fun hHeld => ?_)
            clear hK K
            (try simp only [Act.put, List.setIfInBounds_toArray, List.set_cons_zero, List.set_cons_succ, List.getElem_toArray, List.getElem_cons_zero, List.getElem_cons_succ])
            (try simp only [Nat.zero_add])
            have K3 := K2.trans b3
            simp only [Nat.zero_add, List.nil_append] at own3
            replace own := own3
            clear own3
            replace ownP := own
            refine wpAnyH_ready (rs := [6]) (by kernel_rfl) (by simp) ?_
            refine AllReadyH.cons rfl (fun K hK => ?_) AllReadyH.nil
            go_simp
            refine hK.out _ _ trivial (fun hHeld => ?_)
            clear hK K
            try simp only [Act.put, List.setIfInBounds_toArray, List.set_cons_zero, List.set_cons_succ, List.getElem_toArray, List.getElem_cons_zero, List.getElem_cons_succ]
            have U4 : Below w3.heap.size w3 (w3.alloc (.cells #[.int .i64 v] 3)) := (Below.refl _ _).alloc (Nat.le_refl _) _
            replace own := own_below own U4
            have box : Blk (w3.alloc (.cells #[.int .i64 v] 3)) w3.heap.size 3 [.int .i64 v] := Blk.at_ rfl
            have lb := box.lt
            have hne : ∀ b, OwnB A3 b → b ≠ w3.heap.size := fun b hb => by have := (own_top ownP hb).2; omega
            have K4 := bel_then K3 U4
            generalize (w3.alloc (.cells #[.int .i64 v] 3)) = w4 at *
            replace ownP := own
            refine wpAnyH_ready (rs := [7]) (by kernel_rfl) (by simp) ?_
            refine AllReadyH.cons rfl (fun K hK => ?_) AllReadyH.nil
            refine step_cat rfl _ _ _ (by rfl) Try.underlying22 info_int rfl (by decide) (by rfl) own (by rfl) (m := 1) (box.sees (s := 1) (Nat.zero_le _) rfl) (by simp [Value.oneCell']) (by omega) (by omega) (by decide) (by have := K4.size; omega) ?_
            intro A5 c5 w5 own5 o5 b5 q5
            refine hK.out _ _ trivial (fun hHeld => ?_)
            clear hK K
            (try simp only [Act.put, List.setIfInBounds_toArray, List.set_cons_zero, List.set_cons_succ, List.getElem_toArray, List.getElem_cons_zero, List.getElem_cons_succ])
            have K5 := K4.trans b5
            replace own := own5
            clear own5
            refine wpAnyH_ready (rs := [11]) (by kernel_rfl) (by simp) ?_
            refine AllReadyH.cons rfl (fun K hK => ?_) AllReadyH.nil
            refine step_cat rfl _ _ _ (by rfl) Try.underlying22 info_int rfl (by decide) (by rfl) own (by rfl) (m := 0) (Sees.nil _ lo 1 _) (by simp) (by omega) (by omega) (by decide) (by have := K5.size; omega) ?_
            intro A6 c6 w6 own6 o6 b6 q6
            refine hK.out _ _ trivial (fun hHeld => ?_)
            clear hK K
            (try simp only [Act.put, List.setIfInBounds_toArray, List.set_cons_zero, List.set_cons_succ, List.getElem_toArray, List.getElem_cons_zero, List.getElem_cons_succ])
            have K6 := K5.trans b6
            replace own := own6
            clear own6
            refine wpAnyH_take (i := 12) (v := ?_) rfl (by kernel_rfl) (by kernel_rfl) (by kernel_rfl) (fun _ _ _ h => h) (Or.inl ⟨by rfl, ?_⟩) (by assumption) ?_
            rotate_left 1
            · (intro w hSw; (try dsimp only at hSw); go_simp; try with_reducible rfl)
            (try simp only [Act.put, List.setIfInBounds_toArray, List.set_cons_zero, List.set_cons_succ, List.getElem_toArray, List.getElem_cons_zero, List.getElem_cons_succ])
            refine wpAnyH_done (by kernel_rfl) ?_ _
            go_wp2_with fail
            go_ret
            exact givesL_of own (by rw [HPF.out]; simp [ints]) K6
          refine AllReadyH.cons rfl (fun K hK => ?_) AllReadyH.nil
          · go_simp
            refine hK.out _ _ trivial (fun hHeld => ?_)
            clear hK K
            try simp only [Act.put, List.setIfInBounds_toArray, List.set_cons_zero, List.set_cons_succ, List.getElem_toArray, List.getElem_cons_zero, List.getElem_cons_succ]
            have U3 : Below w2.heap.size w2 (w2.alloc (.cells #[.int .i64 v] 3)) := (Below.refl _ _).alloc (Nat.le_refl _) _
            replace own := own_below own U3
            have box : Blk (w2.alloc (.cells #[.int .i64 v] 3)) w2.heap.size 3 [.int .i64 v] := Blk.at_ rfl
            have lb := box.lt
            have hne : ∀ b, OwnB (some ⟨w1.heap.size, 0, none⟩) b → b ≠ w2.heap.size := fun b hb => by have := (own_top ownP hb).2; omega
            have K3 := bel_then K2 U3
            generalize (w2.alloc (.cells #[.int .i64 v] 3)) = w3 at *
            replace ownP := own
            refine wpAnyH_ready (rs := [4]) (by kernel_rfl) (by simp) ?_
            refine AllReadyH.cons rfl (fun K hK => ?_) AllReadyH.nil
            refine step_cat rfl _ _ _ (by rfl) Try.underlying22 info_int rfl (by decide) (by rfl) own (by rfl) (m := n) (hpre.next K3) (ints_all _) (by omega) (by omega) (by decide) (by have := K3.size; omega) ?_
            intro A4 c4 w4 own4 o4 b4 q4
            refine hK.out _ _ trivial (fun hHeld => ?_)
            clear hK K
            (try simp only [Act.put, List.setIfInBounds_toArray, List.set_cons_zero, List.set_cons_succ, List.getElem_toArray, List.getElem_cons_zero, List.getElem_cons_succ])
            (try simp only [Nat.zero_add])
            have K4 := K3.trans b4
            replace box := box.only o4 (fun h => hne _ h rfl)
            simp only [Nat.zero_add, List.nil_append] at own4
            replace own := own4
            clear own4
            replace ownP := own
            refine wpAnyH_ready (rs := [7]) (by kernel_rfl) (by simp) ?_
            refine AllReadyH.cons rfl (fun K hK => ?_) AllReadyH.nil
            refine step_cat rfl _ _ _ (by rfl) Try.underlying22 info_int rfl (by decide) (by rfl) own (by rfl) (m := 1) (box.sees (s := 1) (Nat.zero_le _) rfl) (by simp [Value.oneCell']) (by omega) (by omega) (by decide) (by have := K4.size; omega) ?_
            intro A5 c5 w5 own5 o5 b5 q5
            refine hK.out _ _ trivial (fun hHeld => ?_)
            clear hK K
            (try simp only [Act.put, List.setIfInBounds_toArray, List.set_cons_zero, List.set_cons_succ, List.getElem_toArray, List.getElem_cons_zero, List.getElem_cons_succ])
            have K5 := K4.trans b5
            replace own := own5
            clear own5
            refine wpAnyH_ready (rs := [11]) (by kernel_rfl) (by simp) ?_
            refine AllReadyH.cons rfl (fun K hK => ?_) AllReadyH.nil
            refine step_cat rfl _ _ _ (by rfl) Try.underlying22 info_int rfl (by decide) (by rfl) own (by rfl) (m := 0) (Sees.nil _ lo 1 _) (by simp) (by omega) (by omega) (by decide) (by have := K5.size; omega) ?_
            intro A6 c6 w6 own6 o6 b6 q6
            refine hK.out _ _ trivial (fun hHeld => ?_)
            clear hK K
            (try simp only [Act.put, List.setIfInBounds_toArray, List.set_cons_zero, List.set_cons_succ, List.getElem_toArray, List.getElem_cons_zero, List.getElem_cons_succ])
            have K6 := K5.trans b6
            replace own := own6
            clear own6
            refine wpAnyH_take (i := 12) (v := ?_) rfl (by kernel_rfl) (by kernel_rfl) (by kernel_rfl) (fun _ _ _ h => h) (Or.inl ⟨by rfl, ?_⟩) (by assumption) ?_
            rotate_left 1
            · (intro w hSw; (try dsimp only at hSw); go_simp; try with_reducible rfl)
            (try simp only [Act.put, List.setIfInBounds_toArray, List.set_cons_zero, List.set_cons_succ, List.getElem_toArray, List.getElem_cons_zero, List.getElem_cons_succ])
            refine wpAnyH_done (by kernel_rfl) ?_ _
            go_wp2_with fail
            go_ret
            exact givesL_of own (by rw [HPF.out]; simp [ints]) K6
        refine AllReadyH.cons rfl (fun K hK => ?_) AllReadyH.nil
        · go_simp
          refine hK.out _ _ trivial (fun hHeld => ?_)
          clear hK K
          try simp only [Act.put, List.setIfInBounds_toArray, List.set_cons_zero, List.set_cons_succ, List.getElem_toArray, List.getElem_cons_zero, List.getElem_cons_succ]
          have U2 : Below w1.heap.size w1 (w1.alloc (.cells #[.int .i64 v] 3)) := (Below.refl _ _).alloc (Nat.le_refl _) _
          have box : Blk (w1.alloc (.cells #[.int .i64 v] 3)) w1.heap.size 3 [.int .i64 v] := Blk.at_ rfl
          have lb := box.lt
          have K2 := bel_then K1 U2
          generalize (w1.alloc (.cells #[.int .i64 v] 3)) = w2 at *
          refine wpAnyH_ready (rs := [0]) (by kernel_rfl) (by simp) ?_
          refine AllReadyH.cons rfl (fun K hK => ?_) AllReadyH.nil
          go_simp
          refine hK.out _ _ trivial (fun hHeld => ?_)
          clear hK K
          try simp only [Act.put, List.setIfInBounds_toArray, List.set_cons_zero, List.set_cons_succ, List.getElem_toArray, List.getElem_cons_zero]
          have U3 : Below w2.heap.size w2 (w2.alloc (.cells #[] 3)) := (Below.refl _ _).alloc (Nat.le_refl _) _
          replace box := box.next U3
          have own := own_base (own_empty w2 3 1) (show w.heap.size ≤ w2.heap.size from K2.size)
          have hne : ∀ b, OwnB (some ⟨w2.heap.size, 0, none⟩) b → b ≠ w1.heap.size := fun b hb => by have h4 : w2.heap.size = b := (by simpa [OwnB, Value.ownBlock] using hb); have h5 := lb; omega
          have K3 := bel_then K2 U3
          generalize (w2.alloc (.cells #[] 3)) = w3 at *
          have ownP := own
          refine wpAnyH_ready (rs := [4]) (by kernel_rfl) (by simp) ?_
          refine AllReadyH.cons rfl (fun K hK => ?_) AllReadyH.nil
          refine step_cat rfl _ _ _ (by rfl) Try.underlying22 info_int rfl (by decide) (by rfl) own (by rfl) (m := n) (hpre.next K3) (ints_all _) (by omega) (by omega) (by decide) (by have := K3.size; omega) ?_
          intro A4 c4 w4 own4 o4 b4 q4
          refine hK.out _ _ trivial (fun hHeld => ?_)
          clear hK K
          (try simp only [Act.put, List.setIfInBounds_toArray, List.set_cons_zero, List.set_cons_succ, List.getElem_toArray, List.getElem_cons_zero, List.getElem_cons_succ])
          (try simp only [Nat.zero_add])
          have K4 := K3.trans b4
          replace box := box.only o4 (fun h => hne _ h rfl)
          simp only [Nat.zero_add, List.nil_append] at own4
          replace own := own4
          clear own4
          replace ownP := own
          refine wpAnyH_ready (rs := [7]) (by kernel_rfl) (by simp) ?_
          refine AllReadyH.cons rfl (fun K hK => ?_) AllReadyH.nil
          refine step_cat rfl _ _ _ (by rfl) Try.underlying22 info_int rfl (by decide) (by rfl) own (by rfl) (m := 1) (box.sees (s := 1) (Nat.zero_le _) rfl) (by simp [Value.oneCell']) (by omega) (by omega) (by decide) (by have := K4.size; omega) ?_
          intro A5 c5 w5 own5 o5 b5 q5
          refine hK.out _ _ trivial (fun hHeld => ?_)
          clear hK K
          (try simp only [Act.put, List.setIfInBounds_toArray, List.set_cons_zero, List.set_cons_succ, List.getElem_toArray, List.getElem_cons_zero, List.getElem_cons_succ])
          have K5 := K4.trans b5
          replace own := own5
          clear own5
          refine wpAnyH_ready (rs := [11]) (by kernel_rfl) (by simp) ?_
          refine AllReadyH.cons rfl (fun K hK => ?_) AllReadyH.nil
          refine step_cat rfl _ _ _ (by rfl) Try.underlying22 info_int rfl (by decide) (by rfl) own (by rfl) (m := 0) (Sees.nil _ lo 1 _) (by simp) (by omega) (by omega) (by decide) (by have := K5.size; omega) ?_
          intro A6 c6 w6 own6 o6 b6 q6
          refine hK.out _ _ trivial (fun hHeld => ?_)
          clear hK K
          (try simp only [Act.put, List.setIfInBounds_toArray, List.set_cons_zero, List.set_cons_succ, List.getElem_toArray, List.getElem_cons_zero, List.getElem_cons_succ])
          have K6 := K5.trans b6
          replace own := own6
          clear own6
          refine wpAnyH_take (i := 12) (v := ?_) rfl (by kernel_rfl) (by kernel_rfl) (by kernel_rfl) (fun _ _ _ h => h) (Or.inl ⟨by rfl, ?_⟩) (by assumption) ?_
          rotate_left 1
          · (intro w hSw; (try dsimp only at hSw); go_simp; try with_reducible rfl)
          (try simp only [Act.put, List.setIfInBounds_toArray, List.set_cons_zero, List.set_cons_succ, List.getElem_toArray, List.getElem_cons_zero, List.getElem_cons_succ])
          refine wpAnyH_done (by kernel_rfl) ?_ _
          go_wp2_with fail
          go_ret
          exact givesL_of own (by rw [HPF.out]; simp [ints]) K6

      · go_wp2_with fail
        refine wp_region_held_drew (S := fun _ => True) (by kernel_rfl) trivial (fun hHeld => ?_)
        have K1 := (Quiet.one w).below w.heap.size
        generalize w.drew = w1 at *
        refine wpAnyH_take (i := 1) (v := ?_) rfl (by kernel_rfl) (by kernel_rfl) (by kernel_rfl) (fun _ _ _ h => h) (Or.inl ⟨by rfl, ?_⟩) (by assumption) ?_
        rotate_left 1
        · (intro w hSw; (try dsimp only at hSw); go_simp; try with_reducible rfl)
        (try simp only [Act.put, List.setIfInBounds_toArray, List.set_cons_zero, List.set_cons_succ, List.getElem_toArray, List.getElem_cons_zero, List.getElem_cons_succ])
        refine wpAnyH_take (i := 2) (v := ?_) rfl (by kernel_rfl) (by kernel_rfl) (by kernel_rfl) (fun _ _ _ h => h) (Or.inl ⟨by rfl, ?_⟩) (by assumption) ?_
        rotate_left 1
        · (intro w hSw; (try dsimp only at hSw); go_simp; try with_reducible rfl)
        (try simp only [Act.put, List.setIfInBounds_toArray, List.set_cons_zero, List.set_cons_succ, List.getElem_toArray, List.getElem_cons_zero, List.getElem_cons_succ])
        refine wpAnyH_take (i := 3) (v := ?_) rfl (by kernel_rfl) (by kernel_rfl) (by kernel_rfl) (fun _ _ _ h => h) (Or.inl ⟨by rfl, ?_⟩) (by assumption) ?_
        rotate_left 1
        · (intro w hSw; (try dsimp only at hSw); go_simp; try with_reducible rfl)
        (try simp only [Act.put, List.setIfInBounds_toArray, List.set_cons_zero, List.set_cons_succ, List.getElem_toArray, List.getElem_cons_zero, List.getElem_cons_succ])
        refine wpAnyH_take (i := 5) (v := ?_) rfl (by kernel_rfl) (by kernel_rfl) (by kernel_rfl) (fun _ _ _ h => h) (Or.inl ⟨by rfl, ?_⟩) (by assumption) ?_
        rotate_left 1
        · (intro w hSw; (try dsimp only at hSw); go_simp; try with_reducible rfl)
        (try simp only [Act.put, List.setIfInBounds_toArray, List.set_cons_zero, List.set_cons_succ, List.getElem_toArray, List.getElem_cons_zero, List.getElem_cons_succ])
        refine wpAnyH_take (i := 8) (v := ?_) rfl (by kernel_rfl) (by kernel_rfl) (by kernel_rfl) (fun _ _ _ h => h) (Or.inl ⟨by rfl, ?_⟩) (by assumption) ?_
        rotate_left 1
        · (intro w hSw; (try dsimp only at hSw); go_simp; try with_reducible rfl)
        (try simp only [Act.put, List.setIfInBounds_toArray, List.set_cons_zero, List.set_cons_succ, List.getElem_toArray, List.getElem_cons_zero, List.getElem_cons_succ])
        refine wpAnyH_take (i := 9) (v := ?_) rfl (by kernel_rfl) (by kernel_rfl) (by kernel_rfl) (fun _ _ _ h => h) (Or.inl ⟨by rfl, ?_⟩) (by assumption) ?_
        rotate_left 1
        · (intro w hSw; (try dsimp only at hSw); go_simp; try with_reducible rfl)
        (try simp only [Act.put, List.setIfInBounds_toArray, List.set_cons_zero, List.set_cons_succ, List.getElem_toArray, List.getElem_cons_zero, List.getElem_cons_succ])
        refine wpAnyH_take (i := 10) (v := ?_) rfl (by kernel_rfl) (by kernel_rfl) (by kernel_rfl) (fun _ _ _ h => h) (Or.inl ⟨by rfl, ?_⟩) (by assumption) ?_
        rotate_left 1
        · (intro w hSw; (try dsimp only at hSw); go_simp; try with_reducible rfl)
        (try simp only [Act.put, List.setIfInBounds_toArray, List.set_cons_zero, List.set_cons_succ, List.getElem_toArray, List.getElem_cons_zero, List.getElem_cons_succ])
        refine wpAnyH_ready (rs := [0, 6]) (by kernel_rfl) (by simp) ?_
        refine AllReadyH.cons rfl (fun K hK => ?_) ?_
        · go_simp
          refine hK.out _ _ trivial (fun hHeld => ?_)
          clear hK K
          try simp only [Act.put, List.setIfInBounds_toArray, List.set_cons_zero, List.set_cons_succ, List.getElem_toArray, List.getElem_cons_zero]
          have U2 : Below w1.heap.size w1 (w1.alloc (.cells #[] 3)) := (Below.refl _ _).alloc (Nat.le_refl _) _
          have own := own_base (own_empty w1 3 1) (show w.heap.size ≤ w1.heap.size from K1.size)
          have K2 := bel_then K1 U2
          generalize (w1.alloc (.cells #[] 3)) = w2 at *
          have ownP := own
          refine wpAnyH_ready (rs := [4, 6]) (by kernel_rfl) (by simp) ?_
          refine AllReadyH.cons rfl (fun K hK => ?_) ?_
          · refine step_cat rfl _ _ _ (by rfl) Try.underlying22 info_int rfl (by decide) (by rfl) own (by rfl) (m := n) (hpre.next K2) (ints_all _) (by omega) (by omega) (by decide) (by have := K2.size; omega) ?_
            intro A3 c3 w3 own3 o3 b3 q3
            refine hK.out _ _ trivial (fun hHeld => ?_)
            clear hK K
            (try simp only [Act.put, List.setIfInBounds_toArray, List.set_cons_zero, List.set_cons_succ, List.getElem_toArray, List.getElem_cons_zero, List.getElem_cons_succ])
            (try simp only [Nat.zero_add])
            have K3 := K2.trans b3
            simp only [Nat.zero_add, List.nil_append] at own3
            replace own := own3
            clear own3
            replace ownP := own
            refine wpAnyH_ready (rs := [6]) (by kernel_rfl) (by simp) ?_
            refine AllReadyH.cons rfl (fun K hK => ?_) AllReadyH.nil
            go_simp
            refine hK.out _ _ trivial (fun hHeld => ?_)
            clear hK K
            try simp only [Act.put, List.setIfInBounds_toArray, List.set_cons_zero, List.set_cons_succ, List.getElem_toArray, List.getElem_cons_zero, List.getElem_cons_succ]
            have U4 : Below w3.heap.size w3 (w3.alloc (.cells #[.int .i64 v] 3)) := (Below.refl _ _).alloc (Nat.le_refl _) _
            replace own := own_below own U4
            have box : Blk (w3.alloc (.cells #[.int .i64 v] 3)) w3.heap.size 3 [.int .i64 v] := Blk.at_ rfl
            have lb := box.lt
            have hne : ∀ b, OwnB A3 b → b ≠ w3.heap.size := fun b hb => by have := (own_top ownP hb).2; omega
            have K4 := bel_then K3 U4
            generalize (w3.alloc (.cells #[.int .i64 v] 3)) = w4 at *
            replace ownP := own
            refine wpAnyH_ready (rs := [7]) (by kernel_rfl) (by simp) ?_
            refine AllReadyH.cons rfl (fun K hK => ?_) AllReadyH.nil
            refine step_cat rfl _ _ _ (by rfl) Try.underlying22 info_int rfl (by decide) (by rfl) own (by rfl) (m := 1) (box.sees (s := 1) (Nat.zero_le _) rfl) (by simp [Value.oneCell']) (by omega) (by omega) (by decide) (by have := K4.size; omega) ?_
            intro A5 c5 w5 own5 o5 b5 q5
            refine hK.out _ _ trivial (fun hHeld => ?_)
            clear hK K
            (try simp only [Act.put, List.setIfInBounds_toArray, List.set_cons_zero, List.set_cons_succ, List.getElem_toArray, List.getElem_cons_zero, List.getElem_cons_succ])
            have K5 := K4.trans b5
            replace own := own5
            clear own5
            refine wpAnyH_ready (rs := [11]) (by kernel_rfl) (by simp) ?_
            refine AllReadyH.cons rfl (fun K hK => ?_) AllReadyH.nil
            refine step_cat rfl _ _ _ (by rfl) Try.underlying22 info_int rfl (by decide) (by rfl) own (by rfl) (m := 0) (Sees.nil _ lo 1 _) (by simp) (by omega) (by omega) (by decide) (by have := K5.size; omega) ?_
            intro A6 c6 w6 own6 o6 b6 q6
            refine hK.out _ _ trivial (fun hHeld => ?_)
            clear hK K
            (try simp only [Act.put, List.setIfInBounds_toArray, List.set_cons_zero, List.set_cons_succ, List.getElem_toArray, List.getElem_cons_zero, List.getElem_cons_succ])
            have K6 := K5.trans b6
            replace own := own6
            clear own6
            refine wpAnyH_take (i := 12) (v := ?_) rfl (by kernel_rfl) (by kernel_rfl) (by kernel_rfl) (fun _ _ _ h => h) (Or.inl ⟨by rfl, ?_⟩) (by assumption) ?_
            rotate_left 1
            · (intro w hSw; (try dsimp only at hSw); go_simp; try with_reducible rfl)
            (try simp only [Act.put, List.setIfInBounds_toArray, List.set_cons_zero, List.set_cons_succ, List.getElem_toArray, List.getElem_cons_zero, List.getElem_cons_succ])
            refine wpAnyH_done (by kernel_rfl) ?_ _
            go_wp2_with fail
            go_ret
            exact givesL_of own (by rw [HPF.out]; simp [ints]) K6
          refine AllReadyH.cons rfl (fun K hK => ?_) AllReadyH.nil
          · go_simp
            refine hK.out _ _ trivial (fun hHeld => ?_)
            clear hK K
            try simp only [Act.put, List.setIfInBounds_toArray, List.set_cons_zero, List.set_cons_succ, List.getElem_toArray, List.getElem_cons_zero, List.getElem_cons_succ]
            have U3 : Below w2.heap.size w2 (w2.alloc (.cells #[.int .i64 v] 3)) := (Below.refl _ _).alloc (Nat.le_refl _) _
            replace own := own_below own U3
            have box : Blk (w2.alloc (.cells #[.int .i64 v] 3)) w2.heap.size 3 [.int .i64 v] := Blk.at_ rfl
            have lb := box.lt
            have hne : ∀ b, OwnB (some ⟨w1.heap.size, 0, none⟩) b → b ≠ w2.heap.size := fun b hb => by have := (own_top ownP hb).2; omega
            have K3 := bel_then K2 U3
            generalize (w2.alloc (.cells #[.int .i64 v] 3)) = w3 at *
            replace ownP := own
            refine wpAnyH_ready (rs := [4]) (by kernel_rfl) (by simp) ?_
            refine AllReadyH.cons rfl (fun K hK => ?_) AllReadyH.nil
            refine step_cat rfl _ _ _ (by rfl) Try.underlying22 info_int rfl (by decide) (by rfl) own (by rfl) (m := n) (hpre.next K3) (ints_all _) (by omega) (by omega) (by decide) (by have := K3.size; omega) ?_
            intro A4 c4 w4 own4 o4 b4 q4
            refine hK.out _ _ trivial (fun hHeld => ?_)
            clear hK K
            (try simp only [Act.put, List.setIfInBounds_toArray, List.set_cons_zero, List.set_cons_succ, List.getElem_toArray, List.getElem_cons_zero, List.getElem_cons_succ])
            (try simp only [Nat.zero_add])
            have K4 := K3.trans b4
            replace box := box.only o4 (fun h => hne _ h rfl)
            simp only [Nat.zero_add, List.nil_append] at own4
            replace own := own4
            clear own4
            replace ownP := own
            refine wpAnyH_ready (rs := [7]) (by kernel_rfl) (by simp) ?_
            refine AllReadyH.cons rfl (fun K hK => ?_) AllReadyH.nil
            refine step_cat rfl _ _ _ (by rfl) Try.underlying22 info_int rfl (by decide) (by rfl) own (by rfl) (m := 1) (box.sees (s := 1) (Nat.zero_le _) rfl) (by simp [Value.oneCell']) (by omega) (by omega) (by decide) (by have := K4.size; omega) ?_
            intro A5 c5 w5 own5 o5 b5 q5
            refine hK.out _ _ trivial (fun hHeld => ?_)
            clear hK K
            (try simp only [Act.put, List.setIfInBounds_toArray, List.set_cons_zero, List.set_cons_succ, List.getElem_toArray, List.getElem_cons_zero, List.getElem_cons_succ])
            have K5 := K4.trans b5
            replace own := own5
            clear own5
            refine wpAnyH_ready (rs := [11]) (by kernel_rfl) (by simp) ?_
            refine AllReadyH.cons rfl (fun K hK => ?_) AllReadyH.nil
            refine step_cat rfl _ _ _ (by rfl) Try.underlying22 info_int rfl (by decide) (by rfl) own (by rfl) (m := 0) (Sees.nil _ lo 1 _) (by simp) (by omega) (by omega) (by decide) (by have := K5.size; omega) ?_
            intro A6 c6 w6 own6 o6 b6 q6
            refine hK.out _ _ trivial (fun hHeld => ?_)
            clear hK K
            (try simp only [Act.put, List.setIfInBounds_toArray, List.set_cons_zero, List.set_cons_succ, List.getElem_toArray, List.getElem_cons_zero, List.getElem_cons_succ])
            have K6 := K5.trans b6
            replace own := own6
            clear own6
            refine wpAnyH_take (i := 12) (v := ?_) rfl (by kernel_rfl) (by kernel_rfl) (by kernel_rfl) (fun _ _ _ h => h) (Or.inl ⟨by rfl, ?_⟩) (by assumption) ?_
            rotate_left 1
            · (intro w hSw; (try dsimp only at hSw); go_simp; try with_reducible rfl)
            (try simp only [Act.put, List.setIfInBounds_toArray, List.set_cons_zero, List.set_cons_succ, List.getElem_toArray, List.getElem_cons_zero, List.getElem_cons_succ])
            refine wpAnyH_done (by kernel_rfl) ?_ _
            go_wp2_with fail
            go_ret
            exact givesL_of own (by rw [HPF.out]; simp [ints]) K6
        refine AllReadyH.cons rfl (fun K hK => ?_) AllReadyH.nil
        · go_simp
          refine hK.out _ _ trivial (fun hHeld => ?_)
          clear hK K
          try simp only [Act.put, List.setIfInBounds_toArray, List.set_cons_zero, List.set_cons_succ, List.getElem_toArray, List.getElem_cons_zero, List.getElem_cons_succ]
          have U2 : Below w1.heap.size w1 (w1.alloc (.cells #[.int .i64 v] 3)) := (Below.refl _ _).alloc (Nat.le_refl _) _
          have box : Blk (w1.alloc (.cells #[.int .i64 v] 3)) w1.heap.size 3 [.int .i64 v] := Blk.at_ rfl
          have lb := box.lt
          have K2 := bel_then K1 U2
          generalize (w1.alloc (.cells #[.int .i64 v] 3)) = w2 at *
          refine wpAnyH_ready (rs := [0]) (by kernel_rfl) (by simp) ?_
          refine AllReadyH.cons rfl (fun K hK => ?_) AllReadyH.nil
          go_simp
          refine hK.out _ _ trivial (fun hHeld => ?_)
          clear hK K
          try simp only [Act.put, List.setIfInBounds_toArray, List.set_cons_zero, List.set_cons_succ, List.getElem_toArray, List.getElem_cons_zero]
          have U3 : Below w2.heap.size w2 (w2.alloc (.cells #[] 3)) := (Below.refl _ _).alloc (Nat.le_refl _) _
          replace box := box.next U3
          have own := own_base (own_empty w2 3 1) (show w.heap.size ≤ w2.heap.size from K2.size)
          have hne : ∀ b, OwnB (some ⟨w2.heap.size, 0, none⟩) b → b ≠ w1.heap.size := fun b hb => by have h4 : w2.heap.size = b := (by simpa [OwnB, Value.ownBlock] using hb); have h5 := lb; omega
          have K3 := bel_then K2 U3
          generalize (w2.alloc (.cells #[] 3)) = w3 at *
          have ownP := own
          refine wpAnyH_ready (rs := [4]) (by kernel_rfl) (by simp) ?_
          refine AllReadyH.cons rfl (fun K hK => ?_) AllReadyH.nil
          refine step_cat rfl _ _ _ (by rfl) Try.underlying22 info_int rfl (by decide) (by rfl) own (by rfl) (m := n) (hpre.next K3) (ints_all _) (by omega) (by omega) (by decide) (by have := K3.size; omega) ?_
          intro A4 c4 w4 own4 o4 b4 q4
          refine hK.out _ _ trivial (fun hHeld => ?_)
          clear hK K
          (try simp only [Act.put, List.setIfInBounds_toArray, List.set_cons_zero, List.set_cons_succ, List.getElem_toArray, List.getElem_cons_zero, List.getElem_cons_succ])
          (try simp only [Nat.zero_add])
          have K4 := K3.trans b4
          replace box := box.only o4 (fun h => hne _ h rfl)
          simp only [Nat.zero_add, List.nil_append] at own4
          replace own := own4
          clear own4
          replace ownP := own
          refine wpAnyH_ready (rs := [7]) (by kernel_rfl) (by simp) ?_
          refine AllReadyH.cons rfl (fun K hK => ?_) AllReadyH.nil
          refine step_cat rfl _ _ _ (by rfl) Try.underlying22 info_int rfl (by decide) (by rfl) own (by rfl) (m := 1) (box.sees (s := 1) (Nat.zero_le _) rfl) (by simp [Value.oneCell']) (by omega) (by omega) (by decide) (by have := K4.size; omega) ?_
          intro A5 c5 w5 own5 o5 b5 q5
          refine hK.out _ _ trivial (fun hHeld => ?_)
          clear hK K
          (try simp only [Act.put, List.setIfInBounds_toArray, List.set_cons_zero, List.set_cons_succ, List.getElem_toArray, List.getElem_cons_zero, List.getElem_cons_succ])
          have K5 := K4.trans b5
          replace own := own5
          clear own5
          refine wpAnyH_ready (rs := [11]) (by kernel_rfl) (by simp) ?_
          refine AllReadyH.cons rfl (fun K hK => ?_) AllReadyH.nil
          refine step_cat rfl _ _ _ (by rfl) Try.underlying22 info_int rfl (by decide) (by rfl) own (by rfl) (m := 0) (Sees.nil _ lo 1 _) (by simp) (by omega) (by omega) (by decide) (by have := K5.size; omega) ?_
          intro A6 c6 w6 own6 o6 b6 q6
          refine hK.out _ _ trivial (fun hHeld => ?_)
          clear hK K
          (try simp only [Act.put, List.setIfInBounds_toArray, List.set_cons_zero, List.set_cons_succ, List.getElem_toArray, List.getElem_cons_zero, List.getElem_cons_succ])
          have K6 := K5.trans b6
          replace own := own6
          clear own6
          refine wpAnyH_take (i := 12) (v := ?_) rfl (by kernel_rfl) (by kernel_rfl) (by kernel_rfl) (fun _ _ _ h => h) (Or.inl ⟨by rfl, ?_⟩) (by assumption) ?_
          rotate_left 1
          · (intro w hSw; (try dsimp only at hSw); go_simp; try with_reducible rfl)
          (try simp only [Act.put, List.setIfInBounds_toArray, List.set_cons_zero, List.set_cons_succ, List.getElem_toArray, List.getElem_cons_zero, List.getElem_cons_succ])
          refine wpAnyH_done (by kernel_rfl) ?_ _
          go_wp2_with fail
          go_ret
          exact givesL_of own (by rw [HPF.out]; simp [ints]) K6

end Go.Proofs.Ytljiflbaknakaaa
