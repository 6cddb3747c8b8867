/- Joined texts of this proof: StepGG, StepDD. -/
import Derived.Deep.CutBlock
import Derived.Deep.CutRange
import Derived.Test.YtkimlajfhepfgaaGreatP01
import Derived.Test.YtkimlajfhepfgaaGreatP07
import Derived.Test.YtkimlajfhepfgaaGreatP04
import Derived.Test.YtkimlajfhepfgaaGreatP09
import Derived.Test.YtkimlajfhepfgaaGreatP02
import Derived.Test.YtkimlajfhepfgaaGreatP08
namespace Go.Proofs.YtkimlajfhepfgaaGreat
open Go.RowKit

theorem Sees.take {w : World} {lo n : Nat} {A : Option Addr} {xs : List Int} (h : Sees w lo 1 A n (ints xs)) (k : Nat) (hk : k ≤ n) : Sees w lo 1 A k (ints (xs.take k)) := by
 have hl := h.icount
 refine ⟨by rw [ints_length, List.length_take]; omega, fun h0 => ?_⟩
 obtain ⟨b, off, e, h1, h2, h3⟩ := h.at' (by omega)
 refine ⟨b, off, e, h1, h2, fun j u hu => h3 j u ?_⟩
 have hj : j < (ints (xs.take k)).length := (List.getElem?_eq_some_iff.1 hu).1
 rw [ints_length, List.length_take] at hj
 unfold ints at hu ⊢
 rw [List.getElem?_map, List.getElem?_take_of_lt (by omega)] at hu
 rw [List.getElem?_map]
 exact hu
theorem Sees.drop {w : World} {lo n b off : Nat} {xs : List Int} (h : Sees w lo 1 (some ⟨b, off, none⟩) n (ints xs)) (k : Nat) (hk : k ≤ n) : Sees w lo 1 (some ⟨b, off + k, none⟩) (n - k) (ints (xs.drop k)) := by
 have hl := h.icount
 refine ⟨by rw [ints_length, List.length_drop]; omega, fun h0 => ?_⟩
 obtain ⟨b', off', e, h1, h2, h3⟩ := h.at' (by omega)
 obtain ⟨rfl, rfl⟩ : b = b' ∧ off = off' := by simpa using e
 refine ⟨b, off + k, rfl, h1, h2, fun j u hu => ?_⟩
 rw [Nat.add_assoc]
 refine h3 (k + j) u ?_
 unfold ints at hu ⊢
 rw [List.getElem?_map, List.getElem?_drop] at hu
 rw [List.getElem?_map]
 exact hu

theorem givesL_of {w w' : World} {R : List Int} {A : Option Addr} {n c : Nat} {cs : List Value} (own : w'.ownsRow w.heap.size 3 1 (.slice A n c) n cs) (hcs : cs = ints R) (K : Below w.heap.size w w') : GivesL w R (.returned (.slice A n c)) w' := by
 subst hcs
 have h := own.1
 rw [ints_length, Nat.mul_one] at h
 subst h
 exact ⟨A, c, rfl, own, K⟩

set_option maxRecDepth 100000 in
set_option maxHeartbeats 4000000 in
theorem l1Put_any (b off n c lo : Nat) (xs : List Int) (v : Int) (w : World) (hx : Sees w lo 1 (some ⟨b, off, none⟩) n (ints xs)) (hn : n ≤ 1000) (hnc : n ≤ c) (hv : v ∉ xs) :
  Calls Tryz.prog 70 #[.slice (some ⟨b, off, none⟩) n c, .int .i64 v] w (GivesL w (putI xs v)) := by
 have hl := hx.icount
 go_enter Tryz.func70, Tryz.ntmps70
 go_wp2_with fail
 go_loop [5] (fun i => ∃ k : Nat, k ≤ n ∧ i = .int .i64 (k : Int) ∧ Hid (∀ (j : Nat) (_ : j < xs.length), j < k → xs[j] < v)) (fun i => n - (intOf i).toNat)
 case atStart => exact ⟨0, Nat.zero_le _, rfl, Lib.hid (fun j _ h => absurd h (by omega))⟩
 case round =>
  obtain ⟨k, hk, rfl, HB⟩ := hrel
  by_cases hlt : k < n
  ·obtain ⟨b', off', e, hk3, x3⟩ := hx.int hlt
   obtain ⟨rfl, rfl⟩ : b = b' ∧ off = off' := by simpa using e
   have hvk : xs[k] ≠ v := fun h => hv (h ▸ List.getElem_mem hk3)
   have HB2 := Lib.hid (fun (h : xs[k] < v) (j : Nat) (hj : j < xs.length) (hjk : j < k + 1) => show xs[j] < v by
    rcases Nat.lt_or_ge j k with h1 | h1
    ·exact HB.out j hj h1
    ·obtain rfl : j = k := by omega
     exact h)
   have HP := Lib.hid (fun (h : ¬ xs[k] < v) => putI_at (n := v) (l := xs) (k := k) (by omega) HB.out (fun _ => by omega))
   have hk36 : k ≤ 1000 := by omega
   have hg := List.getElem?_eq_getElem hk3
   clear e
   generalize xs[k] = y at *
   by_cases hy : y < v
   ·have hd : decide (y < v) = true := decide_eq_true hy
    have HB3 := Lib.hid (HB2.out hy)
    clear HB2 HP hg
    go_wp2_with fail
    go_round
    case rel => exact ⟨k + 1, by omega, by go_num, HB3⟩
    case measure => simp [intOf]; omega
   ·have hd : decide (y < v) = false := decide_eq_false hy
    have hbe : (y == v) = false := beq_eq_false_iff_ne.2 hvk
    have HPF := Lib.hid (show putI xs v = xs.take k ++ v :: xs.drop k by rw [HP.out hy, hg, if_neg (by simpa using hvk)])
    have hpre := hx.take k (by omega)
    clear HB2 HB hg hv HP
    have hsuf := hx.drop k (by omega)
    have hk1 : k ≤ c := by omega
    have hk2 : ¬ c = k := by omega
    have hk3' : k ≤ n := by omega
    go_wp2_with fail
    refine wp_region_held_drew (S := fun _ => True) (by kernel_rfl) trivial (fun hH => ?_)
    have K1 := (Quiet.one w).below w.heap.size
    generalize w.drew = w1 at *
    refine wT (i := 1) (v := ?_) rfl (by kernel_rfl) (by kernel_rfl) (by kernel_rfl) (fun _ _ _ h => h) (Or.inl ⟨by rfl, ?_⟩) (by assumption) ?_
    rotate_left 1
    ·(intro w hSw; (try dsimp only at hSw); go_simp; try with_reducible rfl)
    (try simp only [Act.put, pX])
    refine wT (i := 2) (v := ?_) rfl (by kernel_rfl) (by kernel_rfl) (by kernel_rfl) (fun _ _ _ h => h) (Or.inl ⟨by rfl, ?_⟩) (by assumption) ?_
    rotate_left 1
    ·(intro w hSw; (try dsimp only at hSw); go_simp; try with_reducible rfl)
    (try simp only [Act.put, pX])
    refine wT (i := 3) (v := ?_) rfl (by kernel_rfl) (by kernel_rfl) (by kernel_rfl) (fun _ _ _ h => h) (Or.inl ⟨by rfl, ?_⟩) (by assumption) ?_
    rotate_left 1
    ·(intro w hSw; (try dsimp only at hSw); go_simp; try with_reducible rfl)
    (try simp only [Act.put, pX])
    refine wT (i := 5) (v := ?_) rfl (by kernel_rfl) (by kernel_rfl) (by kernel_rfl) (fun _ _ _ h => h) (Or.inl ⟨by rfl, ?_⟩) (by assumption) ?_
    rotate_left 1
    ·(intro w hSw; (try dsimp only at hSw); go_simp; try with_reducible rfl)
    (try simp only [Act.put, pX])
    refine wT (i := 8) (v := ?_) rfl (by kernel_rfl) (by kernel_rfl) (by kernel_rfl) (fun _ _ _ h => h) (Or.inl ⟨by rfl, ?_⟩) (by assumption) ?_
    rotate_left 1
    ·(intro w hSw; (try dsimp only at hSw); go_simp; try with_reducible rfl)
    (try simp only [Act.put, pX])
    refine wT (i := 9) (v := ?_) rfl (by kernel_rfl) (by kernel_rfl) (by kernel_rfl) (fun _ _ _ h => h) (Or.inl ⟨by rfl, ?_⟩) (by assumption) ?_
    rotate_left 1
    ·(intro w hSw; (try dsimp only at hSw); go_simp; try with_reducible rfl)
    (try simp only [Act.put, pX])
    refine wT (i := 10) (v := ?_) rfl (by kernel_rfl) (by kernel_rfl) (by kernel_rfl) (fun _ _ _ h => h) (Or.inl ⟨by rfl, ?_⟩) (by assumption) ?_
    rotate_left 1
    ·(intro w hSw; (try dsimp only at hSw); go_simp; try with_reducible rfl)
    (try simp only [Act.put, pX])
    refine wR (rs := [0, 6]) (by kernel_rfl) (by simp) ?_
    refine aC rfl (fun K hK => ?_) ?_
    ·go_simp
     refine hK.out _ _ trivial (fun hH => ?_)
     clear hK K
     try simp only [Act.put, pX]
     have U2 : Below w1.heap.size w1 (w1.alloc (.cells #[] 3)) := (Below.refl _ _).alloc (Nat.le_refl _) _
     have own := own_base (own_empty w1 3 1) (show w.heap.size ≤ w1.heap.size from K1.size)
     have K2 := bel_then K1 U2
     generalize (w1.alloc (.cells #[] 3)) = w2 at *
     have ownP := own
     refine wR (rs := [4, 6]) (by kernel_rfl) (by simp) ?_
     refine aC rfl (fun K hK => ?_) ?_
     ·refine step_cat rfl _ _ _ (by rfl) Tryz.underlying24 info_int rfl (by decide) (by rfl) own (by rfl) (m := k) (hpre.next K2) (ints_all _) (by omega) (by omega) (by decide) (by have := K2.size; omega) ?_
      intro A3 c3 w3 own3 o3 b3 q3
      refine hK.out _ _ trivial (fun hH => ?_)
      clear hK K
      (try simp only [Act.put, pX])
      (try simp only [Nat.zero_add])
      have K3 := K2.trans b3
      simp only [Nat.zero_add, List.nil_append] at own3
      replace own := own3
      clear own3
      replace ownP := own
      refine wR (rs := [6]) (by kernel_rfl) (by simp) ?_
      refine aC rfl (fun K hK => ?_) aN
      go_simp
      refine hK.out _ _ trivial (fun hH => ?_)
      clear hK K
      try simp only [Act.put, pX]
      have U4 : Below w3.heap.size w3 (w3.alloc (.cells #[.int .i64 v] 3)) := (Below.refl _ _).alloc (Nat.le_refl _) _
      replace own := own_below own U4
      have box : Blk (w3.alloc (.cells #[.int .i64 v] 3)) w3.heap.size 3 [.int .i64 v] := Blk.at_ rfl
      have lb := box.lt
      have hne : ∀ b, OwnB A3 b → b ≠ w3.heap.size := fun b hb => by have := (own_top ownP hb).2; omega
      have K4 := bel_then K3 U4
      generalize (w3.alloc (.cells #[.int .i64 v] 3)) = w4 at *
      replace ownP := own
      refine wR (rs := [7]) (by kernel_rfl) (by simp) ?_
      refine aC rfl (fun K hK => ?_) aN
      refine step_cat rfl _ _ _ (by rfl) Tryz.underlying24 info_int rfl (by decide) (by rfl) own (by rfl) (m := 1) (box.sees (s := 1) (Nat.zero_le _) rfl) (by simp [Value.oneCell']) (by omega) (by omega) (by decide) (by have := K4.size; omega) ?_
      intro A5 c5 w5 own5 o5 b5 q5
      refine hK.out _ _ trivial (fun hH => ?_)
      clear hK K
      (try simp only [Act.put, pX])
      have K5 := K4.trans b5
      replace own := own5
      clear own5
      refine wR (rs := [11]) (by kernel_rfl) (by simp) ?_
      refine aC rfl (fun K hK => ?_) aN
      refine step_cat rfl _ _ _ (by rfl) Tryz.underlying24 info_int rfl (by decide) (by rfl) own (by rfl) (m := (n - k)) (hsuf.next K5) (ints_all _) (by omega) (by omega) (by decide) (by have := K5.size; omega) ?_
      intro A6 c6 w6 own6 o6 b6 q6
      refine hK.out _ _ trivial (fun hH => ?_)
      clear hK K
      (try simp only [Act.put, pX])
      have K6 := K5.trans b6
      replace own := own6
      clear own6
      refine wT (i := 12) (v := ?_) rfl (by kernel_rfl) (by kernel_rfl) (by kernel_rfl) (fun _ _ _ h => h) (Or.inl ⟨by rfl, ?_⟩) (by assumption) ?_
      rotate_left 1
      ·(intro w hSw; (try dsimp only at hSw); go_simp; try with_reducible rfl)
      (try simp only [Act.put, pX])
      refine wD (by kernel_rfl) ?_ _
      go_wp2_with fail
      go_ret
      exact givesL_of own (by rw [HPF.out]; simp [ints]) K6
     refine aC rfl (fun K hK => ?_) aN
     ·go_simp
      refine hK.out _ _ trivial (fun hH => ?_)
      clear hK K
      try simp only [Act.put, pX]
      have U3 : Below w2.heap.size w2 (w2.alloc (.cells #[.int .i64 v] 3)) := (Below.refl _ _).alloc (Nat.le_refl _) _
      replace own := own_below own U3
      have box : Blk (w2.alloc (.cells #[.int .i64 v] 3)) w2.heap.size 3 [.int .i64 v] := Blk.at_ rfl
      have lb := box.lt
      have hne : ∀ b, OwnB (some ⟨w1.heap.size, 0, none⟩) b → b ≠ w2.heap.size := fun b hb => by have := (own_top ownP hb).2; omega
      have K3 := bel_then K2 U3
      generalize (w2.alloc (.cells #[.int .i64 v] 3)) = w3 at *
      replace ownP := own
      refine wR (rs := [4]) (by kernel_rfl) (by simp) ?_
      refine aC rfl (fun K hK => ?_) aN
      refine step_cat rfl _ _ _ (by rfl) Tryz.underlying24 info_int rfl (by decide) (by rfl) own (by rfl) (m := k) (hpre.next K3) (ints_all _) (by omega) (by omega) (by decide) (by have := K3.size; omega) ?_
      intro A4 c4 w4 own4 o4 b4 q4
      refine hK.out _ _ trivial (fun hH => ?_)
      clear hK K
      (try simp only [Act.put, pX])
      (try simp only [Nat.zero_add])
      have K4 := K3.trans b4
      replace box := box.only o4 (fun h => hne _ h rfl)
      simp only [Nat.zero_add, List.nil_append] at own4
      replace own := own4
      clear own4
      replace ownP := own
      refine wR (rs := [7]) (by kernel_rfl) (by simp) ?_
      refine aC rfl (fun K hK => ?_) aN
      refine step_cat rfl _ _ _ (by rfl) Tryz.underlying24 info_int rfl (by decide) (by rfl) own (by rfl) (m := 1) (box.sees (s := 1) (Nat.zero_le _) rfl) (by simp [Value.oneCell']) (by omega) (by omega) (by decide) (by have := K4.size; omega) ?_
      intro A5 c5 w5 own5 o5 b5 q5
      refine hK.out _ _ trivial (fun hH => ?_)
      clear hK K
      (try simp only [Act.put, pX])
      have K5 := K4.trans b5
      replace own := own5
      clear own5
      refine wR (rs := [11]) (by kernel_rfl) (by simp) ?_
      refine aC rfl (fun K hK => ?_) aN
      refine step_cat rfl _ _ _ (by rfl) Tryz.underlying24 info_int rfl (by decide) (by rfl) own (by rfl) (m := (n - k)) (hsuf.next K5) (ints_all _) (by omega) (by omega) (by decide) (by have := K5.size; omega) ?_
      intro A6 c6 w6 own6 o6 b6 q6
      refine hK.out _ _ trivial (fun hH => ?_)
      clear hK K
      (try simp only [Act.put, pX])
      have K6 := K5.trans b6
      replace own := own6
      clear own6
      refine wT (i := 12) (v := ?_) rfl (by kernel_rfl) (by kernel_rfl) (by kernel_rfl) (fun _ _ _ h => h) (Or.inl ⟨by rfl, ?_⟩) (by assumption) ?_
      rotate_left 1
      ·(intro w hSw; (try dsimp only at hSw); go_simp; try with_reducible rfl)
      (try simp only [Act.put, pX])
      refine wD (by kernel_rfl) ?_ _
      go_wp2_with fail
      go_ret
      exact givesL_of own (by rw [HPF.out]; simp [ints]) K6
    refine aC rfl (fun K hK => ?_) aN
    ·go_simp
     refine hK.out _ _ trivial (fun hH => ?_)
     clear hK K
     try simp only [Act.put, pX]
     have U2 : Below w1.heap.size w1 (w1.alloc (.cells #[.int .i64 v] 3)) := (Below.refl _ _).alloc (Nat.le_refl _) _
     have box : Blk (w1.alloc (.cells #[.int .i64 v] 3)) w1.heap.size 3 [.int .i64 v] := Blk.at_ rfl
     have lb := box.lt
     have K2 := bel_then K1 U2
     generalize (w1.alloc (.cells #[.int .i64 v] 3)) = w2 at *
     refine wR (rs := [0]) (by kernel_rfl) (by simp) ?_
     refine aC rfl (fun K hK => ?_) aN
     go_simp
     refine hK.out _ _ trivial (fun hH => ?_)
     clear hK K
     try simp only [Act.put, pX]
     have U3 : Below w2.heap.size w2 (w2.alloc (.cells #[] 3)) := (Below.refl _ _).alloc (Nat.le_refl _) _
     replace box := box.next U3
     have own := own_base (own_empty w2 3 1) (show w.heap.size ≤ w2.heap.size from K2.size)
     have hne : ∀ b, OwnB (some ⟨w2.heap.size, 0, none⟩) b → b ≠ w1.heap.size := fun b hb => by have h4 : w2.heap.size = b := (by simpa [OwnB, Value.ownBlock] using hb); have h5 := lb; omega
     have K3 := bel_then K2 U3
     generalize (w2.alloc (.cells #[] 3)) = w3 at *
     have ownP := own
     refine wR (rs := [4]) (by kernel_rfl) (by simp) ?_
     refine aC rfl (fun K hK => ?_) aN
     refine step_cat rfl _ _ _ (by rfl) Tryz.underlying24 info_int rfl (by decide) (by rfl) own (by rfl) (m := k) (hpre.next K3) (ints_all _) (by omega) (by omega) (by decide) (by have := K3.size; omega) ?_
     intro A4 c4 w4 own4 o4 b4 q4
     refine hK.out _ _ trivial (fun hH => ?_)
     clear hK K
     (try simp only [Act.put, pX])
     (try simp only [Nat.zero_add])
     have K4 := K3.trans b4
     replace box := box.only o4 (fun h => hne _ h rfl)
     simp only [Nat.zero_add, List.nil_append] at own4
     replace own := own4
     clear own4
     replace ownP := own
     refine wR (rs := [7]) (by kernel_rfl) (by simp) ?_
     refine aC rfl (fun K hK => ?_) aN
     refine step_cat rfl _ _ _ (by rfl) Tryz.underlying24 info_int rfl (by decide) (by rfl) own (by rfl) (m := 1) (box.sees (s := 1) (Nat.zero_le _) rfl) (by simp [Value.oneCell']) (by omega) (by omega) (by decide) (by have := K4.size; omega) ?_
     intro A5 c5 w5 own5 o5 b5 q5
     refine hK.out _ _ trivial (fun hH => ?_)
     clear hK K
     (try simp only [Act.put, pX])
     have K5 := K4.trans b5
     replace own := own5
     clear own5
     refine wR (rs := [11]) (by kernel_rfl) (by simp) ?_
     refine aC rfl (fun K hK => ?_) aN
     refine step_cat rfl _ _ _ (by rfl) Tryz.underlying24 info_int rfl (by decide) (by rfl) own (by rfl) (m := (n - k)) (hsuf.next K5) (ints_all _) (by omega) (by omega) (by decide) (by have := K5.size; omega) ?_
     intro A6 c6 w6 own6 o6 b6 q6
     refine hK.out _ _ trivial (fun hH => ?_)
     clear hK K
     (try simp only [Act.put, pX])
     have K6 := K5.trans b6
     replace own := own6
     clear own6
     refine wT (i := 12) (v := ?_) rfl (by kernel_rfl) (by kernel_rfl) (by kernel_rfl) (fun _ _ _ h => h) (Or.inl ⟨by rfl, ?_⟩) (by assumption) ?_
     rotate_left 1
     ·(intro w hSw; (try dsimp only at hSw); go_simp; try with_reducible rfl)
     (try simp only [Act.put, pX])
     refine wD (by kernel_rfl) ?_ _
     go_wp2_with fail
     go_ret
     exact givesL_of own (by rw [HPF.out]; simp [ints]) K6
  ·obtain rfl : n = k := by omega
   have HPF := Lib.hid (show putI xs v = xs.take n ++ [v] by
    rw [putI_at (n := v) (l := xs) (k := n) (by omega) HB.out (fun h => absurd h (by omega)), List.getElem?_eq_none (by omega), if_neg (by simp), List.drop_of_length_le (by omega)])
   have hpre := hx.take n (Nat.le_refl _)
   clear HB hv
   have hk1 : n ≤ c := hnc
   by_cases hk2 : c = n
   ·go_wp2_with fail
    refine wp_region_held_drew (S := fun _ => True) (by kernel_rfl) trivial (fun hH => ?_)
    have K1 := (Quiet.one w).below w.heap.size
    generalize w.drew = w1 at *
    refine wT (i := 1) (v := ?_) rfl (by kernel_rfl) (by kernel_rfl) (by kernel_rfl) (fun _ _ _ h => h) (Or.inl ⟨by rfl, ?_⟩) (by assumption) ?_
    rotate_left 1
    ·(intro w hSw; (try dsimp only at hSw); go_simp; try with_reducible rfl)
    (try simp only [Act.put, pX])
    refine wT (i := 2) (v := ?_) rfl (by kernel_rfl) (by kernel_rfl) (by kernel_rfl) (fun _ _ _ h => h) (Or.inl ⟨by rfl, ?_⟩) (by assumption) ?_
    rotate_left 1
    ·(intro w hSw; (try dsimp only at hSw); go_simp; try with_reducible rfl)
    (try simp only [Act.put, pX])
    refine wT (i := 3) (v := ?_) rfl (by kernel_rfl) (by kernel_rfl) (by kernel_rfl) (fun _ _ _ h => h) (Or.inl ⟨by rfl, ?_⟩) (by assumption) ?_
    rotate_left 1
    ·(intro w hSw; (try dsimp only at hSw); go_simp; try with_reducible rfl)
    (try simp only [Act.put, pX])
    refine wT (i := 5) (v := ?_) rfl (by kernel_rfl) (by kernel_rfl) (by kernel_rfl) (fun _ _ _ h => h) (Or.inl ⟨by rfl, ?_⟩) (by assumption) ?_
    rotate_left 1
    ·(intro w hSw; (try dsimp only at hSw); go_simp; try with_reducible rfl)
    (try simp only [Act.put, pX])
    refine wT (i := 8) (v := ?_) rfl (by kernel_rfl) (by kernel_rfl) (by kernel_rfl) (fun _ _ _ h => h) (Or.inl ⟨by rfl, ?_⟩) (by assumption) ?_
    rotate_left 1
    ·(intro w hSw; (try dsimp only at hSw); go_simp; try with_reducible rfl)
    (try simp only [Act.put, pX])
    refine wT (i := 9) (v := ?_) rfl (by kernel_rfl) (by kernel_rfl) (by kernel_rfl) (fun _ _ _ h => h) (Or.inl ⟨by rfl, ?_⟩) (by assumption) ?_
    rotate_left 1
    ·(intro w hSw; (try dsimp only at hSw); go_simp; try with_reducible rfl)
    (try simp only [Act.put, pX])
    refine wT (i := 10) (v := ?_) rfl (by kernel_rfl) (by kernel_rfl) (by kernel_rfl) (fun _ _ _ h => h) (Or.inl ⟨by rfl, ?_⟩) (by assumption) ?_
    rotate_left 1
    ·(intro w hSw; (try dsimp only at hSw); go_simp; try with_reducible rfl)
    (try simp only [Act.put, pX])
    refine wR (rs := [0, 6]) (by kernel_rfl) (by simp) ?_
    refine aC rfl (fun K hK => ?_) ?_
    ·go_simp
     refine hK.out _ _ trivial (fun hH => ?_)
     clear hK K
     try simp only [Act.put, pX]
     have U2 : Below w1.heap.size w1 (w1.alloc (.cells #[] 3)) := (Below.refl _ _).alloc (Nat.le_refl _) _
     have own := own_base (own_empty w1 3 1) (show w.heap.size ≤ w1.heap.size from K1.size)
     have K2 := bel_then K1 U2
     generalize (w1.alloc (.cells #[] 3)) = w2 at *
     have ownP := own
     refine wR (rs := [4, 6]) (by kernel_rfl) (by simp) ?_
     refine aC rfl (fun K hK => ?_) ?_
     ·refine step_cat rfl _ _ _ (by rfl) Tryz.underlying24 info_int rfl (by decide) (by rfl) own (by rfl) (m := n) (hpre.next K2) (ints_all _) (by omega) (by omega) (by decide) (by have := K2.size; omega) ?_
      intro A3 c3 w3 own3 o3 b3 q3
      refine hK.out _ _ trivial (fun hH => ?_)
      clear hK K
      (try simp only [Act.put, pX])
      (try simp only [Nat.zero_add])
      have K3 := K2.trans b3
      simp only [Nat.zero_add, List.nil_append] at own3
      replace own := own3
      clear own3
      replace ownP := own
      refine wR (rs := [6]) (by kernel_rfl) (by simp) ?_
      refine aC rfl (fun K hK => ?_) aN
      go_simp
      refine hK.out _ _ trivial (fun hH => ?_)
      clear hK K
      try simp only [Act.put, pX]
      have U4 : Below w3.heap.size w3 (w3.alloc (.cells #[.int .i64 v] 3)) := (Below.refl _ _).alloc (Nat.le_refl _) _
      replace own := own_below own U4
      have box : Blk (w3.alloc (.cells #[.int .i64 v] 3)) w3.heap.size 3 [.int .i64 v] := Blk.at_ rfl
      have lb := box.lt
      have hne : ∀ b, OwnB A3 b → b ≠ w3.heap.size := fun b hb => by have := (own_top ownP hb).2; omega
      have K4 := bel_then K3 U4
      generalize (w3.alloc (.cells #[.int .i64 v] 3)) = w4 at *
      replace ownP := own
      refine wR (rs := [7]) (by kernel_rfl) (by simp) ?_
      refine aC rfl (fun K hK => ?_) aN
      refine step_cat rfl _ _ _ (by rfl) Tryz.underlying24 info_int rfl (by decide) (by rfl) own (by rfl) (m := 1) (box.sees (s := 1) (Nat.zero_le _) rfl) (by simp [Value.oneCell']) (by omega) (by omega) (by decide) (by have := K4.size; omega) ?_
      intro A5 c5 w5 own5 o5 b5 q5
      refine hK.out _ _ trivial (fun hH => ?_)
      clear hK K
      (try simp only [Act.put, pX])
      have K5 := K4.trans b5
      replace own := own5
      clear own5
      refine wR (rs := [11]) (by kernel_rfl) (by simp) ?_
      refine aC rfl (fun K hK => ?_) aN
      refine step_cat rfl _ _ _ (by rfl) Tryz.underlying24 info_int rfl (by decide) (by rfl) own (by rfl) (m := 0) (Sees.nil _ lo 1 _) (by simp) (by omega) (by omega) (by decide) (by have := K5.size; omega) ?_
      intro A6 c6 w6 own6 o6 b6 q6
      refine hK.out _ _ trivial (fun hH => ?_)
      clear hK K
      (try simp only [Act.put, pX])
      have K6 := K5.trans b6
      replace own := own6
      clear own6
      refine wT (i := 12) (v := ?_) rfl (by kernel_rfl) (by kernel_rfl) (by kernel_rfl) (fun _ _ _ h => h) (Or.inl ⟨by rfl, ?_⟩) (by assumption) ?_
      rotate_left 1
      ·(intro w hSw; (try dsimp only at hSw); go_simp; try with_reducible rfl)
      (try simp only [Act.put, pX])
      refine wD (by kernel_rfl) ?_ _
      go_wp2_with fail
      go_ret
      exact givesL_of own (by rw [HPF.out]; simp [ints]) K6
     refine aC rfl (fun K hK => ?_) aN
     ·go_simp
      refine hK.out _ _ trivial (fun hH => ?_)
      clear hK K
      try simp only [Act.put, pX]
      have U3 : Below w2.heap.size w2 (w2.alloc (.cells #[.int .i64 v] 3)) := (Below.refl _ _).alloc (Nat.le_refl _) _
      replace own := own_below own U3
      have box : Blk (w2.alloc (.cells #[.int .i64 v] 3)) w2.heap.size 3 [.int .i64 v] := Blk.at_ rfl
      have lb := box.lt
      have hne : ∀ b, OwnB (some ⟨w1.heap.size, 0, none⟩) b → b ≠ w2.heap.size := fun b hb => by have := (own_top ownP hb).2; omega
      have K3 := bel_then K2 U3
      generalize (w2.alloc (.cells #[.int .i64 v] 3)) = w3 at *
      replace ownP := own
      refine wR (rs := [4]) (by kernel_rfl) (by simp) ?_
      refine aC rfl (fun K hK => ?_) aN
      refine step_cat rfl _ _ _ (by rfl) Tryz.underlying24 info_int rfl (by decide) (by rfl) own (by rfl) (m := n) (hpre.next K3) (ints_all _) (by omega) (by omega) (by decide) (by have := K3.size; omega) ?_
      intro A4 c4 w4 own4 o4 b4 q4
      refine hK.out _ _ trivial (fun hH => ?_)
      clear hK K
      (try simp only [Act.put, pX])
      (try simp only [Nat.zero_add])
      have K4 := K3.trans b4
      replace box := box.only o4 (fun h => hne _ h rfl)
      simp only [Nat.zero_add, List.nil_append] at own4
      replace own := own4
      clear own4
      replace ownP := own
      refine wR (rs := [7]) (by kernel_rfl) (by simp) ?_
      refine aC rfl (fun K hK => ?_) aN
      refine step_cat rfl _ _ _ (by rfl) Tryz.underlying24 info_int rfl (by decide) (by rfl) own (by rfl) (m := 1) (box.sees (s := 1) (Nat.zero_le _) rfl) (by simp [Value.oneCell']) (by omega) (by omega) (by decide) (by have := K4.size; omega) ?_
      intro A5 c5 w5 own5 o5 b5 q5
      refine hK.out _ _ trivial (fun hH => ?_)
      clear hK K
      (try simp only [Act.put, pX])
      have K5 := K4.trans b5
      replace own := own5
      clear own5
      refine wR (rs := [11]) (by kernel_rfl) (by simp) ?_
      refine aC rfl (fun K hK => ?_) aN
      refine step_cat rfl _ _ _ (by rfl) Tryz.underlying24 info_int rfl (by decide) (by rfl) own (by rfl) (m := 0) (Sees.nil _ lo 1 _) (by simp) (by omega) (by omega) (by decide) (by have := K5.size; omega) ?_
      intro A6 c6 w6 own6 o6 b6 q6
      refine hK.out _ _ trivial (fun hH => ?_)
      clear hK K
      (try simp only [Act.put, pX])
      have K6 := K5.trans b6
      replace own := own6
      clear own6
      refine wT (i := 12) (v := ?_) rfl (by kernel_rfl) (by kernel_rfl) (by kernel_rfl) (fun _ _ _ h => h) (Or.inl ⟨by rfl, ?_⟩) (by assumption) ?_
      rotate_left 1
      ·(intro w hSw; (try dsimp only at hSw); go_simp; try with_reducible rfl)
      (try simp only [Act.put, pX])
      refine wD (by kernel_rfl) ?_ _
      go_wp2_with fail
      go_ret
      exact givesL_of own (by rw [HPF.out]; simp [ints]) K6
    refine aC rfl (fun K hK => ?_) aN
    ·go_simp
     refine hK.out _ _ trivial (fun hH => ?_)
     clear hK K
     try simp only [Act.put, pX]
     have U2 : Below w1.heap.size w1 (w1.alloc (.cells #[.int .i64 v] 3)) := (Below.refl _ _).alloc (Nat.le_refl _) _
     have box : Blk (w1.alloc (.cells #[.int .i64 v] 3)) w1.heap.size 3 [.int .i64 v] := Blk.at_ rfl
     have lb := box.lt
     have K2 := bel_then K1 U2
     generalize (w1.alloc (.cells #[.int .i64 v] 3)) = w2 at *
     refine wR (rs := [0]) (by kernel_rfl) (by simp) ?_
     refine aC rfl (fun K hK => ?_) aN
     go_simp
     refine hK.out _ _ trivial (fun hH => ?_)
     clear hK K
     try simp only [Act.put, pX]
     have U3 : Below w2.heap.size w2 (w2.alloc (.cells #[] 3)) := (Below.refl _ _).alloc (Nat.le_refl _) _
     replace box := box.next U3
     have own := own_base (own_empty w2 3 1) (show w.heap.size ≤ w2.heap.size from K2.size)
     have hne : ∀ b, OwnB (some ⟨w2.heap.size, 0, none⟩) b → b ≠ w1.heap.size := fun b hb => by have h4 : w2.heap.size = b := (by simpa [OwnB, Value.ownBlock] using hb); have h5 := lb; omega
     have K3 := bel_then K2 U3
     generalize (w2.alloc (.cells #[] 3)) = w3 at *
     have ownP := own
     refine wR (rs := [4]) (by kernel_rfl) (by simp) ?_
     refine aC rfl (fun K hK => ?_) aN
     refine step_cat rfl _ _ _ (by rfl) Tryz.underlying24 info_int rfl (by decide) (by rfl) own (by rfl) (m := n) (hpre.next K3) (ints_all _) (by omega) (by omega) (by decide) (by have := K3.size; omega) ?_
     intro A4 c4 w4 own4 o4 b4 q4
     refine hK.out _ _ trivial (fun hH => ?_)
     clear hK K
     (try simp only [Act.put, pX])
     (try simp only [Nat.zero_add])
     have K4 := K3.trans b4
     replace box := box.only o4 (fun h => hne _ h rfl)
     simp only [Nat.zero_add, List.nil_append] at own4
     replace own := own4
     clear own4
     replace ownP := own
     refine wR (rs := [7]) (by kernel_rfl) (by simp) ?_
     refine aC rfl (fun K hK => ?_) aN
     refine step_cat rfl _ _ _ (by rfl) Tryz.underlying24 info_int rfl (by decide) (by rfl) own (by rfl) (m := 1) (box.sees (s := 1) (Nat.zero_le _) rfl) (by simp [Value.oneCell']) (by omega) (by omega) (by decide) (by have := K4.size; omega) ?_
     intro A5 c5 w5 own5 o5 b5 q5
     refine hK.out _ _ trivial (fun hH => ?_)
     clear hK K
     (try simp only [Act.put, pX])
     have K5 := K4.trans b5
     replace own := own5
     clear own5
     refine wR (rs := [11]) (by kernel_rfl) (by simp) ?_
     refine aC rfl (fun K hK => ?_) aN
     refine step_cat rfl _ _ _ (by rfl) Tryz.underlying24 info_int rfl (by decide) (by rfl) own (by rfl) (m := 0) (Sees.nil _ lo 1 _) (by simp) (by omega) (by omega) (by decide) (by have := K5.size; omega) ?_
     intro A6 c6 w6 own6 o6 b6 q6
     refine hK.out _ _ trivial (fun hH => ?_)
     clear hK K
     (try simp only [Act.put, pX])
     have K6 := K5.trans b6
     replace own := own6
     clear own6
     refine wT (i := 12) (v := ?_) rfl (by kernel_rfl) (by kernel_rfl) (by kernel_rfl) (fun _ _ _ h => h) (Or.inl ⟨by rfl, ?_⟩) (by assumption) ?_
     rotate_left 1
     ·(intro w hSw; (try dsimp only at hSw); go_simp; try with_reducible rfl)
     (try simp only [Act.put, pX])
     refine wD (by kernel_rfl) ?_ _
     go_wp2_with fail
     go_ret
     exact givesL_of own (by rw [HPF.out]; simp [ints]) K6

   ·go_wp2_with fail
    refine wp_region_held_drew (S := fun _ => True) (by kernel_rfl) trivial (fun hH => ?_)
    have K1 := (Quiet.one w).below w.heap.size
    generalize w.drew = w1 at *
    refine wT (i := 1) (v := ?_) rfl (by kernel_rfl) (by kernel_rfl) (by kernel_rfl) (fun _ _ _ h => h) (Or.inl ⟨by rfl, ?_⟩) (by assumption) ?_
    rotate_left 1
    ·(intro w hSw; (try dsimp only at hSw); go_simp; try with_reducible rfl)
    (try simp only [Act.put, pX])
    refine wT (i := 2) (v := ?_) rfl (by kernel_rfl) (by kernel_rfl) (by kernel_rfl) (fun _ _ _ h => h) (Or.inl ⟨by rfl, ?_⟩) (by assumption) ?_
    rotate_left 1
    ·(intro w hSw; (try dsimp only at hSw); go_simp; try with_reducible rfl)
    (try simp only [Act.put, pX])
    refine wT (i := 3) (v := ?_) rfl (by kernel_rfl) (by kernel_rfl) (by kernel_rfl) (fun _ _ _ h => h) (Or.inl ⟨by rfl, ?_⟩) (by assumption) ?_
    rotate_left 1
    ·(intro w hSw; (try dsimp only at hSw); go_simp; try with_reducible rfl)
    (try simp only [Act.put, pX])
    refine wT (i := 5) (v := ?_) rfl (by kernel_rfl) (by kernel_rfl) (by kernel_rfl) (fun _ _ _ h => h) (Or.inl ⟨by rfl, ?_⟩) (by assumption) ?_
    rotate_left 1
    ·(intro w hSw; (try dsimp only at hSw); go_simp; try with_reducible rfl)
    (try simp only [Act.put, pX])
    refine wT (i := 8) (v := ?_) rfl (by kernel_rfl) (by kernel_rfl) (by kernel_rfl) (fun _ _ _ h => h) (Or.inl ⟨by rfl, ?_⟩) (by assumption) ?_
    rotate_left 1
    ·(intro w hSw; (try dsimp only at hSw); go_simp; try with_reducible rfl)
    (try simp only [Act.put, pX])
    refine wT (i := 9) (v := ?_) rfl (by kernel_rfl) (by kernel_rfl) (by kernel_rfl) (fun _ _ _ h => h) (Or.inl ⟨by rfl, ?_⟩) (by assumption) ?_
    rotate_left 1
    ·(intro w hSw; (try dsimp only at hSw); go_simp; try with_reducible rfl)
    (try simp only [Act.put, pX])
    refine wT (i := 10) (v := ?_) rfl (by kernel_rfl) (by kernel_rfl) (by kernel_rfl) (fun _ _ _ h => h) (Or.inl ⟨by rfl, ?_⟩) (by assumption) ?_
    rotate_left 1
    ·(intro w hSw; (try dsimp only at hSw); go_simp; try with_reducible rfl)
    (try simp only [Act.put, pX])
    refine wR (rs := [0, 6]) (by kernel_rfl) (by simp) ?_
    refine aC rfl (fun K hK => ?_) ?_
    ·go_simp
     refine hK.out _ _ trivial (fun hH => ?_)
     clear hK K
     try simp only [Act.put, pX]
     have U2 : Below w1.heap.size w1 (w1.alloc (.cells #[] 3)) := (Below.refl _ _).alloc (Nat.le_refl _) _
     have own := own_base (own_empty w1 3 1) (show w.heap.size ≤ w1.heap.size from K1.size)
     have K2 := bel_then K1 U2
     generalize (w1.alloc (.cells #[] 3)) = w2 at *
     have ownP := own
     refine wR (rs := [4, 6]) (by kernel_rfl) (by simp) ?_
     refine aC rfl (fun K hK => ?_) ?_
     ·refine step_cat rfl _ _ _ (by rfl) Tryz.underlying24 info_int rfl (by decide) (by rfl) own (by rfl) (m := n) (hpre.next K2) (ints_all _) (by omega) (by omega) (by decide) (by have := K2.size; omega) ?_
      intro A3 c3 w3 own3 o3 b3 q3
      refine hK.out _ _ trivial (fun hH => ?_)
      clear hK K
      (try simp only [Act.put, pX])
      (try simp only [Nat.zero_add])
      have K3 := K2.trans b3
      simp only [Nat.zero_add, List.nil_append] at own3
      replace own := own3
      clear own3
      replace ownP := own
      refine wR (rs := [6]) (by kernel_rfl) (by simp) ?_
      refine aC rfl (fun K hK => ?_) aN
      go_simp
      refine hK.out _ _ trivial (fun hH => ?_)
      clear hK K
      try simp only [Act.put, pX]
      have U4 : Below w3.heap.size w3 (w3.alloc (.cells #[.int .i64 v] 3)) := (Below.refl _ _).alloc (Nat.le_refl _) _
      replace own := own_below own U4
      have box : Blk (w3.alloc (.cells #[.int .i64 v] 3)) w3.heap.size 3 [.int .i64 v] := Blk.at_ rfl
      have lb := box.lt
      have hne : ∀ b, OwnB A3 b → b ≠ w3.heap.size := fun b hb => by have := (own_top ownP hb).2; omega
      have K4 := bel_then K3 U4
      generalize (w3.alloc (.cells #[.int .i64 v] 3)) = w4 at *
      replace ownP := own
      refine wR (rs := [7]) (by kernel_rfl) (by simp) ?_
      refine aC rfl (fun K hK => ?_) aN
      refine step_cat rfl _ _ _ (by rfl) Tryz.underlying24 info_int rfl (by decide) (by rfl) own (by rfl) (m := 1) (box.sees (s := 1) (Nat.zero_le _) rfl) (by simp [Value.oneCell']) (by omega) (by omega) (by decide) (by have := K4.size; omega) ?_
      intro A5 c5 w5 own5 o5 b5 q5
      refine hK.out _ _ trivial (fun hH => ?_)
      clear hK K
      (try simp only [Act.put, pX])
      have K5 := K4.trans b5
      replace own := own5
      clear own5
      refine wR (rs := [11]) (by kernel_rfl) (by simp) ?_
      refine aC rfl (fun K hK => ?_) aN
      refine step_cat rfl _ _ _ (by rfl) Tryz.underlying24 info_int rfl (by decide) (by rfl) own (by rfl) (m := 0) (Sees.nil _ lo 1 _) (by simp) (by omega) (by omega) (by decide) (by have := K5.size; omega) ?_
      intro A6 c6 w6 own6 o6 b6 q6
      refine hK.out _ _ trivial (fun hH => ?_)
      clear hK K
      (try simp only [Act.put, pX])
      have K6 := K5.trans b6
      replace own := own6
      clear own6
      refine wT (i := 12) (v := ?_) rfl (by kernel_rfl) (by kernel_rfl) (by kernel_rfl) (fun _ _ _ h => h) (Or.inl ⟨by rfl, ?_⟩) (by assumption) ?_
      rotate_left 1
      ·(intro w hSw; (try dsimp only at hSw); go_simp; try with_reducible rfl)
      (try simp only [Act.put, pX])
      refine wD (by kernel_rfl) ?_ _
      go_wp2_with fail
      go_ret
      exact givesL_of own (by rw [HPF.out]; simp [ints]) K6
     refine aC rfl (fun K hK => ?_) aN
     ·go_simp
      refine hK.out _ _ trivial (fun hH => ?_)
      clear hK K
      try simp only [Act.put, pX]
      have U3 : Below w2.heap.size w2 (w2.alloc (.cells #[.int .i64 v] 3)) := (Below.refl _ _).alloc (Nat.le_refl _) _
      replace own := own_below own U3
      have box : Blk (w2.alloc (.cells #[.int .i64 v] 3)) w2.heap.size 3 [.int .i64 v] := Blk.at_ rfl
      have lb := box.lt
      have hne : ∀ b, OwnB (some ⟨w1.heap.size, 0, none⟩) b → b ≠ w2.heap.size := fun b hb => by have := (own_top ownP hb).2; omega
      have K3 := bel_then K2 U3
      generalize (w2.alloc (.cells #[.int .i64 v] 3)) = w3 at *
      replace ownP := own
      refine wR (rs := [4]) (by kernel_rfl) (by simp) ?_
      refine aC rfl (fun K hK => ?_) aN
      refine step_cat rfl _ _ _ (by rfl) Tryz.underlying24 info_int rfl (by decide) (by rfl) own (by rfl) (m := n) (hpre.next K3) (ints_all _) (by omega) (by omega) (by decide) (by have := K3.size; omega) ?_
      intro A4 c4 w4 own4 o4 b4 q4
      refine hK.out _ _ trivial (fun hH => ?_)
      clear hK K
      (try simp only [Act.put, pX])
      (try simp only [Nat.zero_add])
      have K4 := K3.trans b4
      replace box := box.only o4 (fun h => hne _ h rfl)
      simp only [Nat.zero_add, List.nil_append] at own4
      replace own := own4
      clear own4
      replace ownP := own
      refine wR (rs := [7]) (by kernel_rfl) (by simp) ?_
      refine aC rfl (fun K hK => ?_) aN
      refine step_cat rfl _ _ _ (by rfl) Tryz.underlying24 info_int rfl (by decide) (by rfl) own (by rfl) (m := 1) (box.sees (s := 1) (Nat.zero_le _) rfl) (by simp [Value.oneCell']) (by omega) (by omega) (by decide) (by have := K4.size; omega) ?_
      intro A5 c5 w5 own5 o5 b5 q5
      refine hK.out _ _ trivial (fun hH => ?_)
      clear hK K
      (try simp only [Act.put, pX])
      have K5 := K4.trans b5
      replace own := own5
      clear own5
      refine wR (rs := [11]) (by kernel_rfl) (by simp) ?_
      refine aC rfl (fun K hK => ?_) aN
      refine step_cat rfl _ _ _ (by rfl) Tryz.underlying24 info_int rfl (by decide) (by rfl) own (by rfl) (m := 0) (Sees.nil _ lo 1 _) (by simp) (by omega) (by omega) (by decide) (by have := K5.size; omega) ?_
      intro A6 c6 w6 own6 o6 b6 q6
      refine hK.out _ _ trivial (fun hH => ?_)
      clear hK K
      (try simp only [Act.put, pX])
      have K6 := K5.trans b6
      replace own := own6
      clear own6
      refine wT (i := 12) (v := ?_) rfl (by kernel_rfl) (by kernel_rfl) (by kernel_rfl) (fun _ _ _ h => h) (Or.inl ⟨by rfl, ?_⟩) (by assumption) ?_
      rotate_left 1
      ·(intro w hSw; (try dsimp only at hSw); go_simp; try with_reducible rfl)
      (try simp only [Act.put, pX])
      refine wD (by kernel_rfl) ?_ _
      go_wp2_with fail
      go_ret
      exact givesL_of own (by rw [HPF.out]; simp [ints]) K6
    refine aC rfl (fun K hK => ?_) aN
    ·go_simp
     refine hK.out _ _ trivial (fun hH => ?_)
     clear hK K
     try simp only [Act.put, pX]
     have U2 : Below w1.heap.size w1 (w1.alloc (.cells #[.int .i64 v] 3)) := (Below.refl _ _).alloc (Nat.le_refl _) _
     have box : Blk (w1.alloc (.cells #[.int .i64 v] 3)) w1.heap.size 3 [.int .i64 v] := Blk.at_ rfl
     have lb := box.lt
     have K2 := bel_then K1 U2
     generalize (w1.alloc (.cells #[.int .i64 v] 3)) = w2 at *
     refine wR (rs := [0]) (by kernel_rfl) (by simp) ?_
     refine aC rfl (fun K hK => ?_) aN
     go_simp
     refine hK.out _ _ trivial (fun hH => ?_)
     clear hK K
     try simp only [Act.put, pX]
     have U3 : Below w2.heap.size w2 (w2.alloc (.cells #[] 3)) := (Below.refl _ _).alloc (Nat.le_refl _) _
     replace box := box.next U3
     have own := own_base (own_empty w2 3 1) (show w.heap.size ≤ w2.heap.size from K2.size)
     have hne : ∀ b, OwnB (some ⟨w2.heap.size, 0, none⟩) b → b ≠ w1.heap.size := fun b hb => by have h4 : w2.heap.size = b := (by simpa [OwnB, Value.ownBlock] using hb); have h5 := lb; omega
     have K3 := bel_then K2 U3
     generalize (w2.alloc (.cells #[] 3)) = w3 at *
     have ownP := own
     refine wR (rs := [4]) (by kernel_rfl) (by simp) ?_
     refine aC rfl (fun K hK => ?_) aN
     refine step_cat rfl _ _ _ (by rfl) Tryz.underlying24 info_int rfl (by decide) (by rfl) own (by rfl) (m := n) (hpre.next K3) (ints_all _) (by omega) (by omega) (by decide) (by have := K3.size; omega) ?_
     intro A4 c4 w4 own4 o4 b4 q4
     refine hK.out _ _ trivial (fun hH => ?_)
     clear hK K
     (try simp only [Act.put, pX])
     (try simp only [Nat.zero_add])
     have K4 := K3.trans b4
     replace box := box.only o4 (fun h => hne _ h rfl)
     simp only [Nat.zero_add, List.nil_append] at own4
     replace own := own4
     clear own4
     replace ownP := own
     refine wR (rs := [7]) (by kernel_rfl) (by simp) ?_
     refine aC rfl (fun K hK => ?_) aN
     refine step_cat rfl _ _ _ (by rfl) Tryz.underlying24 info_int rfl (by decide) (by rfl) own (by rfl) (m := 1) (box.sees (s := 1) (Nat.zero_le _) rfl) (by simp [Value.oneCell']) (by omega) (by omega) (by decide) (by have := K4.size; omega) ?_
     intro A5 c5 w5 own5 o5 b5 q5
     refine hK.out _ _ trivial (fun hH => ?_)
     clear hK K
     (try simp only [Act.put, pX])
     have K5 := K4.trans b5
     replace own := own5
     clear own5
     refine wR (rs := [11]) (by kernel_rfl) (by simp) ?_
     refine aC rfl (fun K hK => ?_) aN
     refine step_cat rfl _ _ _ (by rfl) Tryz.underlying24 info_int rfl (by decide) (by rfl) own (by rfl) (m := 0) (Sees.nil _ lo 1 _) (by simp) (by omega) (by omega) (by decide) (by have := K5.size; omega) ?_
     intro A6 c6 w6 own6 o6 b6 q6
     refine hK.out _ _ trivial (fun hH => ?_)
     clear hK K
     (try simp only [Act.put, pX])
     have K6 := K5.trans b6
     replace own := own6
     clear own6
     refine wT (i := 12) (v := ?_) rfl (by kernel_rfl) (by kernel_rfl) (by kernel_rfl) (fun _ _ _ h => h) (Or.inl ⟨by rfl, ?_⟩) (by assumption) ?_
     rotate_left 1
     ·(intro w hSw; (try dsimp only at hSw); go_simp; try with_reducible rfl)
     (try simp only [Act.put, pX])
     refine wD (by kernel_rfl) ?_ _
     go_wp2_with fail
     go_ret
     exact givesL_of own (by rw [HPF.out]; simp [ints]) K6

end Go.Proofs.YtkimlajfhepfgaaGreat

namespace Go.Proofs.YtkimlajfhepfgaaGreat
open Go.RowKit

set_option maxRecDepth 100000 in
set_option maxHeartbeats 4000000 in
theorem l1Put_none (lo : Nat) (v : Int) (w : World) : Calls Tryz.prog 70 #[.slice none 0 0, .int .i64 v] w (GivesL w (putI [] v)) := by
 go_enter Tryz.func70, Tryz.ntmps70
 go_wp2_with fail
 go_loop [5] (fun i => i = .int .i64 0) (fun i => 0)
 case atStart => rfl
 case round =>
  obtain rfl := hrel
  have hpre : Sees w lo 1 none 0 (ints []) := Sees.nil w lo 1 none
  have HPF := Lib.hid (show putI [] v = ([] : List Int) ++ [v] from rfl)
  go_wp2_with fail
  refine wp_region_held_drew (S := fun _ => True) (by kernel_rfl) trivial (fun hH => ?_)
  have K1 := (Quiet.one w).below w.heap.size
  generalize w.drew = w1 at *
  refine wT (i := 1) (v := ?_) rfl (by kernel_rfl) (by kernel_rfl) (by kernel_rfl) (fun _ _ _ h => h) (Or.inl ⟨by rfl, ?_⟩) (by assumption) ?_
  rotate_left 1
  ·(intro w hSw; (try dsimp only at hSw); go_simp; try with_reducible rfl)
  (try simp only [Act.put, pX])
  refine wT (i := 2) (v := ?_) rfl (by kernel_rfl) (by kernel_rfl) (by kernel_rfl) (fun _ _ _ h => h) (Or.inl ⟨by rfl, ?_⟩) (by assumption) ?_
  rotate_left 1
  ·(intro w hSw; (try dsimp only at hSw); go_simp; try with_reducible rfl)
  (try simp only [Act.put, pX])
  refine wT (i := 3) (v := ?_) rfl (by kernel_rfl) (by kernel_rfl) (by kernel_rfl) (fun _ _ _ h => h) (Or.inl ⟨by rfl, ?_⟩) (by assumption) ?_
  rotate_left 1
  ·(intro w hSw; (try dsimp only at hSw); go_simp; try with_reducible rfl)
  (try simp only [Act.put, pX])
  refine wT (i := 5) (v := ?_) rfl (by kernel_rfl) (by kernel_rfl) (by kernel_rfl) (fun _ _ _ h => h) (Or.inl ⟨by rfl, ?_⟩) (by assumption) ?_
  rotate_left 1
  ·(intro w hSw; (try dsimp only at hSw); go_simp; try with_reducible rfl)
  (try simp only [Act.put, pX])
  refine wT (i := 8) (v := ?_) rfl (by kernel_rfl) (by kernel_rfl) (by kernel_rfl) (fun _ _ _ h => h) (Or.inl ⟨by rfl, ?_⟩) (by assumption) ?_
  rotate_left 1
  ·(intro w hSw; (try dsimp only at hSw); go_simp; try with_reducible rfl)
  (try simp only [Act.put, pX])
  refine wT (i := 9) (v := ?_) rfl (by kernel_rfl) (by kernel_rfl) (by kernel_rfl) (fun _ _ _ h => h) (Or.inl ⟨by rfl, ?_⟩) (by assumption) ?_
  rotate_left 1
  ·(intro w hSw; (try dsimp only at hSw); go_simp; try with_reducible rfl)
  (try simp only [Act.put, pX])
  refine wT (i := 10) (v := ?_) rfl (by kernel_rfl) (by kernel_rfl) (by kernel_rfl) (fun _ _ _ h => h) (Or.inl ⟨by rfl, ?_⟩) (by assumption) ?_
  rotate_left 1
  ·(intro w hSw; (try dsimp only at hSw); go_simp; try with_reducible rfl)
  (try simp only [Act.put, pX])
  refine wR (rs := [0, 6]) (by kernel_rfl) (by simp) ?_
  refine aC rfl (fun K hK => ?_) ?_
  ·go_simp
   refine hK.out _ _ trivial (fun hH => ?_)
   clear hK K
   try simp only [Act.put, pX]
   have U2 : Below w1.heap.size w1 (w1.alloc (.cells #[] 3)) := (Below.refl _ _).alloc (Nat.le_refl _) _
   have own := own_base (own_empty w1 3 1) (show w.heap.size ≤ w1.heap.size from K1.size)
   have K2 := bel_then K1 U2
   generalize (w1.alloc (.cells #[] 3)) = w2 at *
   have ownP := own
   refine wR (rs := [4, 6]) (by kernel_rfl) (by simp) ?_
   refine aC rfl (fun K hK => ?_) ?_
   ·refine step_cat rfl _ _ _ (by rfl) Tryz.underlying24 info_int rfl (by decide) (by rfl) own (by rfl) (m := 0) (hpre.next K2) (ints_all _) (by omega) (by omega) (by decide) (by have := K2.size; omega) ?_
    intro A3 c3 w3 own3 o3 b3 q3
    refine hK.out _ _ trivial (fun hH => ?_)
    clear hK K
    (try simp only [Act.put, pX])
    (try simp only [Nat.zero_add])
    have K3 := K2.trans b3
    simp only [Nat.zero_add, List.nil_append] at own3
    replace own := own3
    clear own3
    replace ownP := own
    refine wR (rs := [6]) (by kernel_rfl) (by simp) ?_
    refine aC rfl (fun K hK => ?_) aN
    go_simp
    refine hK.out _ _ trivial (fun hH => ?_)
    clear hK K
    try simp only [Act.put, pX]
    have U4 : Below w3.heap.size w3 (w3.alloc (.cells #[.int .i64 v] 3)) := (Below.refl _ _).alloc (Nat.le_refl _) _
    replace own := own_below own U4
    have box : Blk (w3.alloc (.cells #[.int .i64 v] 3)) w3.heap.size 3 [.int .i64 v] := Blk.at_ rfl
    have lb := box.lt
    have hne : ∀ b, OwnB A3 b → b ≠ w3.heap.size := fun b hb => by have := (own_top ownP hb).2; omega
    have K4 := bel_then K3 U4
    generalize (w3.alloc (.cells #[.int .i64 v] 3)) = w4 at *
    replace ownP := own
    refine wR (rs := [7]) (by kernel_rfl) (by simp) ?_
    refine aC rfl (fun K hK => ?_) aN
    refine step_cat rfl _ _ _ (by rfl) Tryz.underlying24 info_int rfl (by decide) (by rfl) own (by rfl) (m := 1) (box.sees (s := 1) (Nat.zero_le _) rfl) (by simp [Value.oneCell']) (by omega) (by omega) (by decide) (by have := K4.size; omega) ?_
    intro A5 c5 w5 own5 o5 b5 q5
    refine hK.out _ _ trivial (fun hH => ?_)
    clear hK K
    (try simp only [Act.put, pX])
    have K5 := K4.trans b5
    replace own := own5
    clear own5
    refine wR (rs := [11]) (by kernel_rfl) (by simp) ?_
    refine aC rfl (fun K hK => ?_) aN
    refine step_cat rfl _ _ _ (by rfl) Tryz.underlying24 info_int rfl (by decide) (by rfl) own (by rfl) (m := 0) (Sees.nil _ lo 1 _) (by simp) (by omega) (by omega) (by decide) (by have := K5.size; omega) ?_
    intro A6 c6 w6 own6 o6 b6 q6
    refine hK.out _ _ trivial (fun hH => ?_)
    clear hK K
    (try simp only [Act.put, pX])
    have K6 := K5.trans b6
    replace own := own6
    clear own6
    refine wT (i := 12) (v := ?_) rfl (by kernel_rfl) (by kernel_rfl) (by kernel_rfl) (fun _ _ _ h => h) (Or.inl ⟨by rfl, ?_⟩) (by assumption) ?_
    rotate_left 1
    ·(intro w hSw; (try dsimp only at hSw); go_simp; try with_reducible rfl)
    (try simp only [Act.put, pX])
    refine wD (by kernel_rfl) ?_ _
    go_wp2_with fail
    go_ret
    exact givesL_of own (by rw [HPF.out]; simp [ints]) K6
   refine aC rfl (fun K hK => ?_) aN
   ·go_simp
    refine hK.out _ _ trivial (fun hH => ?_)
    clear hK K
    try simp only [Act.put, pX]
    have U3 : Below w2.heap.size w2 (w2.alloc (.cells #[.int .i64 v] 3)) := (Below.refl _ _).alloc (Nat.le_refl _) _
    replace own := own_below own U3
    have box : Blk (w2.alloc (.cells #[.int .i64 v] 3)) w2.heap.size 3 [.int .i64 v] := Blk.at_ rfl
    have lb := box.lt
    have hne : ∀ b, OwnB (some ⟨w1.heap.size, 0, none⟩) b → b ≠ w2.heap.size := fun b hb => by have := (own_top ownP hb).2; omega
    have K3 := bel_then K2 U3
    generalize (w2.alloc (.cells #[.int .i64 v] 3)) = w3 at *
    replace ownP := own
    refine wR (rs := [4]) (by kernel_rfl) (by simp) ?_
    refine aC rfl (fun K hK => ?_) aN
    refine step_cat rfl _ _ _ (by rfl) Tryz.underlying24 info_int rfl (by decide) (by rfl) own (by rfl) (m := 0) (hpre.next K3) (ints_all _) (by omega) (by omega) (by decide) (by have := K3.size; omega) ?_
    intro A4 c4 w4 own4 o4 b4 q4
    refine hK.out _ _ trivial (fun hH => ?_)
    clear hK K
    (try simp only [Act.put, pX])
    (try simp only [Nat.zero_add])
    have K4 := K3.trans b4
    replace box := box.only o4 (fun h => hne _ h rfl)
    simp only [Nat.zero_add, List.nil_append] at own4
    replace own := own4
    clear own4
    replace ownP := own
    refine wR (rs := [7]) (by kernel_rfl) (by simp) ?_
    refine aC rfl (fun K hK => ?_) aN
    refine step_cat rfl _ _ _ (by rfl) Tryz.underlying24 info_int rfl (by decide) (by rfl) own (by rfl) (m := 1) (box.sees (s := 1) (Nat.zero_le _) rfl) (by simp [Value.oneCell']) (by omega) (by omega) (by decide) (by have := K4.size; omega) ?_
    intro A5 c5 w5 own5 o5 b5 q5
    refine hK.out _ _ trivial (fun hH => ?_)
    clear hK K
    (try simp only [Act.put, pX])
    have K5 := K4.trans b5
    replace own := own5
    clear own5
    refine wR (rs := [11]) (by kernel_rfl) (by simp) ?_
    refine aC rfl (fun K hK => ?_) aN
    refine step_cat rfl _ _ _ (by rfl) Tryz.underlying24 info_int rfl (by decide) (by rfl) own (by rfl) (m := 0) (Sees.nil _ lo 1 _) (by simp) (by omega) (by omega) (by decide) (by have := K5.size; omega) ?_
    intro A6 c6 w6 own6 o6 b6 q6
    refine hK.out _ _ trivial (fun hH => ?_)
    clear hK K
    (try simp only [Act.put, pX])
    have K6 := K5.trans b6
    replace own := own6
    clear own6
    refine wT (i := 12) (v := ?_) rfl (by kernel_rfl) (by kernel_rfl) (by kernel_rfl) (fun _ _ _ h => h) (Or.inl ⟨by rfl, ?_⟩) (by assumption) ?_
    rotate_left 1
    ·(intro w hSw; (try dsimp only at hSw); go_simp; try with_reducible rfl)
    (try simp only [Act.put, pX])
    refine wD (by kernel_rfl) ?_ _
    go_wp2_with fail
    go_ret
    exact givesL_of own (by rw [HPF.out]; simp [ints]) K6
  refine aC rfl (fun K hK => ?_) aN
  ·go_simp
   refine hK.out _ _ trivial (fun hH => ?_)
   clear hK K
   try simp only [Act.put, pX]
   have U2 : Below w1.heap.size w1 (w1.alloc (.cells #[.int .i64 v] 3)) := (Below.refl _ _).alloc (Nat.le_refl _) _
   have box : Blk (w1.alloc (.cells #[.int .i64 v] 3)) w1.heap.size 3 [.int .i64 v] := Blk.at_ rfl
   have lb := box.lt
   have K2 := bel_then K1 U2
   generalize (w1.alloc (.cells #[.int .i64 v] 3)) = w2 at *
   refine wR (rs := [0]) (by kernel_rfl) (by simp) ?_
   refine aC rfl (fun K hK => ?_) aN
   go_simp
   refine hK.out _ _ trivial (fun hH => ?_)
   clear hK K
   try simp only [Act.put, pX]
   have U3 : Below w2.heap.size w2 (w2.alloc (.cells #[] 3)) := (Below.refl _ _).alloc (Nat.le_refl _) _
   replace box := box.next U3
   have own := own_base (own_empty w2 3 1) (show w.heap.size ≤ w2.heap.size from K2.size)
   have hne : ∀ b, OwnB (some ⟨w2.heap.size, 0, none⟩) b → b ≠ w1.heap.size := fun b hb => by have h4 : w2.heap.size = b := (by simpa [OwnB, Value.ownBlock] using hb); have h5 := lb; omega
   have K3 := bel_then K2 U3
   generalize (w2.alloc (.cells #[] 3)) = w3 at *
   have ownP := own
   refine wR (rs := [4]) (by kernel_rfl) (by simp) ?_
   refine aC rfl (fun K hK => ?_) aN
   refine step_cat rfl _ _ _ (by rfl) Tryz.underlying24 info_int rfl (by decide) (by rfl) own (by rfl) (m := 0) (hpre.next K3) (ints_all _) (by omega) (by omega) (by decide) (by have := K3.size; omega) ?_
   intro A4 c4 w4 own4 o4 b4 q4
   refine hK.out _ _ trivial (fun hH => ?_)
   clear hK K
   (try simp only [Act.put, pX])
   (try simp only [Nat.zero_add])
   have K4 := K3.trans b4
   replace box := box.only o4 (fun h => hne _ h rfl)
   simp only [Nat.zero_add, List.nil_append] at own4
   replace own := own4
   clear own4
   replace ownP := own
   refine wR (rs := [7]) (by kernel_rfl) (by simp) ?_
   refine aC rfl (fun K hK => ?_) aN
   refine step_cat rfl _ _ _ (by rfl) Tryz.underlying24 info_int rfl (by decide) (by rfl) own (by rfl) (m := 1) (box.sees (s := 1) (Nat.zero_le _) rfl) (by simp [Value.oneCell']) (by omega) (by omega) (by decide) (by have := K4.size; omega) ?_
   intro A5 c5 w5 own5 o5 b5 q5
   refine hK.out _ _ trivial (fun hH => ?_)
   clear hK K
   (try simp only [Act.put, pX])
   have K5 := K4.trans b5
   replace own := own5
   clear own5
   refine wR (rs := [11]) (by kernel_rfl) (by simp) ?_
   refine aC rfl (fun K hK => ?_) aN
   refine step_cat rfl _ _ _ (by rfl) Tryz.underlying24 info_int rfl (by decide) (by rfl) own (by rfl) (m := 0) (Sees.nil _ lo 1 _) (by simp) (by omega) (by omega) (by decide) (by have := K5.size; omega) ?_
   intro A6 c6 w6 own6 o6 b6 q6
   refine hK.out _ _ trivial (fun hH => ?_)
   clear hK K
   (try simp only [Act.put, pX])
   have K6 := K5.trans b6
   replace own := own6
   clear own6
   refine wT (i := 12) (v := ?_) rfl (by kernel_rfl) (by kernel_rfl) (by kernel_rfl) (fun _ _ _ h => h) (Or.inl ⟨by rfl, ?_⟩) (by assumption) ?_
   rotate_left 1
   ·(intro w hSw; (try dsimp only at hSw); go_simp; try with_reducible rfl)
   (try simp only [Act.put, pX])
   refine wD (by kernel_rfl) ?_ _
   go_wp2_with fail
   go_ret
   exact givesL_of own (by rw [HPF.out]; simp [ints]) K6
theorem l1Put_own (A : Option Addr) (n c : Nat) (xs : List Int) (v : Int) (w : World) (ho : w.ownsRow 0 3 1 (.slice A n c) n (ints xs)) (hn : n ≤ 1000) (hv : v ∉ xs) :
  Calls Tryz.prog 70 #[.slice A n c, .int .i64 v] w (GivesL w (putI xs v)) := by
 have hl := own_len ho
 rcases own_open ho with ⟨rfl, rfl, rfl, hxs⟩ | ⟨g, cur, rfl, hg, hB, hcl, hnc, hcm, htk⟩
 ·obtain rfl : xs = [] := List.eq_nil_of_length_eq_zero hl
  exact l1Put_none 0 v w
 ·exact l1Put_any g 0 n c 0 xs v w (Sees.of_own ho) hn hnc hv
end Go.Proofs.YtkimlajfhepfgaaGreat

namespace Go.Proofs.YtkimlajfhepfgaaGreat
open Go.RowKit

theorem make_small {d : DeskV} {s : DeskStep} (h : Small 1000 d) (hv : validS s = true) (_ : makeOk d s = true) : Small 1001 (makeOut d s) := by
 have hx : Small 1001 d := ⟨h.codes, by have := h.known; omega, by have := h.total; omega, h.qc, h.tc⟩
 have hl := parts_len d.trouble s.number
 unfold validS at hv
 unfold makeOut
 split
 ·rename_i k1
  rw [if_pos k1] at hv
  simp only [Bool.and_eq_true] at hv
  refine ⟨h.codes, hx.known, by have := h.total; simp only [List.length_append, List.length_singleton]; omega, fun c hc => ?_, h.tc⟩
  rcases List.mem_append.1 hc with hc | hc
  ·exact h.qc c hc
  ·obtain rfl := List.mem_singleton.1 hc
   exact finB_ok hv.2
 split
 ·split
  ·exact hx
  ·exact hx.check
 split
 ·refine ⟨h.codes, ?_, by have := h.total; simp only [List.length_append]; omega, fun c hc => ?_, fun c hc => h.tc c (List.mem_filter.1 hc).1⟩
  ·have h1 := h.known
   have h2 := putI_len (n := s.number) (l := d.known)
   simp only []
   split <;> omega
  rcases List.mem_append.1 hc with hc | hc
  ·exact h.qc c hc
  ·exact h.tc c (List.mem_filter.1 hc).1
 ·exact ⟨h.codes, hx.known, by have := h.total; simp only []; omega, h.qc, fun c hc => h.tc c (List.mem_filter.1 hc).1⟩

set_option maxRecDepth 100000 in
set_option maxHeartbeats 8000000 in
theorem l25Make_any (h : DeskH) (d : DeskV) (A : Option Addr) (n c : Nat) (s : DeskStep) (w : World) (hs : SeesDesk w 0 h d) (hd : deskB d = true) (hx : Sees w 0 2 A n (s.card.punches.flatMap Punch.enc)) (hn : n ≤ 1048576) (hval : validS s = true) :
  Calls Tryz.prog 37 #[.agg #[.slice h.A0 h.n0 h.c0, .slice h.A1 h.n1 h.c1, .slice h.A2 h.n2 h.c2, .slice h.A3 h.n3 h.c3, .slice h.A4 h.n4 h.c4], .agg #[.int .i64 s.kind, .int .i64 s.number, .int .i64 s.cnumber, .int .i64 s.cstart, .int .i64 s.cfinish, .slice A n c]] w (GivesStep w (makeOut d s) (makeB d s)) := by
 have K0 : Below w.heap.size w (((w.alloc (.cells #[.slice h.A0 h.n0 h.c0, .slice h.A1 h.n1 h.c1, .slice h.A2 h.n2 h.c2, .slice h.A3 h.n3 h.c3, .slice h.A4 h.n4 h.c4] 28)).alloc (.cells #[.int .i64 s.kind, .int .i64 s.number, .int .i64 s.cnumber, .int .i64 s.cstart, .int .i64 s.cfinish, .slice A n c] 33)).alloc (.cells #[.slice none 0 0, .slice none 0 0, .slice none 0 0, .slice none 0 0, .slice none 0 0] 28)) := (((Below.refl w.heap.size w).alloc (Nat.le_refl _) _).alloc (by simp) _).alloc (by simp; omega) _
 have P0 : Blk (((w.alloc (.cells #[.slice h.A0 h.n0 h.c0, .slice h.A1 h.n1 h.c1, .slice h.A2 h.n2 h.c2, .slice h.A3 h.n3 h.c3, .slice h.A4 h.n4 h.c4] 28)).alloc (.cells #[.int .i64 s.kind, .int .i64 s.number, .int .i64 s.cnumber, .int .i64 s.cstart, .int .i64 s.cfinish, .slice A n c] 33)).alloc (.cells #[.slice none 0 0, .slice none 0 0, .slice none 0 0, .slice none 0 0, .slice none 0 0] 28)) w.heap.size 28 [.slice h.A0 h.n0 h.c0, .slice h.A1 h.n1 h.c1, .slice h.A2 h.n2 h.c2, .slice h.A3 h.n3 h.c3, .slice h.A4 h.n4 h.c4] := ((Blk.at_ rfl).alloc _).alloc _
 have Q0 : Blk (((w.alloc (.cells #[.slice h.A0 h.n0 h.c0, .slice h.A1 h.n1 h.c1, .slice h.A2 h.n2 h.c2, .slice h.A3 h.n3 h.c3, .slice h.A4 h.n4 h.c4] 28)).alloc (.cells #[.int .i64 s.kind, .int .i64 s.number, .int .i64 s.cnumber, .int .i64 s.cstart, .int .i64 s.cfinish, .slice A n c] 33)).alloc (.cells #[.slice none 0 0, .slice none 0 0, .slice none 0 0, .slice none 0 0, .slice none 0 0] 28)) (w.heap.size + 1) 33 [.int .i64 s.kind, .int .i64 s.number, .int .i64 s.cnumber, .int .i64 s.cstart, .int .i64 s.cfinish, .slice A n c] := (Blk.at_ (by simp)).alloc _
 have R0 : Blk (((w.alloc (.cells #[.slice h.A0 h.n0 h.c0, .slice h.A1 h.n1 h.c1, .slice h.A2 h.n2 h.c2, .slice h.A3 h.n3 h.c3, .slice h.A4 h.n4 h.c4] 28)).alloc (.cells #[.int .i64 s.kind, .int .i64 s.number, .int .i64 s.cnumber, .int .i64 s.cstart, .int .i64 s.cfinish, .slice A n c] 33)).alloc (.cells #[.slice none 0 0, .slice none 0 0, .slice none 0 0, .slice none 0 0, .slice none 0 0] 28)) (w.heap.size + 2) 28 [.slice none 0 0, .slice none 0 0, .slice none 0 0, .slice none 0 0, .slice none 0 0] := Blk.at_ (by simp)
 have z0 : w.heap.size + 3 ≤ ((((w.alloc (.cells #[.slice h.A0 h.n0 h.c0, .slice h.A1 h.n1 h.c1, .slice h.A2 h.n2 h.c2, .slice h.A3 h.n3 h.c3, .slice h.A4 h.n4 h.c4] 28)).alloc (.cells #[.int .i64 s.kind, .int .i64 s.number, .int .i64 s.cnumber, .int .i64 s.cstart, .int .i64 s.cfinish, .slice A n c] 33)).alloc (.cells #[.slice none 0 0, .slice none 0 0, .slice none 0 0, .slice none 0 0, .slice none 0 0] 28))).heap.size := by simp
 have SM := deskB_small hd
 have hcnt : s.card.cnt ≤ 1048576 := by
  have := hx.count (by decide) (fun _ => rfl)
  unfold Card.cnt; omega
 go_enter Tryz.func37, Tryz.ntmps37
 go_wp2_with fail
 generalize (((w.alloc (.cells #[.slice h.A0 h.n0 h.c0, .slice h.A1 h.n1 h.c1, .slice h.A2 h.n2 h.c2, .slice h.A3 h.n3 h.c3, .slice h.A4 h.n4 h.c4] 28)).alloc (.cells #[.int .i64 s.kind, .int .i64 s.number, .int .i64 s.cnumber, .int .i64 s.cstart, .int .i64 s.cfinish, .slice A n c] 33)).alloc (.cells #[.slice none 0 0, .slice none 0 0, .slice none 0 0, .slice none 0 0, .slice none 0 0] 28)) = w0 at *
 refine (l25OwnN_any h d _ (hs.below K0 (Nat.le_refl _)) (SM.fit hs (by decide) (by decide))).mono ?_
 rintro x w2 ⟨H, rfl, M, F, C3, C2, b2⟩
 have K2 := bel_then K0 b2
 have R2 := R0.next b2
 have Q2 := Q0.next b2
 have P2 := P0.next b2
 have z2 := b2.size
 have HLEN := Lib.hid (SM.lens M.toW.desk.sees)
 have U : Below w2.heap.size w2 (w2.alloc (.cells #[.slice H.A0 H.n0 H.c0, .slice H.A1 H.n1 H.c1, .slice H.A2 H.n2 H.c2, .slice H.A3 H.n3 H.c3, .slice H.A4 H.n4 H.c4] 28)) := (Below.refl _ _).alloc (Nat.le_refl _) _
 have B : Blk (w2.alloc (.cells #[.slice H.A0 H.n0 H.c0, .slice H.A1 H.n1 H.c1, .slice H.A2 H.n2 H.c2, .slice H.A3 H.n3 H.c3, .slice H.A4 H.n4 H.c4] 28)) w2.heap.size 28 [.slice H.A0 H.n0 H.c0, .slice H.A1 H.n1 H.c1, .slice H.A2 H.n2 H.c2, .slice H.A3 H.n3 H.c3, .slice H.A4 H.n4 H.c4] := Blk.at_ rfl
 have Kq := bel_then K2 U
 have R := R2.next U
 have Q := Q2.next U
 have P := P2.next U
 have HS := hs.next Kq
 have X := hx.next Kq
 obtain ⟨col, mc, rsq, hrq, MQ⟩ := M
 obtain ⟨rs, hrs, MR⟩ := mc.f4
 replace mc := mc.next U
 replace MQ := MQ.next U
 replace MR := MR.next U
 have hA2 := MQ.outer.top
 have hS : ∀ b, In w0.heap.size w2.heap.size b → b < (w2.alloc (.cells #[.slice H.A0 H.n0 H.c0, .slice H.A1 H.n1 H.c1, .slice H.A2 H.n2 H.c2, .slice H.A3 H.n3 H.c3, .slice H.A4 H.n4 H.c4] 28)).heap.size := fun b hb => Nat.lt_of_lt_of_le hb.2 U.size
 have hS2 : ∀ b, In w0.heap.size w2.heap.size b → b ≠ w2.heap.size ∧ w.heap.size + 3 ≤ b := fun b hb => ⟨by have := hb.2; omega, by have := hb.1; omega⟩
 have hg : ¬ In w0.heap.size w2.heap.size w2.heap.size := fun hb => (hS2 _ hb).1 rfl
 have hzg : w.heap.size + 3 ≤ w2.heap.size := by omega
 have hzq := Q2.lt
 have pq2 := Q2.cell
 generalize In w0.heap.size w2.heap.size = S at *
 have hn1 : H.n1 ≤ 1000 := by have := HLEN.out.2.1; have := SM.known; omega
 have hn2 : H.n2 ≤ 1048576 := F.n2
 have hn4 : H.n4 ≤ 1000 := by have := HLEN.out.2.2.2.2; have := SM.total; omega
 clear hs hx K0 P0 P2 Q0 R0 b2 K2 R2 U F C3
 have hzp := Nat.lt_of_lt_of_le hzq (Nat.le_refl _)
 go_wp2_with fail
 clear pq2 Q2
 generalize w2.alloc (.cells #[.slice H.A0 H.n0 H.c0, .slice H.A1 H.n1 H.c1, .slice H.A2 H.n2 H.c2, .slice H.A3 H.n3 H.c3, .slice H.A4 H.n4 H.c4] 28) = v3 at *
 generalize w2.heap.size = g at *
 have hgv := B.lt
 refine (l25Part_any H.A4 H.n4 H.c4 rs s.number _ MR.outer.sees (by omega)).mono ?_
 rintro e w3 ⟨A5, A6, n5, c5, n6, c6, rfl, PT⟩
 have b := PT.below
 have mcv := mc
 have MQv := MQ
 have hSv := hS
 have Kt := Below.refl w3.heap.size w3
 replace Kq := bel_then Kq b
 replace B := B.next b
 replace Q := Q.next b
 replace R := R.next b
 replace X := X.next b
 replace mc := mc.next b
 replace MQ := MQ.next b
 replace P := P.next b
 replace HS := HS.next b
 replace hS := fun x (hx : S x) => Nat.lt_of_lt_of_le (hS x hx) b.size
 clear b
 have pq3 := Q.cell
 go_upto_block 0 with fail
 go_cut [9] from 22 to 67 (fun v wr => v = .bool (makeOk d s) ∧ StepAt g w (makeOut d s) wr)
 case first =>
  have pb := B.cell
  have pf := B.frozen
  have pq := Q.cell
  by_cases k1 : s.kind = 1
  ·have HOUT := Lib.hid (show makeOut d s = { d with queue := d.queue ++ [s.card] } by unfold makeOut; rw [if_pos k1])
   have HOK := Lib.hid (show makeOk d s = true by unfold makeOk; rw [if_pos k1])
   have f1 : (s.kind == 1) = true := beq_iff_eq.2 k1
   clear k1
   go_upto_region 8 with fail
   have pbw := B.cell
   have pfw := B.frozen
   have pqw := Q.cell
   have b := (Quiet.one w3).below w3.heap.size
   clear pb pf pq
   replace B := B.next b
   replace Q := Q.next b
   replace R := R.next b
   replace X := X.next b
   replace mc := mc.next b
   replace MQ := MQ.next b
   replace P := P.next b
   replace HS := HS.next b
   replace Kq := bel_then Kq b
   replace Kt := bel_then Kt b
   replace hS := fun x (hx : S x) => Nat.lt_of_lt_of_le (hS x hx) b.size
   have pb := B.cell
   have pf := B.frozen
   have pq := Q.cell
   clear b
   go_wp2_with fail
   refine wp_region_held_drew (S := fun w' => w'.cell? ⟨w.heap.size + 1, 2, none⟩ = some (.int .i64 s.cnumber) ∧ w'.cell? ⟨w.heap.size + 1, 3, none⟩ = some (.int .i64 s.cstart) ∧ w'.cell? ⟨w.heap.size + 1, 4, none⟩ = some (.int .i64 s.cfinish) ∧ w'.cell? ⟨w.heap.size + 1, 5, none⟩ = some (.slice A n c)) (by kernel_rfl) (by (try dsimp only); first | exact ⟨pq 2, pq 3, pq 4, pq 5⟩ | exact ⟨qq 2, qq 3, qq 4, qq 5⟩ | exact ⟨qq2 2, qq2 3, qq2 4, qq2 5⟩ | exact ⟨pq7 2, pq7 3, pq7 4, pq7 5⟩) (fun hH => ?_)
   refine wT (i := 0) (v := ?_) rfl (by kernel_rfl) (by kernel_rfl) (by kernel_rfl) (fun _ _ _ h => h) (Or.inl ⟨by rfl, ?_⟩) (by assumption) ?_
   rotate_left 1
   ·(intro w hSw; (try dsimp only at hSw); go_simp; try with_reducible rfl)
   simp only [Act.put, pX]
   refine wT (i := 2) (v := ?_) rfl (by kernel_rfl) (by kernel_rfl) (by kernel_rfl) (fun _ _ _ h => h) (Or.inl ⟨by rfl, ?_⟩) (by assumption) ?_
   rotate_left 1
   ·(intro w hSw; (try dsimp only at hSw); go_simp; try with_reducible rfl)
   simp only [Act.put, pX]
   refine wT (i := 3) (v := ?_) rfl (by kernel_rfl) (by kernel_rfl) (by kernel_rfl) (fun _ _ _ h => h) (Or.inl ⟨by rfl, ?_⟩) (by assumption) ?_
   rotate_left 1
   ·(intro w hSw; (try dsimp only at hSw); go_simp; try with_reducible rfl)
   simp only [Act.put, pX]
   refine wR (rs := [1, 4]) (by kernel_rfl) (by simp) ?_
   refine aC rfl (fun K hK => ?_) ?_
   ·go_simp
    refine hK.out _ _ (by (try dsimp only); first | exact ⟨pq 2, pq 3, pq 4, pq 5⟩ | exact ⟨qq 2, qq 3, qq 4, qq 5⟩ | exact ⟨qq2 2, qq2 3, qq2 4, qq2 5⟩ | exact ⟨pq7 2, pq7 3, pq7 4, pq7 5⟩) (fun hH => ?_)
    clear hK K
    try simp only [Act.put, pX]
    refine wR (rs := [4]) (by kernel_rfl) (by simp) ?_
    refine aC rfl (fun K hK => ?_) aN
    go_simp
    refine (l12Own_any A n c 0 s.card _ X (by omega)).mono ?_
    rintro e w5 ⟨An, cn, rfl, on, b⟩
    have WX : Below w5.heap.size w5 (w5.alloc (.cells #[.int .i64 s.card.number, .int .i64 s.card.start, .int .i64 s.card.finish, .slice An n cn] 31)) := (Below.refl _ _).alloc (Nat.le_refl _) _
    have BA : Blk (w5.alloc (.cells #[.int .i64 s.card.number, .int .i64 s.card.start, .int .i64 s.card.finish, .slice An n cn] 31)) w5.heap.size 31 [.int .i64 s.card.number, .int .i64 s.card.start, .int .i64 s.card.finish, .slice An n cn] := Blk.at_ rfl
    have HLOW := Lib.hid (fun b (hb : OwnB An b) => own_top on hb)
    have B1 := B.next b
    have Q1 := Q.next b
    have Q2 := Q1.next WX
    have R2 := (R.next b).next WX
    have B2 := B1.next WX
    have MQ2 := (MQ.next b).next WX
    have on2 := own_below on WX
    have Kd := bel_then b WX
    have K2 := bel_then (bel_then Kq b) WX
    have zw5 : w5.heap.size + 1 ≤ (w5.alloc (.cells #[.int .i64 s.card.number, .int .i64 s.card.start, .int .i64 s.card.finish, .slice An n cn] 31)).heap.size := by simp
    clear on b
    have qb := B1.cell
    have qb2 := B2.cell
    have qf := B1.frozen
    have qq := Q1.cell
    have qq2 := Q2.cell
    go_wp2_with fail
    refine hK.out _ _ (by (try dsimp only); first | exact ⟨pq 2, pq 3, pq 4, pq 5⟩ | exact ⟨qq 2, qq 3, qq 4, qq 5⟩ | exact ⟨qq2 2, qq2 3, qq2 4, qq2 5⟩ | exact ⟨pq7 2, pq7 3, pq7 4, pq7 5⟩) (fun hH => ?_)
    clear hK K
    refine wR (rs := [5]) (by kernel_rfl) (by simp) ?_
    refine aC rfl (fun K hK => ?_) aN
    go_simp
    refine hK.out _ _ (by (try dsimp only); first | exact ⟨pq 2, pq 3, pq 4, pq 5⟩ | exact ⟨qq 2, qq 3, qq 4, qq 5⟩ | exact ⟨qq2 2, qq2 3, qq2 4, qq2 5⟩ | exact ⟨pq7 2, pq7 3, pq7 4, pq7 5⟩) (fun hH => ?_)
    clear hK K
    try simp only [Act.put, pX]
    refine wR (rs := [6]) (by kernel_rfl) (by simp) ?_
    refine aC rfl (fun K hK => ?_) aN
    refine step_cat rfl _ _ _ (by rfl) Tryz.underlying25 info_impl_Card rfl (by decide) (by rfl) MQ2.outer.own (by rfl) (m := 1) (BA.sees (s := 4) (Nat.zero_le _) rfl) (by rfl) (show H.n2 ≤ 1000000000 by omega) (by omega) (by decide) (Nat.zero_le _) ?_
    intro A7 c7 w7 o7 h7 b7 q7
    have B7 := B2.only h7 (fun h => hg (hA2 g h).1)
    have Q7 := Q2.only h7 (fun h => by have := (hS2 _ (hA2 _ h).1).2; omega)
    have R7 := R2.only h7 (fun h => by have := (hS2 _ (hA2 _ h).1).2; omega)
    have K7 := K2.trans (h7.below (fun b hb => by have := (hS2 _ (hA2 _ hb).1).2; omega) K2.size)
    have f7 := B7.frozen
    have p7 := B7.cell
    have pq7 := Q7.cell
    have hst : Only (fun b => b = g) w7 (w7.setCell ⟨g, 2, none⟩ (.slice A7 (H.n2 + 1) c7)) := (Only.refl (fun b => b = g) w7).setCell (p := ⟨g, 2, none⟩) rfl _
    have B8 := B7.set_ 2 (.slice A7 (H.n2 + 1) c7)
    have pq8 := (Q7.only hst (fun h => by omega)).cell
    refine hK.out _ _ (by (try dsimp only); first | exact ⟨pq 2, pq 3, pq 4, pq 5⟩ | exact ⟨qq 2, qq 3, qq 4, qq 5⟩ | exact ⟨qq2 2, qq2 3, qq2 4, qq2 5⟩ | exact ⟨pq7 2, pq7 3, pq7 4, pq7 5⟩) (fun hH => ?_)
    clear hK K
    try simp only [Act.put, pX]
    refine wT (i := 7) (v := ?_) rfl (by kernel_rfl) (by kernel_rfl) (by kernel_rfl) (fun _ _ _ h => h) (Or.inl ⟨by rfl, ?_⟩) (by assumption) ?_
    rotate_left 1
    ·(intro w hSw; (try dsimp only at hSw); go_simp; try with_reducible rfl)
    simp only [Act.put, pX]
    refine wR (rs := [8]) (by kernel_rfl) (by simp) ?_
    refine aC rfl (fun K hK => ?_) aN
    go_simp
    refine hK.out _ _ (by (try dsimp only); exact ⟨pq8 2, pq8 3, pq8 4, pq8 5⟩) (fun hH => ?_)
    clear hK K
    try simp only [Act.put, pX]
    refine wD (by kernel_rfl) ?_ _
    have hz7 := hst.size
    have hz6 := h7.size
    have hz5 := Kd.size
    have hgl7 := B7.lt
    have hapq : ∀ b, OwnB An b → OwnB A7 b → False := fun b h1 h2 => by
     have h3 := HLOW.out b h1
     rcases q7 b h2 with h4 | h4
     ·have := hS b (hA2 b h4).1; omega
     ·omega
    have T := MineCW.arrive (r := ⟨s.card, An, n, cn⟩) (T1 := OwnB An) (T7 := OwnB A7) (n7 := H.n2 + 1) mc hS hrq MQ.inners MQ.apart hA2 ((Only.of_below Kd).trans h7) (fun b hb => .inl hb) ⟨own_base (own_only on2 h7 (fun b h1 h2 => by have := hS b (hA2 b h2).1; have := (HLOW.out b h1).1; omega)) (Nat.zero_le _), fun b hb => hb⟩ (fun b hb => by have := HLOW.out b hb; exact ⟨by omega, by omega⟩) ⟨by rw [flat_snoc]; exact o7, fun b hb => hb⟩ (fun b hb => (q7 b hb).imp id fun h => ⟨by omega, (own_top o7 hb).2⟩) hapq
    have T2 := (T.toW.only hst (fun b h1 (h2 : b = g) => by
     rcases h1 with h1 | h1
     ·exact hg (h2 ▸ h1)
     ·have := B.lt; omega)).wide (T := fun b => b ≠ g ∧ w.heap.size + 3 ≤ b ∧ b < (w7.setCell ⟨g, 2, none⟩ (.slice A7 (H.n2 + 1) c7)).heap.size) (fun b h1 => by
     rcases h1 with h1 | h1
     ·exact ⟨(hS2 b h1).1, (hS2 b h1).2, by have := hS b h1; omega⟩
     ·have := B.lt; exact ⟨by omega, by omega, by omega⟩)
    have K8 := K7.trans (hst.below (fun b hb => by omega) K7.size)
    have R8 := R7.only hst (fun h => by omega)
    go_wp2_with fail
    go_meet
    exact ⟨by rw [HOK.out], by rw [HOUT.out]; exact ⟨⟨H.A0, H.n0, H.c0, H.A1, H.n1, H.c1, A7, H.n2 + 1, c7, H.A3, H.n3, H.c3, H.A4, H.n4, H.c4⟩, B8, T2, own_cap o7, R8, K8⟩⟩
   refine aC rfl (fun K hK => ?_) aN
   ·go_simp
    refine (l12Own_any A n c 0 s.card _ X (by omega)).mono ?_
    rintro e w5 ⟨An, cn, rfl, on, b⟩
    have WX : Below w5.heap.size w5 (w5.alloc (.cells #[.int .i64 s.card.number, .int .i64 s.card.start, .int .i64 s.card.finish, .slice An n cn] 31)) := (Below.refl _ _).alloc (Nat.le_refl _) _
    have BA : Blk (w5.alloc (.cells #[.int .i64 s.card.number, .int .i64 s.card.start, .int .i64 s.card.finish, .slice An n cn] 31)) w5.heap.size 31 [.int .i64 s.card.number, .int .i64 s.card.start, .int .i64 s.card.finish, .slice An n cn] := Blk.at_ rfl
    have HLOW := Lib.hid (fun b (hb : OwnB An b) => own_top on hb)
    have B1 := B.next b
    have Q1 := Q.next b
    have Q2 := Q1.next WX
    have R2 := (R.next b).next WX
    have B2 := B1.next WX
    have MQ2 := (MQ.next b).next WX
    have on2 := own_below on WX
    have Kd := bel_then b WX
    have K2 := bel_then (bel_then Kq b) WX
    have zw5 : w5.heap.size + 1 ≤ (w5.alloc (.cells #[.int .i64 s.card.number, .int .i64 s.card.start, .int .i64 s.card.finish, .slice An n cn] 31)).heap.size := by simp
    clear on b
    have qb := B1.cell
    have qb2 := B2.cell
    have qf := B1.frozen
    have qq := Q1.cell
    have qq2 := Q2.cell
    go_wp2_with fail
    refine hK.out _ _ (by (try dsimp only); first | exact ⟨pq 2, pq 3, pq 4, pq 5⟩ | exact ⟨qq 2, qq 3, qq 4, qq 5⟩ | exact ⟨qq2 2, qq2 3, qq2 4, qq2 5⟩ | exact ⟨pq7 2, pq7 3, pq7 4, pq7 5⟩) (fun hH => ?_)
    clear hK K
    refine wR (rs := [1, 5]) (by kernel_rfl) (by simp) ?_
    refine aC rfl (fun K hK => ?_) ?_
    ·go_simp
     refine hK.out _ _ (by (try dsimp only); first | exact ⟨pq 2, pq 3, pq 4, pq 5⟩ | exact ⟨qq 2, qq 3, qq 4, qq 5⟩ | exact ⟨qq2 2, qq2 3, qq2 4, qq2 5⟩ | exact ⟨pq7 2, pq7 3, pq7 4, pq7 5⟩) (fun hH => ?_)
     clear hK K
     try simp only [Act.put, pX]
     refine wR (rs := [5]) (by kernel_rfl) (by simp) ?_
     refine aC rfl (fun K hK => ?_) aN
     go_simp
     refine hK.out _ _ (by (try dsimp only); first | exact ⟨pq 2, pq 3, pq 4, pq 5⟩ | exact ⟨qq 2, qq 3, qq 4, qq 5⟩ | exact ⟨qq2 2, qq2 3, qq2 4, qq2 5⟩ | exact ⟨pq7 2, pq7 3, pq7 4, pq7 5⟩) (fun hH => ?_)
     clear hK K
     try simp only [Act.put, pX]
     refine wR (rs := [6]) (by kernel_rfl) (by simp) ?_
     refine aC rfl (fun K hK => ?_) aN
     refine step_cat rfl _ _ _ (by rfl) Tryz.underlying25 info_impl_Card rfl (by decide) (by rfl) MQ2.outer.own (by rfl) (m := 1) (BA.sees (s := 4) (Nat.zero_le _) rfl) (by rfl) (show H.n2 ≤ 1000000000 by omega) (by omega) (by decide) (Nat.zero_le _) ?_
     intro A7 c7 w7 o7 h7 b7 q7
     have B7 := B2.only h7 (fun h => hg (hA2 g h).1)
     have Q7 := Q2.only h7 (fun h => by have := (hS2 _ (hA2 _ h).1).2; omega)
     have R7 := R2.only h7 (fun h => by have := (hS2 _ (hA2 _ h).1).2; omega)
     have K7 := K2.trans (h7.below (fun b hb => by have := (hS2 _ (hA2 _ hb).1).2; omega) K2.size)
     have f7 := B7.frozen
     have p7 := B7.cell
     have pq7 := Q7.cell
     have hst : Only (fun b => b = g) w7 (w7.setCell ⟨g, 2, none⟩ (.slice A7 (H.n2 + 1) c7)) := (Only.refl (fun b => b = g) w7).setCell (p := ⟨g, 2, none⟩) rfl _
     have B8 := B7.set_ 2 (.slice A7 (H.n2 + 1) c7)
     have pq8 := (Q7.only hst (fun h => by omega)).cell
     refine hK.out _ _ (by (try dsimp only); first | exact ⟨pq 2, pq 3, pq 4, pq 5⟩ | exact ⟨qq 2, qq 3, qq 4, qq 5⟩ | exact ⟨qq2 2, qq2 3, qq2 4, qq2 5⟩ | exact ⟨pq7 2, pq7 3, pq7 4, pq7 5⟩) (fun hH => ?_)
     clear hK K
     try simp only [Act.put, pX]
     refine wT (i := 7) (v := ?_) rfl (by kernel_rfl) (by kernel_rfl) (by kernel_rfl) (fun _ _ _ h => h) (Or.inl ⟨by rfl, ?_⟩) (by assumption) ?_
     rotate_left 1
     ·(intro w hSw; (try dsimp only at hSw); go_simp; try with_reducible rfl)
     simp only [Act.put, pX]
     refine wR (rs := [8]) (by kernel_rfl) (by simp) ?_
     refine aC rfl (fun K hK => ?_) aN
     go_simp
     refine hK.out _ _ (by (try dsimp only); exact ⟨pq8 2, pq8 3, pq8 4, pq8 5⟩) (fun hH => ?_)
     clear hK K
     try simp only [Act.put, pX]
     refine wD (by kernel_rfl) ?_ _
     have hz7 := hst.size
     have hz6 := h7.size
     have hz5 := Kd.size
     have hgl7 := B7.lt
     have hapq : ∀ b, OwnB An b → OwnB A7 b → False := fun b h1 h2 => by
      have h3 := HLOW.out b h1
      rcases q7 b h2 with h4 | h4
      ·have := hS b (hA2 b h4).1; omega
      ·omega
     have T := MineCW.arrive (r := ⟨s.card, An, n, cn⟩) (T1 := OwnB An) (T7 := OwnB A7) (n7 := H.n2 + 1) mc hS hrq MQ.inners MQ.apart hA2 ((Only.of_below Kd).trans h7) (fun b hb => .inl hb) ⟨own_base (own_only on2 h7 (fun b h1 h2 => by have := hS b (hA2 b h2).1; have := (HLOW.out b h1).1; omega)) (Nat.zero_le _), fun b hb => hb⟩ (fun b hb => by have := HLOW.out b hb; exact ⟨by omega, by omega⟩) ⟨by rw [flat_snoc]; exact o7, fun b hb => hb⟩ (fun b hb => (q7 b hb).imp id fun h => ⟨by omega, (own_top o7 hb).2⟩) hapq
     have T2 := (T.toW.only hst (fun b h1 (h2 : b = g) => by
      rcases h1 with h1 | h1
      ·exact hg (h2 ▸ h1)
      ·have := B.lt; omega)).wide (T := fun b => b ≠ g ∧ w.heap.size + 3 ≤ b ∧ b < (w7.setCell ⟨g, 2, none⟩ (.slice A7 (H.n2 + 1) c7)).heap.size) (fun b h1 => by
      rcases h1 with h1 | h1
      ·exact ⟨(hS2 b h1).1, (hS2 b h1).2, by have := hS b h1; omega⟩
      ·have := B.lt; exact ⟨by omega, by omega, by omega⟩)
     have K8 := K7.trans (hst.below (fun b hb => by omega) K7.size)
     have R8 := R7.only hst (fun h => by omega)
     go_wp2_with fail
     go_meet
     exact ⟨by rw [HOK.out], by rw [HOUT.out]; exact ⟨⟨H.A0, H.n0, H.c0, H.A1, H.n1, H.c1, A7, H.n2 + 1, c7, H.A3, H.n3, H.c3, H.A4, H.n4, H.c4⟩, B8, T2, own_cap o7, R8, K8⟩⟩
    refine aC rfl (fun K hK => ?_) aN
    ·go_simp
     refine hK.out _ _ (by (try dsimp only); first | exact ⟨pq 2, pq 3, pq 4, pq 5⟩ | exact ⟨qq 2, qq 3, qq 4, qq 5⟩ | exact ⟨qq2 2, qq2 3, qq2 4, qq2 5⟩ | exact ⟨pq7 2, pq7 3, pq7 4, pq7 5⟩) (fun hH => ?_)
     clear hK K
     try simp only [Act.put, pX]
     refine wR (rs := [1]) (by kernel_rfl) (by simp) ?_
     refine aC rfl (fun K hK => ?_) aN
     go_simp
     refine hK.out _ _ (by (try dsimp only); first | exact ⟨pq 2, pq 3, pq 4, pq 5⟩ | exact ⟨qq 2, qq 3, qq 4, qq 5⟩ | exact ⟨qq2 2, qq2 3, qq2 4, qq2 5⟩ | exact ⟨pq7 2, pq7 3, pq7 4, pq7 5⟩) (fun hH => ?_)
     clear hK K
     try simp only [Act.put, pX]
     refine wR (rs := [6]) (by kernel_rfl) (by simp) ?_
     refine aC rfl (fun K hK => ?_) aN
     refine step_cat rfl _ _ _ (by rfl) Tryz.underlying25 info_impl_Card rfl (by decide) (by rfl) MQ2.outer.own (by rfl) (m := 1) (BA.sees (s := 4) (Nat.zero_le _) rfl) (by rfl) (show H.n2 ≤ 1000000000 by omega) (by omega) (by decide) (Nat.zero_le _) ?_
     intro A7 c7 w7 o7 h7 b7 q7
     have B7 := B2.only h7 (fun h => hg (hA2 g h).1)
     have Q7 := Q2.only h7 (fun h => by have := (hS2 _ (hA2 _ h).1).2; omega)
     have R7 := R2.only h7 (fun h => by have := (hS2 _ (hA2 _ h).1).2; omega)
     have K7 := K2.trans (h7.below (fun b hb => by have := (hS2 _ (hA2 _ hb).1).2; omega) K2.size)
     have f7 := B7.frozen
     have p7 := B7.cell
     have pq7 := Q7.cell
     have hst : Only (fun b => b = g) w7 (w7.setCell ⟨g, 2, none⟩ (.slice A7 (H.n2 + 1) c7)) := (Only.refl (fun b => b = g) w7).setCell (p := ⟨g, 2, none⟩) rfl _
     have B8 := B7.set_ 2 (.slice A7 (H.n2 + 1) c7)
     have pq8 := (Q7.only hst (fun h => by omega)).cell
     refine hK.out _ _ (by (try dsimp only); first | exact ⟨pq 2, pq 3, pq 4, pq 5⟩ | exact ⟨qq 2, qq 3, qq 4, qq 5⟩ | exact ⟨qq2 2, qq2 3, qq2 4, qq2 5⟩ | exact ⟨pq7 2, pq7 3, pq7 4, pq7 5⟩) (fun hH => ?_)
     clear hK K
     try simp only [Act.put, pX]
     refine wT (i := 7) (v := ?_) rfl (by kernel_rfl) (by kernel_rfl) (by kernel_rfl) (fun _ _ _ h => h) (Or.inl ⟨by rfl, ?_⟩) (by assumption) ?_
     rotate_left 1
     ·(intro w hSw; (try dsimp only at hSw); go_simp; try with_reducible rfl)
     simp only [Act.put, pX]
     refine wR (rs := [8]) (by kernel_rfl) (by simp) ?_
     refine aC rfl (fun K hK => ?_) aN
     go_simp
     refine hK.out _ _ (by (try dsimp only); exact ⟨pq8 2, pq8 3, pq8 4, pq8 5⟩) (fun hH => ?_)
     clear hK K
     try simp only [Act.put, pX]
     refine wD (by kernel_rfl) ?_ _
     have hz7 := hst.size
     have hz6 := h7.size
     have hz5 := Kd.size
     have hgl7 := B7.lt
     have hapq : ∀ b, OwnB An b → OwnB A7 b → False := fun b h1 h2 => by
      have h3 := HLOW.out b h1
      rcases q7 b h2 with h4 | h4
      ·have := hS b (hA2 b h4).1; omega
      ·omega
     have T := MineCW.arrive (r := ⟨s.card, An, n, cn⟩) (T1 := OwnB An) (T7 := OwnB A7) (n7 := H.n2 + 1) mc hS hrq MQ.inners MQ.apart hA2 ((Only.of_below Kd).trans h7) (fun b hb => .inl hb) ⟨own_base (own_only on2 h7 (fun b h1 h2 => by have := hS b (hA2 b h2).1; have := (HLOW.out b h1).1; omega)) (Nat.zero_le _), fun b hb => hb⟩ (fun b hb => by have := HLOW.out b hb; exact ⟨by omega, by omega⟩) ⟨by rw [flat_snoc]; exact o7, fun b hb => hb⟩ (fun b hb => (q7 b hb).imp id fun h => ⟨by omega, (own_top o7 hb).2⟩) hapq
     have T2 := (T.toW.only hst (fun b h1 (h2 : b = g) => by
      rcases h1 with h1 | h1
      ·exact hg (h2 ▸ h1)
      ·have := B.lt; omega)).wide (T := fun b => b ≠ g ∧ w.heap.size + 3 ≤ b ∧ b < (w7.setCell ⟨g, 2, none⟩ (.slice A7 (H.n2 + 1) c7)).heap.size) (fun b h1 => by
      rcases h1 with h1 | h1
      ·exact ⟨(hS2 b h1).1, (hS2 b h1).2, by have := hS b h1; omega⟩
      ·have := B.lt; exact ⟨by omega, by omega, by omega⟩)
     have K8 := K7.trans (hst.below (fun b hb => by omega) K7.size)
     have R8 := R7.only hst (fun h => by omega)
     go_wp2_with fail
     go_meet
     exact ⟨by rw [HOK.out], by rw [HOUT.out]; exact ⟨⟨H.A0, H.n0, H.c0, H.A1, H.n1, H.c1, A7, H.n2 + 1, c7, H.A3, H.n3, H.c3, H.A4, H.n4, H.c4⟩, B8, T2, own_cap o7, R8, K8⟩⟩
  by_cases k2 : s.kind = 2
  ·have HOUT0 := Lib.hid (show makeOut d s = if d.queue.length = 0 then d else checkD d by unfold makeOut; rw [if_neg k1, if_pos k2])
   have HOK0 := Lib.hid (show makeOk d s = decide (0 < d.queue.length) by unfold makeOk; rw [if_neg k1, if_pos k2])
   have f1 : (s.kind == 1) = false := beq_eq_false_iff_ne.2 k1
   have f2 : (s.kind == 2) = true := beq_iff_eq.2 k2
   clear k1 k2
   have pd := P.cell
   have hdl := Lib.hid (SM.lens HS).2.2.1
   rcases Nat.eq_zero_or_pos h.n2 with hq0 | hq0
   ·have e0 : ((h.n2 : Int) == 0) = true := beq_iff_eq.2 (by omega)
    have e1 : (h.n2 == 0) = true := beq_iff_eq.2 hq0
    have hdq : d.queue.length = 0 := by rw [← hdl.out]; exact hq0
    have HO := Lib.hid (show makeOut d s = d by rw [HOUT0.out, if_pos hdq])
    have HB := Lib.hid (show makeB d s = false by unfold makeB; rw [HOK0.out]; simp [hdq])
    have HN := Lib.hid hq0
    clear HOK0 HOUT0 hq0 hdq
    have rc := R.cell
    have rf := R.frozen
    go_wp2_with fail
    refine bodyPost_ret (v := .tuple #[.agg #[.slice H.A0 H.n0 H.c0, .slice H.A1 H.n1 H.c1, .slice H.A2 H.n2 H.c2, .slice H.A3 H.n3 H.c3, .slice H.A4 H.n4 H.c4], .bool false]) (by simp [results, Tryz.results37, go_sem, rc]) rfl ?_
    rw [HB.out, HO.out]
    have E := ((((((Only.refl (fun b => b = w.heap.size + 1 + 1) w3).setCell (p := ⟨w.heap.size + 1 + 1, 0, none⟩) rfl (.slice H.A0 H.n0 H.c0)).setCell (p := ⟨w.heap.size + 1 + 1, 1, none⟩) rfl (.slice H.A1 H.n1 H.c1)).setCell (p := ⟨w.heap.size + 1 + 1, 2, none⟩) rfl (.slice H.A2 H.n2 H.c2)).setCell (p := ⟨w.heap.size + 1 + 1, 3, none⟩) rfl (.slice H.A3 H.n3 H.c3)).setCell (p := ⟨w.heap.size + 1 + 1, 4, none⟩) rfl (.slice H.A4 H.n4 H.c4))
    have zF := E.size
    have hgl := B.lt
    have M4 := (MineD.toW ⟨col, mc, rsq, hrq, MQ⟩).only E (fun b h1 h2 => by have := (hS2 b h1).2; omega)
    exact ⟨H, rfl, M4.wide (fun b hb => by have := (hS2 b hb).2; have := hS b hb; exact ⟨by omega, by omega⟩), C2, Kq.trans (E.below (fun k hk => by omega) Kq.size)⟩
   have e0 : ((h.n2 : Int) == 0) = false := beq_eq_false_iff_ne.2 (by omega)
   have e1 : (h.n2 == 0) = false := beq_eq_false_iff_ne.2 (by omega)
   have hdq : d.queue.length = (d.queue.length - 1) + 1 := by have := hdl.out; omega
   have HOUT := Lib.hid (show makeOut d s = checkD d by rw [HOUT0.out, if_neg (by omega)])
   have HOK := Lib.hid (show makeOk d s = true by rw [HOK0.out]; exact decide_eq_true (by omega))
   have HDQ := Lib.hid hdq
   clear HOK0 HOUT0 hq0 hdq
   go_wp2_with fail
   refine (l25Check_any h d (d.queue.length - 1) _ HS SM HDQ.out).mono ?_
   rintro e w5 ⟨h2, rfl, M2, C5, b⟩
   have z5 := b.size
   have hgl := B.lt
   replace B := B.next b
   replace R := R.next b
   replace Kq := bel_then Kq b
   have z6 := B.lt
   clear pb pf pq pd b
   have pb := B.cell
   have pf := B.frozen
   have E := ((((((Only.refl (fun b => b = g) w5).setCell (p := ⟨g, 0, none⟩) rfl (.slice h2.A0 h2.n0 h2.c0)).setCell (p := ⟨g, 1, none⟩) rfl (.slice h2.A1 h2.n1 h2.c1)).setCell (p := ⟨g, 2, none⟩) rfl (.slice h2.A2 h2.n2 h2.c2)).setCell (p := ⟨g, 3, none⟩) rfl (.slice h2.A3 h2.n3 h2.c3)).setCell (p := ⟨g, 4, none⟩) rfl (.slice h2.A4 h2.n4 h2.c4))
   have B8 : Blk (((((w5.setCell ⟨g, 0, none⟩ (.slice h2.A0 h2.n0 h2.c0)).setCell ⟨g, 1, none⟩ (.slice h2.A1 h2.n1 h2.c1)).setCell ⟨g, 2, none⟩ (.slice h2.A2 h2.n2 h2.c2)).setCell ⟨g, 3, none⟩ (.slice h2.A3 h2.n3 h2.c3)).setCell ⟨g, 4, none⟩ (.slice h2.A4 h2.n4 h2.c4)) g 28 [.slice h2.A0 h2.n0 h2.c0, .slice h2.A1 h2.n1 h2.c1, .slice h2.A2 h2.n2 h2.c2, .slice h2.A3 h2.n3 h2.c3, .slice h2.A4 h2.n4 h2.c4] := (((((B.set_ 0 (.slice h2.A0 h2.n0 h2.c0)).set_ 1 (.slice h2.A1 h2.n1 h2.c1)).set_ 2 (.slice h2.A2 h2.n2 h2.c2)).set_ 3 (.slice h2.A3 h2.n3 h2.c3)).set_ 4 (.slice h2.A4 h2.n4 h2.c4))
   have R8 := R.only E (fun h => by omega)
   have K8 := Kq.trans (E.below (fun b hb => by omega) Kq.size)
   have zE := E.size
   have M8 := (M2.only E (fun b h1 (h2 : b = g) => by have := h1.1; omega)).wide (T := fun b => b ≠ g ∧ w.heap.size + 3 ≤ b ∧ b < ((((((w5.setCell ⟨g, 0, none⟩ (.slice h2.A0 h2.n0 h2.c0)).setCell ⟨g, 1, none⟩ (.slice h2.A1 h2.n1 h2.c1)).setCell ⟨g, 2, none⟩ (.slice h2.A2 h2.n2 h2.c2)).setCell ⟨g, 3, none⟩ (.slice h2.A3 h2.n3 h2.c3)).setCell ⟨g, 4, none⟩ (.slice h2.A4 h2.n4 h2.c4))).heap.size) (fun b hb => by have := hb.1; have := hb.2; exact ⟨by omega, by omega, by omega⟩)
   go_wp2_with fail
   go_meet
   exact ⟨by rw [HOK.out], by rw [HOUT.out]; exact ⟨h2, B8, M8, C5, R8, K8⟩⟩
  by_cases k3 : s.kind = 3
  ·have HOUT0 := Lib.hid (show makeOut d s = { d with known := if hasI d.known s.number then d.known else putI d.known s.number, queue := d.queue ++ withL d.trouble s.number, trouble := restL d.trouble s.number } by unfold makeOut; rw [if_neg k1, if_neg k2, if_pos k3])
   have HOK0 := Lib.hid (show makeOk d s = !hasI d.known s.number by unfold makeOk; rw [if_neg k1, if_neg k2, if_pos k3])
   have f1 : (s.kind == 1) = false := beq_eq_false_iff_ne.2 k1
   have f2 : (s.kind == 2) = false := beq_eq_false_iff_ne.2 k2
   have f3 : (s.kind == 3) = true := beq_iff_eq.2 k3
   clear k1 k2 k3
   have pd := P.cell
   have hhn : h.n1 ≤ 140737488355328 := by have := (SM.lens HS).2.1; have := SM.known; omega
   have hA2lt : ∀ b, OwnB H.A2 b → b < v3.heap.size := fun b hb => hSv b (hA2 b hb).1
   have HT6 := Lib.hid (fun b (hb : OwnB A6 b) => own_top PT.own6 hb)
   have hn5 : n5 ≤ 1000 := by
    have e1 := Sees.count (Sees.of_own PT.own5) (by decide) cardSh.len
    have e2 := MR.outer.sees.count (by decide) cardSh.len
    have e3 := List.length_filter_le (isH s.number) rs
    omega
   have hzv := PT.below.size
   have HA1 := mcv.f1.top
   cases hh : hasI d.known s.number
   ·have hnot : s.number ∉ d.known := fun hm => by rw [hasI_mem.2 hm] at hh; exact absurd hh (by decide)
    have HOUT := Lib.hid (show makeOut d s = { d with known := putI d.known s.number, queue := d.queue ++ withL d.trouble s.number, trouble := restL d.trouble s.number } by rw [HOUT0.out, hh]; rfl)
    have HOK := Lib.hid (show makeOk d s = true by rw [HOK0.out, hh]; rfl)
    have HH := Lib.hid hh
    clear hh HOUT0 HOK0
    go_upto_region 16 with (go_at_call 69
                            refine (l1Has_any h.A1 h.n1 h.c1 d.known s.number _ HS.f1 (by omega)).mono ?_
                            rw [HH.out]
                            rintro e w4 ⟨rfl, qq⟩
                            have b := qq.below w3.heap.size
                            clear pd
                            clear pb pf pq
                            replace B := B.next b
                            replace Q := Q.next b
                            replace R := R.next b
                            replace X := X.next b
                            replace mc := mc.next b
                            replace MQ := MQ.next b
                            replace P := P.next b
                            replace HS := HS.next b
                            replace Kq := bel_then Kq b
                            replace Kt := bel_then Kt b
                            replace hS := fun x (hx : S x) => Nat.lt_of_lt_of_le (hS x hx) b.size
                            have pb := B.cell
                            have pf := B.frozen
                            have pq := Q.cell
                            have pd := P.cell
                            have p5 := own_below PT.own5 b
                            have p6 := own_below PT.own6 b
                            have zb4 := b.size
                            clear b qq)
    go_wp2_with fail
    refine (l1Put_own H.A1 H.n1 H.c1 d.known s.number _ mc.f1.own (by omega) hnot).mono ?_
    rintro e w5 ⟨A7, c7, rfl, o7, b⟩
    obtain ⟨n7, hn7⟩ : ∃ n7, (putI d.known s.number).length = n7 := ⟨_, rfl⟩
    rw [hn7] at o7 ⊢
    have B5 := B.next b
    have R5 := R.next b
    have MQ5 := MQ.next b
    have p55 := own_below p5 b
    have p65 := own_below p6 b
    have K5 := bel_then Kq b
    have z5 := b.size
    have hst1 : Only (fun b => b = g) w5 (w5.setCell ⟨g, 1, none⟩ (.slice A7 n7 c7)) := (Only.refl (fun b => b = g) w5).setCell (p := ⟨g, 1, none⟩) rfl _
    have B6 := B5.set_ 1 (.slice A7 n7 c7)
    have hg5 := B5.lt
    have hgw4 := B.lt
    have R6 := R5.only hst1 (fun h => by omega)
    have MQ6 := MQ5.only hst1 (fun b h1 (h2 : b = g) => hg (h2 ▸ h1.1))
    have p56 := own_only p55 hst1 (fun b hb (e : b = g) => by have := (own_top p55 hb).1; omega)
    have p66 := own_only p65 hst1 (fun b hb (e : b = g) => by have := (own_top p65 hb).1; omega)
    have own1 := own_only o7 hst1 (fun b hb (e : b = g) => by have := (own_top o7 hb).1; omega)
    have K6 := K5.trans (hst1.below (fun b hb => by omega) K5.size)
    have z6 := hst1.size
    have HT7 := Lib.hid (fun b (hb : OwnB A7 b) => own_top o7 hb)
    have hAK : ∀ b, OwnB A7 b → Hue S col 1 b ∨ (v3.heap.size ≤ b ∧ b < ((w5.setCell ⟨g, 1, none⟩ (.slice A7 n7 c7))).heap.size) := fun b hb => .inr ⟨by have := HT7.out b hb; omega, by have := HT7.out b hb; omega⟩
    have hAK2 : ∀ b, OwnB A7 b → OwnB H.A2 b → False := fun b h1 h2 => by have := hA2lt b h2; have := (HT7.out b h1).1; omega
    have HTK := Lib.hid (fun b (hb : OwnB A7 b) => show b < ((w5.setCell ⟨g, 1, none⟩ (.slice A7 n7 c7))).heap.size by have := (HT7.out b hb).2; omega)
    have hAK6 : ∀ b, OwnB A7 b → OwnB A6 b → False := fun b h1 h2 => by have := (HT7.out b h1).1; have := (HT6.out b h2).2; omega
    have hO6 : Only (fun b => Hue S col 1 b ∨ OwnB H.A2 b ∨ b = g ∨ v3.heap.size ≤ b) v3 (w5.setCell ⟨g, 1, none⟩ (.slice A7 n7 c7)) := ((Only.of_below PT.below).trans (Only.of_below Kt)).trans ((Only.of_below b).trans (hst1.mono (fun b hb => .inr (.inr (.inl hb)))))
    have pb5 := B5.cell
    have pf5 := B5.frozen
    have pb6 := B6.cell
    have pf6 := B6.frozen
    have pq5 := (Q.next b).cell
    clear pb pf pq b
    go_wp2_with (at_builtin
                 go_loud (refine wpList_cat rfl _ _ _ rfl Tryz.underlying25 info_impl_Card rfl (by decide) rfl MQ6.outer.own rfl (m := n5) (Sees.of_own p56) (cards_all _) (show H.n2 ≤ 1000000000 by omega) (by omega) (by decide) (Nat.zero_le _) ?_)
                 intro A12 c12 w12 o12 h12 b12 q12
                 have B12 := B6.only h12 (fun h => hg (hA2 g h).1)
                 have R12 := R6.only h12 (fun h => by have := (hS2 _ (hA2 _ h).1).2; omega)
                 have f12 := B12.frozen
                 have pb12 := B12.cell)
    have hstA : Only (fun b => b = g) w12 ((w12.setCell ⟨g, 2, none⟩ (.slice A12 (H.n2 + n5) c12)).setCell ⟨g, 4, none⟩ (.slice A6 n6 c6)) := ((Only.refl (fun b => b = g) w12).setCell (p := ⟨g, 2, none⟩) rfl (.slice A12 (H.n2 + n5) c12)).setCell (p := ⟨g, 4, none⟩) rfl (.slice A6 n6 c6)
    have B13 := (B12.set_ 2 (.slice A12 (H.n2 + n5) c12)).set_ 4 (.slice A6 n6 c6)
    have z13 := h12.size
    have z14 := hstA.size
    have hg12 := B12.lt
    have T := MineCW.register (p := isH s.number) (T1 := OwnB A7) (T6 := OwnB A6) (T7 := OwnB A12) (kn := putI d.known s.number) (n1 := n7) (c1 := c7) (n7 := H.n2 + n5) (c7 := c12) (n6 := n6) (c6 := c6) mcv hSv MQv.inners MQv.apart hA2 MR.inners (hO6.trans (h12.mono (fun b hb => .inr (.inl hb)))) (fun b hb => by
      rcases hb with h | h | h | h
      ·exact .inl h
      ·exact .inr (.inl h)
      ·exact .inr (.inr (fun h2 => hg (h ▸ h2)))
      ·exact .inr (.inr (fun h2 => by have := hSv b h2; omega)))
     ⟨own_base (own_only own1 h12 (fun b h1 h2 => hAK2 b h1 h2)) (Nat.zero_le _), fun b hb => hb⟩ (fun b hb => (hAK b hb).imp id (fun h => ⟨h.1, by omega⟩))
     ⟨by rw [List.flatMap_append]; exact o12, fun b hb => hb⟩ (fun b hb => (q12 b hb).imp id (fun h => ⟨by omega, (own_top o12 hb).2⟩))
     ⟨own_base (own_only p66 h12 (fun b h1 h2 => by have := hA2lt b h2; have := (HT6.out b h1).1; omega)) (Nat.zero_le _), fun b hb => hb⟩ (fun b hb => by have := HT6.out b hb; exact ⟨by omega, by omega⟩)
     (fun b h1 h2 => by
       rcases q12 b h2 with h3 | h3
       ·exact hAK2 b h1 h3
       ·have := HTK.out b h1; omega)
     (fun b h1 h2 => hAK6 b h1 h2)
     (fun b h1 h2 => by
       rcases q12 b h1 with h3 | h3
       ·have := hA2lt b h3; have := (HT6.out b h2).1; omega
       ·have := (HT6.out b h2).2; omega)
    rw [List.map_append, hrq, with_map, rest_map, hrs] at T
    have T2 := (T.toW.only hstA (fun b h1 (h2 : b = g) => by
     rcases h1 with h1 | h1
     ·exact hg (h2 ▸ h1)
     ·omega)).wide (T := fun b => b ≠ g ∧ w.heap.size + 3 ≤ b ∧ b < (((w12.setCell ⟨g, 2, none⟩ (.slice A12 (H.n2 + n5) c12)).setCell ⟨g, 4, none⟩ (.slice A6 n6 c6))).heap.size) (fun b h1 => by
     rcases h1 with h1 | h1
     ·exact ⟨(hS2 b h1).1, (hS2 b h1).2, by have := hSv b h1; omega⟩
     ·exact ⟨by omega, by omega, by omega⟩)
    have K12 := K6.trans (h12.below (fun b hb => by have := (hS2 _ (hA2 _ hb).1).2; omega) K6.size)
    have K13 := K12.trans (hstA.below (fun b hb => by omega) K12.size)
    have R13 := R12.only hstA (fun h => by omega)
    go_meet
    exact ⟨by rw [HOK.out], by rw [HOUT.out]; exact ⟨⟨H.A0, H.n0, H.c0, A7, n7, c7, A12, H.n2 + n5, c12, H.A3, H.n3, H.c3, A6, n6, c6⟩, B13, T2, own_cap o12, R13, K13⟩⟩
   ·have HOUT := Lib.hid (show makeOut d s = { d with known := d.known, queue := d.queue ++ withL d.trouble s.number, trouble := restL d.trouble s.number } by rw [HOUT0.out, hh]; rfl)
    have HOK := Lib.hid (show makeOk d s = false by rw [HOK0.out, hh]; rfl)
    have HH := Lib.hid hh
    clear hh HOUT0 HOK0
    go_upto_region 17 with (go_at_call 69
                            refine (l1Has_any h.A1 h.n1 h.c1 d.known s.number _ HS.f1 (by omega)).mono ?_
                            rw [HH.out]
                            rintro e w4 ⟨rfl, qq⟩
                            have b := qq.below w3.heap.size
                            clear pd
                            clear pb pf pq
                            replace B := B.next b
                            replace Q := Q.next b
                            replace R := R.next b
                            replace X := X.next b
                            replace mc := mc.next b
                            replace MQ := MQ.next b
                            replace P := P.next b
                            replace HS := HS.next b
                            replace Kq := bel_then Kq b
                            replace Kt := bel_then Kt b
                            replace hS := fun x (hx : S x) => Nat.lt_of_lt_of_le (hS x hx) b.size
                            have pb := B.cell
                            have pf := B.frozen
                            have pq := Q.cell
                            have pd := P.cell
                            have p5 := own_below PT.own5 b
                            have p6 := own_below PT.own6 b
                            have zb4 := b.size
                            clear b qq)
    have B6 := B
    have R6 := R
    have MQ6 := MQ
    have p56 := p5
    have p66 := p6
    have own1 := mc.f1.own
    have K6 := Kq
    have zz6 := hzv
    have hAK : ∀ b, OwnB H.A1 b → Hue S col 1 b ∨ (v3.heap.size ≤ b ∧ b < w4.heap.size) := fun b hb => .inl (HA1 b hb)
    have hAK2 : ∀ b, OwnB H.A1 b → OwnB H.A2 b → False := fun b h1 h2 => Hue.apart (by decide) b (HA1 b h1) (hA2 b h2)
    have HTK := Lib.hid (fun b (hb : OwnB H.A1 b) => hS b (HA1 b hb).1)
    have hAK6 : ∀ b, OwnB H.A1 b → OwnB A6 b → False := fun b h1 h2 => by have := hSv b (HA1 b h1).1; have := (HT6.out b h2).1; omega
    have hO6 : Only (fun b => Hue S col 1 b ∨ OwnB H.A2 b ∨ b = g ∨ v3.heap.size ≤ b) v3 w4 := (Only.of_below PT.below).trans (Only.of_below Kt)
    go_wp2_with (at_builtin
                 go_loud (refine wpList_cat rfl _ _ _ rfl Tryz.underlying25 info_impl_Card rfl (by decide) rfl MQ6.outer.own rfl (m := n5) (Sees.of_own p56) (cards_all _) (show H.n2 ≤ 1000000000 by omega) (by omega) (by decide) (Nat.zero_le _) ?_)
                 intro A12 c12 w12 o12 h12 b12 q12
                 have B12 := B6.only h12 (fun h => hg (hA2 g h).1)
                 have R12 := R6.only h12 (fun h => by have := (hS2 _ (hA2 _ h).1).2; omega)
                 have f12 := B12.frozen
                 have pb12 := B12.cell)
    have hstA : Only (fun b => b = g) w12 ((w12.setCell ⟨g, 2, none⟩ (.slice A12 (H.n2 + n5) c12)).setCell ⟨g, 4, none⟩ (.slice A6 n6 c6)) := ((Only.refl (fun b => b = g) w12).setCell (p := ⟨g, 2, none⟩) rfl (.slice A12 (H.n2 + n5) c12)).setCell (p := ⟨g, 4, none⟩) rfl (.slice A6 n6 c6)
    have B13 := (B12.set_ 2 (.slice A12 (H.n2 + n5) c12)).set_ 4 (.slice A6 n6 c6)
    have z13 := h12.size
    have z14 := hstA.size
    have hg12 := B12.lt
    have T := MineCW.register (p := isH s.number) (T1 := OwnB H.A1) (T6 := OwnB A6) (T7 := OwnB A12) (kn := d.known) (n1 := H.n1) (c1 := H.c1) (n7 := H.n2 + n5) (c7 := c12) (n6 := n6) (c6 := c6) mcv hSv MQv.inners MQv.apart hA2 MR.inners (hO6.trans (h12.mono (fun b hb => .inr (.inl hb)))) (fun b hb => by
      rcases hb with h | h | h | h
      ·exact .inl h
      ·exact .inr (.inl h)
      ·exact .inr (.inr (fun h2 => hg (h ▸ h2)))
      ·exact .inr (.inr (fun h2 => by have := hSv b h2; omega)))
     ⟨own_base (own_only own1 h12 (fun b h1 h2 => hAK2 b h1 h2)) (Nat.zero_le _), fun b hb => hb⟩ (fun b hb => (hAK b hb).imp id (fun h => ⟨h.1, by omega⟩))
     ⟨by rw [List.flatMap_append]; exact o12, fun b hb => hb⟩ (fun b hb => (q12 b hb).imp id (fun h => ⟨by omega, (own_top o12 hb).2⟩))
     ⟨own_base (own_only p66 h12 (fun b h1 h2 => by have := hA2lt b h2; have := (HT6.out b h1).1; omega)) (Nat.zero_le _), fun b hb => hb⟩ (fun b hb => by have := HT6.out b hb; exact ⟨by omega, by omega⟩)
     (fun b h1 h2 => by
       rcases q12 b h2 with h3 | h3
       ·exact hAK2 b h1 h3
       ·have := HTK.out b h1; omega)
     (fun b h1 h2 => hAK6 b h1 h2)
     (fun b h1 h2 => by
       rcases q12 b h1 with h3 | h3
       ·have := hA2lt b h3; have := (HT6.out b h2).1; omega
       ·have := (HT6.out b h2).2; omega)
    rw [List.map_append, hrq, with_map, rest_map, hrs] at T
    have T2 := (T.toW.only hstA (fun b h1 (h2 : b = g) => by
     rcases h1 with h1 | h1
     ·exact hg (h2 ▸ h1)
     ·omega)).wide (T := fun b => b ≠ g ∧ w.heap.size + 3 ≤ b ∧ b < (((w12.setCell ⟨g, 2, none⟩ (.slice A12 (H.n2 + n5) c12)).setCell ⟨g, 4, none⟩ (.slice A6 n6 c6))).heap.size) (fun b h1 => by
     rcases h1 with h1 | h1
     ·exact ⟨(hS2 b h1).1, (hS2 b h1).2, by have := hSv b h1; omega⟩
     ·exact ⟨by omega, by omega, by omega⟩)
    have K12 := K6.trans (h12.below (fun b hb => by have := (hS2 _ (hA2 _ hb).1).2; omega) K6.size)
    have K13 := K12.trans (hstA.below (fun b hb => by omega) K12.size)
    have R13 := R12.only hstA (fun h => by omega)
    go_meet
    exact ⟨by rw [HOK.out], by rw [HOUT.out]; exact ⟨⟨H.A0, H.n0, H.c0, H.A1, H.n1, H.c1, A12, H.n2 + n5, c12, H.A3, H.n3, H.c3, A6, n6, c6⟩, B13, T2, own_cap o12, R13, K13⟩⟩
  have HOUT := Lib.hid (show makeOut d s = { d with trouble := restL d.trouble s.number } by unfold makeOut; rw [if_neg k1, if_neg k2, if_neg k3])
  have HOK := Lib.hid (show makeOk d s = decide (0 < (withL d.trouble s.number).length) by unfold makeOk; rw [if_neg k1, if_neg k2, if_neg k3])
  have f1 : (s.kind == 1) = false := beq_eq_false_iff_ne.2 k1
  have f2 : (s.kind == 2) = false := beq_eq_false_iff_ne.2 k2
  have f3 : (s.kind == 3) = false := beq_eq_false_iff_ne.2 k3
  clear k1 k2 k3
  have hn5 := Sees.count (Sees.of_own PT.own5) (by decide) cardSh.len
  have hwl : (withL d.trouble s.number).length = n5 := by rw [← hrs, ← with_map, List.length_map]; exact hn5
  have hgt : decide ((0 : Int) < (n5 : Int)) = decide (0 < (withL d.trouble s.number).length) := by rw [hwl]; simp
  have hgn : decide (0 < n5) = decide (0 < (withL d.trouble s.number).length) := by rw [hwl]
  have hst : Only (fun b => b = g) w3 (w3.setCell ⟨g, 4, none⟩ (.slice A6 n6 c6)) := (Only.refl (fun b => b = g) w3).setCell (p := ⟨g, 4, none⟩) rfl _
  have hz5 := PT.below.size
  have hz7 := hst.size
  have hgl := B.lt
  have T := MineCW.refuse (p := isH s.number) (T6 := OwnB A6) (n6 := n6) (c6 := c6) mcv ⟨rsq, hrq, MQv⟩ hSv MR.inners (Only.of_below (S := fun _ => False) PT.below) (fun b hb => hb.elim) ⟨own_base PT.own6 (Nat.zero_le _), fun b hb => hb⟩ (fun b hb => own_top PT.own6 hb)
  rw [rest_map, hrs] at T
  have T2 := (T.toW.only hst (fun b h1 (h2 : b = g) => by
   rcases h1 with h1 | h1
   ·exact hg (h2 ▸ h1)
   ·omega)).wide (T := fun b => b ≠ g ∧ w.heap.size + 3 ≤ b ∧ b < (w3.setCell ⟨g, 4, none⟩ (.slice A6 n6 c6)).heap.size) (fun b h1 => by
   rcases h1 with h1 | h1
   ·exact ⟨(hS2 b h1).1, (hS2 b h1).2, by have := hS b h1; omega⟩
   ·exact ⟨by omega, by omega, by omega⟩)
  have K8 := Kq.trans (hst.below (fun b hb => by omega) Kq.size)
  have R8 := R.only hst (fun h => by omega)
  have B8 := B.set_ 4 (.slice A6 n6 c6)
  clear hn5 hwl
  go_wp2_with fail
  go_meet
  exact ⟨by rw [HOK.out], by rw [HOUT.out]; exact ⟨⟨H.A0, H.n0, H.c0, H.A1, H.n1, H.c1, H.A2, H.n2, H.c2, H.A3, H.n3, H.c3, A6, n6, c6⟩, B8, T2, C2, R8, K8⟩⟩
 case rest =>
  obtain ⟨rfl, H9, B, M, C9, R, Kq⟩ := hcut
  replace R : Blk wc (w.heap.size + 1 + 1) 28 [.slice none 0 0, .slice none 0 0, .slice none 0 0, .slice none 0 0, .slice none 0 0] := R
  have hgl := B.lt
  have bD0 := (Quiet.one wc).below wc.heap.size
  have BD := B.next bD0
  have RD := R.next bD0
  have MD := M.next bD0
  have KD := bel_then Kq bD0
  have bc0 := BD.cell
  have bcw := B.cell
  have rcw := R.cell
  have rfw := R.frozen
  cases hok : makeOk d s
  ·have HB := Lib.hid (show makeB d s = false by unfold makeB; rw [hok]; rfl)
   have HOK := Lib.hid hok
   clear hok
   have E := ((((((Only.refl (fun b => b = w.heap.size + 1 + 1) wc).setCell (p := ⟨w.heap.size + 1 + 1, 0, none⟩) rfl (.slice H9.A0 H9.n0 H9.c0)).setCell (p := ⟨w.heap.size + 1 + 1, 1, none⟩) rfl (.slice H9.A1 H9.n1 H9.c1)).setCell (p := ⟨w.heap.size + 1 + 1, 2, none⟩) rfl (.slice H9.A2 H9.n2 H9.c2)).setCell (p := ⟨w.heap.size + 1 + 1, 3, none⟩) rfl (.slice H9.A3 H9.n3 H9.c3)).setCell (p := ⟨w.heap.size + 1 + 1, 4, none⟩) rfl (.slice H9.A4 H9.n4 H9.c4))
   have bD := (Quiet.one (((((wc.setCell ⟨w.heap.size + 1 + 1, 0, none⟩ (.slice H9.A0 H9.n0 H9.c0)).setCell ⟨w.heap.size + 1 + 1, 1, none⟩ (.slice H9.A1 H9.n1 H9.c1)).setCell ⟨w.heap.size + 1 + 1, 2, none⟩ (.slice H9.A2 H9.n2 H9.c2)).setCell ⟨w.heap.size + 1 + 1, 3, none⟩ (.slice H9.A3 H9.n3 H9.c3)).setCell ⟨w.heap.size + 1 + 1, 4, none⟩ (.slice H9.A4 H9.n4 H9.c4))).below ((((((wc.setCell ⟨w.heap.size + 1 + 1, 0, none⟩ (.slice H9.A0 H9.n0 H9.c0)).setCell ⟨w.heap.size + 1 + 1, 1, none⟩ (.slice H9.A1 H9.n1 H9.c1)).setCell ⟨w.heap.size + 1 + 1, 2, none⟩ (.slice H9.A2 H9.n2 H9.c2)).setCell ⟨w.heap.size + 1 + 1, 3, none⟩ (.slice H9.A3 H9.n3 H9.c3)).setCell ⟨w.heap.size + 1 + 1, 4, none⟩ (.slice H9.A4 H9.n4 H9.c4))).heap.size
   have bcE := ((B.only E (fun h => by omega)).next bD).cell
   go_wp2_with fail
   refine wp_region_held_drew (S := fun w' => w'.cell? ⟨g, 0, none⟩ = some (.slice H9.A0 H9.n0 H9.c0) ∧ w'.cell? ⟨g, 1, none⟩ = some (.slice H9.A1 H9.n1 H9.c1) ∧ w'.cell? ⟨g, 2, none⟩ = some (.slice H9.A2 H9.n2 H9.c2) ∧ w'.cell? ⟨g, 3, none⟩ = some (.slice H9.A3 H9.n3 H9.c3) ∧ w'.cell? ⟨g, 4, none⟩ = some (.slice H9.A4 H9.n4 H9.c4)) (by kernel_rfl) (by (try dsimp only); exact ⟨bc0 0, bc0 1, bc0 2, bc0 3, bc0 4⟩) (fun hH => ?_)
   refine wT (i := 0) (v := ?_) rfl (by kernel_rfl) (by kernel_rfl) (by kernel_rfl) (fun _ _ _ h => h) (Or.inl ⟨by rfl, ?_⟩) (by assumption) ?_
   rotate_left 1
   ·(intro w hSw; (try dsimp only at hSw); go_simp; try with_reducible rfl)
   simp only [Act.put, pX]
   refine wT (i := 1) (v := ?_) rfl (by kernel_rfl) (by kernel_rfl) (by kernel_rfl) (fun _ _ _ h => h) (Or.inl ⟨by rfl, ?_⟩) (by assumption) ?_
   rotate_left 1
   ·(intro w hSw; (try dsimp only at hSw); go_simp; try with_reducible rfl)
   simp only [Act.put, pX]
   refine wT (i := 2) (v := ?_) rfl (by kernel_rfl) (by kernel_rfl) (by kernel_rfl) (fun _ _ _ h => h) (Or.inl ⟨by rfl, ?_⟩) (by assumption) ?_
   rotate_left 1
   ·(intro w hSw; (try dsimp only at hSw); go_simp; try with_reducible rfl)
   simp only [Act.put, pX]
   refine wT (i := 3) (v := undef) rfl (by kernel_rfl) (by kernel_rfl) (by kernel_rfl) (fun _ _ _ h => h) (Or.inr ⟨by rfl, rfl⟩) (by assumption) ?_
   simp only [Act.put, pX]
   refine wT (i := 4) (v := undef) rfl (by kernel_rfl) (by kernel_rfl) (by kernel_rfl) (fun _ _ _ h => h) (Or.inr ⟨by rfl, rfl⟩) (by assumption) ?_
   simp only [Act.put, pX]
   refine wT (i := 5) (v := ?_) rfl (by kernel_rfl) (by kernel_rfl) (by kernel_rfl) (fun _ _ _ h => h) (Or.inl ⟨by rfl, ?_⟩) (by assumption) ?_
   rotate_left 1
   ·(intro w hSw; (try dsimp only at hSw); go_simp; try with_reducible rfl)
   simp only [Act.put, pX]
   refine wR (rs := [6]) (by kernel_rfl) (by simp) ?_
   refine aC rfl (fun K hK => ?_) aN
   go_simp
   refine hK.out _ _ (by (try dsimp only); exact ⟨bcE 0, bcE 1, bcE 2, bcE 3, bcE 4⟩) (fun hH => ?_)
   clear hK K
   try simp only [Act.put, pX]
   refine wT (i := 7) (v := ?_) rfl (by kernel_rfl) (by kernel_rfl) (by kernel_rfl) (fun _ _ _ h => h) (Or.inl ⟨by rfl, ?_⟩) (by assumption) ?_
   rotate_left 1
   ·(intro w hSw; (try dsimp only at hSw); go_simp; try with_reducible rfl)
   simp only [Act.put, pX]
   refine wD (by kernel_rfl) ?_ _
   go_wp2_with fail
   refine bodyPost_ret (v := .tuple #[.agg #[.slice H9.A0 H9.n0 H9.c0, .slice H9.A1 H9.n1 H9.c1, .slice H9.A2 H9.n2 H9.c2, .slice H9.A3 H9.n3 H9.c3, .slice H9.A4 H9.n4 H9.c4], .bool false]) (by simp [results, Tryz.results37, go_sem, rcw]) rfl ?_
   rw [HB.out]
   have zF := E.size
   have zD := bD.size
   have M4 := (M.only E (fun b h1 h2 => by have := h1.2.1; omega)).next bD
   exact ⟨H9, rfl, M4.wide (fun b hb => by have := hb.2.1; have := hb.2.2; exact ⟨by omega, by omega⟩), C9, bel_then (Kq.trans (E.below (fun k hk => by omega) Kq.size)) bD⟩
  ·have HB := Lib.hid (show makeB d s = deskB (makeOut d s) by unfold makeB; rw [hok]; rfl)
   have F9 := (make_small SM hval hok).fit M.desk.sees (u := 1048576) (by decide) (by decide)
   have G9 := M.cap3
   have MS := MD.desk.sees
   have HOK := Lib.hid hok
   clear hok
   go_wp2_with fail
   refine wp_region_held_drew (S := fun w' => w'.cell? ⟨g, 0, none⟩ = some (.slice H9.A0 H9.n0 H9.c0) ∧ w'.cell? ⟨g, 1, none⟩ = some (.slice H9.A1 H9.n1 H9.c1) ∧ w'.cell? ⟨g, 2, none⟩ = some (.slice H9.A2 H9.n2 H9.c2) ∧ w'.cell? ⟨g, 3, none⟩ = some (.slice H9.A3 H9.n3 H9.c3) ∧ w'.cell? ⟨g, 4, none⟩ = some (.slice H9.A4 H9.n4 H9.c4)) (by kernel_rfl) (by (try dsimp only); first | exact ⟨bc0 0, bc0 1, bc0 2, bc0 3, bc0 4⟩ | exact ⟨bc5 0, bc5 1, bc5 2, bc5 3, bc5 4⟩) (fun hH => ?_)
   refine wT (i := 0) (v := ?_) rfl (by kernel_rfl) (by kernel_rfl) (by kernel_rfl) (fun _ _ _ h => h) (Or.inl ⟨by rfl, ?_⟩) (by assumption) ?_
   rotate_left 1
   ·(intro w hSw; (try dsimp only at hSw); go_simp; try with_reducible rfl)
   simp only [Act.put, pX]
   refine wT (i := 1) (v := ?_) rfl (by kernel_rfl) (by kernel_rfl) (by kernel_rfl) (fun _ _ _ h => h) (Or.inl ⟨by rfl, ?_⟩) (by assumption) ?_
   rotate_left 1
   ·(intro w hSw; (try dsimp only at hSw); go_simp; try with_reducible rfl)
   simp only [Act.put, pX]
   refine wT (i := 2) (v := ?_) rfl (by kernel_rfl) (by kernel_rfl) (by kernel_rfl) (fun _ _ _ h => h) (Or.inl ⟨by rfl, ?_⟩) (by assumption) ?_
   rotate_left 1
   ·(intro w hSw; (try dsimp only at hSw); go_simp; try with_reducible rfl)
   simp only [Act.put, pX]
   refine wT (i := 3) (v := ?_) rfl (by kernel_rfl) (by kernel_rfl) (by kernel_rfl) (fun _ _ _ h => h) (Or.inl ⟨by rfl, ?_⟩) (by assumption) ?_
   rotate_left 1
   ·(intro w hSw; (try dsimp only at hSw); go_simp; try with_reducible rfl)
   simp only [Act.put, pX]
   refine wR (rs := [4]) (by kernel_rfl) (by simp) ?_
   refine aC rfl (fun K hK => ?_) aN
   go_simp
   refine (l25Good_any H9 (makeOut d s) _ MS F9 G9).mono ?_
   rintro e w5 ⟨rfl, b⟩
   have B5 := BD.next b
   have R5 := RD.next b
   have M5 := MD.next b
   have K5 := bel_then KD b
   have zd := b.size
   have zd0 := bD0.size
   have bc5 := B5.cell
   have rc5 := R5.cell
   have rf5 := R5.frozen
   have E := ((((((Only.refl (fun b => b = w.heap.size + 1 + 1) w5).setCell (p := ⟨w.heap.size + 1 + 1, 0, none⟩) rfl (.slice H9.A0 H9.n0 H9.c0)).setCell (p := ⟨w.heap.size + 1 + 1, 1, none⟩) rfl (.slice H9.A1 H9.n1 H9.c1)).setCell (p := ⟨w.heap.size + 1 + 1, 2, none⟩) rfl (.slice H9.A2 H9.n2 H9.c2)).setCell (p := ⟨w.heap.size + 1 + 1, 3, none⟩) rfl (.slice H9.A3 H9.n3 H9.c3)).setCell (p := ⟨w.heap.size + 1 + 1, 4, none⟩) rfl (.slice H9.A4 H9.n4 H9.c4))
   have bcE := (B5.only E (fun h => by omega)).cell
   go_wp2_with fail
   refine hK.out _ _ (by (try dsimp only); first | exact ⟨bc0 0, bc0 1, bc0 2, bc0 3, bc0 4⟩ | exact ⟨bc5 0, bc5 1, bc5 2, bc5 3, bc5 4⟩) (fun hH => ?_)
   clear hK K
   refine wT (i := 5) (v := ?_) rfl (by kernel_rfl) (by kernel_rfl) (by kernel_rfl) (fun _ _ _ h => h) (Or.inl ⟨by rfl, ?_⟩) (by assumption) ?_
   rotate_left 1
   ·(intro w hSw; (try dsimp only at hSw); go_simp; try with_reducible rfl)
   simp only [Act.put, pX]
   refine wR (rs := [6]) (by kernel_rfl) (by simp) ?_
   refine aC rfl (fun K hK => ?_) aN
   go_simp
   refine hK.out _ _ (by (try dsimp only); exact ⟨bcE 0, bcE 1, bcE 2, bcE 3, bcE 4⟩) (fun hH => ?_)
   clear hK K
   try simp only [Act.put, pX]
   refine wT (i := 7) (v := ?_) rfl (by kernel_rfl) (by kernel_rfl) (by kernel_rfl) (fun _ _ _ h => h) (Or.inl ⟨by rfl, ?_⟩) (by assumption) ?_
   rotate_left 1
   ·(intro w hSw; (try dsimp only at hSw); go_simp; try with_reducible rfl)
   simp only [Act.put, pX]
   refine wD (by kernel_rfl) ?_ _
   go_wp2_with fail
   refine bodyPost_ret (v := .tuple #[.agg #[.slice H9.A0 H9.n0 H9.c0, .slice H9.A1 H9.n1 H9.c1, .slice H9.A2 H9.n2 H9.c2, .slice H9.A3 H9.n3 H9.c3, .slice H9.A4 H9.n4 H9.c4], .bool (deskB (makeOut d s))]) (by simp [results, Tryz.results37, go_sem, rc5]) rfl ?_
   rw [HB.out]
   have zF := E.size
   have M4 := M5.only E (fun b h1 h2 => by have := h1.2.1; omega)
   exact ⟨H9, rfl, M4.wide (fun b hb => by have := hb.2.1; have := hb.2.2; exact ⟨by omega, by omega⟩), C9, K5.trans (E.below (fun k hk => by omega) K5.size)⟩

end Go.Proofs.YtkimlajfhepfgaaGreat

namespace Go.Proofs.YtkimlajfhepfgaaGreat
open Go.RowKit

set_option maxRecDepth 100000 in
set_option maxHeartbeats 4000000 in
theorem l25Step_any (A : Option Addr) (n c : Nat) (s : DeskStep) (w : World) (hx : Sees w 0 2 A n (s.card.punches.flatMap Punch.enc)) (hn : n ≤ 1048576) :
    Calls Tryz.prog 36 #[.agg #[.int .i64 s.kind, .int .i64 s.number, .int .i64 s.cnumber, .int .i64 s.cstart, .int .i64 s.cfinish, .slice A n c]] w fun e w' => e = .returned (.bool (validS s)) ∧ Below w.heap.size w w' := by
  have K0 : Below w.heap.size w (w.alloc (.cells #[.int .i64 s.kind, .int .i64 s.number, .int .i64 s.cnumber, .int .i64 s.cstart, .int .i64 s.cfinish, .slice A n c] 33)) := (Below.refl _ _).alloc (Nat.le_refl _) _
  have P : Blk (w.alloc (.cells #[.int .i64 s.kind, .int .i64 s.number, .int .i64 s.cnumber, .int .i64 s.cstart, .int .i64 s.cfinish, .slice A n c] 33)) w.heap.size 33 [.int .i64 s.kind, .int .i64 s.number, .int .i64 s.cnumber, .int .i64 s.cstart, .int .i64 s.cfinish, .slice A n c] := Blk.at_ rfl
  have X := hx.next K0
  go_enter Tryz.func36, Tryz.ntmps36
  go_upto_block 0 with fail
  generalize w.alloc (.cells #[.int .i64 s.kind, .int .i64 s.number, .int .i64 s.cnumber, .int .i64 s.cstart, .int .i64 s.cfinish, .slice A n c] 33) = w3 at *
  have pb := P.cell
  by_cases k1 : s.kind = 1
  · have HV := Lib.hid (show validS s = (decide (s.number = 0) && finB s.card) by unfold validS; rw [if_pos k1])
    have f1 : (s.kind == 1) = true := beq_iff_eq.2 k1
    clear k1
    by_cases n0 : s.number = 0
    rotate_left 1
    · have f2 : (s.number == 0) = false := beq_eq_false_iff_ne.2 n0
      have HR := Lib.hid (show validS s = false by rw [HV.out]; simp [n0])
      clear n0 HV
      go_wp2_with fail
      go_ret
      exact ⟨ret_bool HR.out.symm, K0⟩
    have f2 : (s.number == 0) = true := beq_iff_eq.2 n0
    cases hc : cardB s.card
    · have HR := Lib.hid (show validS s = false by rw [HV.out]; unfold finB; rw [hc]; simp)
      have HC := Lib.hid hc
      clear n0 HV hc
      go_wp2_with (go_at_call 80
                   refine (l12Card_any A n c 0 s.card _ X hn).mono ?_
                   rw [HC.out]
                   rintro e w4 ⟨rfl, b⟩
                   replace P := P.next b
                   clear pb
                   have pb := P.cell
                   replace K0 := bel_then K0 b
                   clear b)
      go_ret
      exact ⟨ret_bool HR.out.symm, K0⟩
    have HR := Lib.hid (show validS s = decide (s.card.finish ≠ -1) by rw [HV.out]; unfold finB; rw [hc]; simp [n0])
    have HC := Lib.hid hc
    clear n0 HV hc
    by_cases hf : s.cfinish = -1
    · have f3 : (s.cfinish == -1) = true := beq_iff_eq.2 hf
      have f4 : (s.cfinish != -1) = false := by simp [hf]
      have HR2 := Lib.hid (show validS s = false by rw [HR.out]; exact decide_eq_false (fun h => h hf))
      clear hf
      go_wp2_with (go_at_call 80
                   refine (l12Card_any A n c 0 s.card _ X hn).mono ?_
                   rw [HC.out]
                   rintro e w4 ⟨rfl, b⟩
                   replace P := P.next b
                   clear pb
                   have pb := P.cell
                   replace K0 := bel_then K0 b
                   clear b)
      go_ret
      exact ⟨ret_bool HR2.out.symm, K0⟩
    · have f3 : (s.cfinish == -1) = false := beq_eq_false_iff_ne.2 hf
      have f4 : (s.cfinish != -1) = true := by simp [hf]
      have HR2 := Lib.hid (show validS s = true by rw [HR.out]; exact decide_eq_true hf)
      clear hf
      go_wp2_with (go_at_call 80
                   refine (l12Card_any A n c 0 s.card _ X hn).mono ?_
                   rw [HC.out]
                   rintro e w4 ⟨rfl, b⟩
                   replace P := P.next b
                   clear pb
                   have pb := P.cell
                   replace K0 := bel_then K0 b
                   clear b)
      go_ret
      exact ⟨ret_bool HR2.out.symm, K0⟩
  have f1 : (s.kind == 1) = false := beq_eq_false_iff_ne.2 k1
  by_cases k2 : s.kind = 2
  · have HV := Lib.hid (show validS s = (decide (s.number = 0) && zeroB s.card) by unfold validS; rw [if_neg k1, if_pos k2])
    have f2 : (s.kind == 2) = true := beq_iff_eq.2 k2
    clear k1 k2
    by_cases n0 : s.number = 0
    rotate_left 1
    · have f3 : (s.number == 0) = false := beq_eq_false_iff_ne.2 n0
      have HR := Lib.hid (show validS s = false by rw [HV.out]; simp [n0])
      clear n0 HV
      go_wp2_with fail
      go_ret
      exact ⟨ret_bool HR.out.symm, K0⟩
    have f3 : (s.number == 0) = true := beq_iff_eq.2 n0
    have HR := Lib.hid (show validS s = zeroB s.card by rw [HV.out]; simp [n0])
    clear n0 HV
    obtain ⟨zb, hz⟩ : ∃ zb, zeroB s.card = zb := ⟨_, rfl⟩
    have HZ := Lib.hid hz
    have HR2 := Lib.hid (HR.out.trans hz)
    clear hz HR
    go_wp2_with (go_at_call 81
                 refine (l21None_any A n c 0 s.card _ X).mono ?_
                 rw [HZ.out]
                 rintro e w4 ⟨rfl, b⟩
                 replace K0 := bel_then K0 b
                 clear b)
    go_ret
    exact ⟨ret_bool HR2.out.symm, K0⟩
  have f2 : (s.kind == 2) = false := beq_eq_false_iff_ne.2 k2
  have HV := Lib.hid (show validS s = (inB s.kind 3 4 && (inB s.number 1 9999 && zeroB s.card)) by unfold validS; rw [if_neg k1, if_neg k2])
  clear k1 k2
  cases hi : inB s.kind 3 4
  · have HR := Lib.hid (show validS s = false by rw [HV.out, hi]; rfl)
    clear HV
    go_wp2_with (go_at_call 77
                 refine (l1In_any _ _ _ _).mono ?_
                 rintro e w' ⟨rfl, rfl⟩)
    go_ret
    exact ⟨ret_bool HR.out.symm, K0⟩
  cases hj : inB s.number 1 9999
  · have HR := Lib.hid (show validS s = false by rw [HV.out, hi, hj]; rfl)
    clear HV
    go_wp2_with (go_at_call 77
                 refine (l1In_any _ _ _ _).mono ?_
                 rintro e w' ⟨rfl, rfl⟩)
    go_ret
    exact ⟨ret_bool HR.out.symm, K0⟩
  have HR := Lib.hid (show validS s = zeroB s.card by rw [HV.out, hi, hj]; rfl)
  clear HV
  obtain ⟨zb, hz⟩ : ∃ zb, zeroB s.card = zb := ⟨_, rfl⟩
  have HZ := Lib.hid hz
  have HR2 := Lib.hid (HR.out.trans hz)
  clear hz HR
  go_wp2_with (first
    | (go_at_call 77
       refine (l1In_any _ _ _ _).mono ?_
       rintro e w' ⟨rfl, rfl⟩)
    | (go_at_call 81
       refine (l21None_any A n c 0 s.card _ X).mono ?_
       rw [HZ.out]
       rintro e w4 ⟨rfl, b⟩
       replace K0 := bel_then K0 b
       clear b))
  go_ret
  exact ⟨ret_bool HR2.out.symm, K0⟩

end Go.Proofs.YtkimlajfhepfgaaGreat

namespace Go.Proofs.YtkimlajfhepfgaaGreat
open Go.RowKit

/-- The reference's step. -/
def stepR (d : DeskV) (s : DeskStep) : Option DeskV := if deskB d && (validS s && makeB d s) then some (makeOut d s) else none
theorem stepR_same (d : DeskV) (s : DeskStep) : stepR d s = stepM d s := by
  unfold stepR stepM
  by_cases h : deskB d = true
  · obtain ⟨h1, h2⟩ := step_same h s
    rw [h, ← h1]
    by_cases hb : stepB d s = true
    · rw [hb, h2 hb]
    · simp [hb]
  · simp [h]

set_option maxRecDepth 100000 in
set_option maxHeartbeats 4000000 in
theorem StepDesk_any (h : DeskH) (d : DeskV) (A : Option Addr) (n c : Nat) (s : DeskStep) (w : World) (hs : SeesDesk w 0 h d) (hf : DeskFit 1048576 h d) (hc : h.n3 ≤ h.c3) (hx : Sees w 0 2 A n (s.card.punches.flatMap Punch.enc)) (hn : n ≤ 1048576) :
    Calls Tryz.prog 7 #[.agg #[.slice h.A0 h.n0 h.c0, .slice h.A1 h.n1 h.c1, .slice h.A2 h.n2 h.c2, .slice h.A3 h.n3 h.c3, .slice h.A4 h.n4 h.c4], .agg #[.int .i64 s.kind, .int .i64 s.number, .int .i64 s.cnumber, .int .i64 s.cstart, .int .i64 s.cfinish, .slice A n c]] w (GivesDeskO w (stepM d s)) := by
  have K0 : Below w.heap.size w (((w.alloc (.cells #[.slice h.A0 h.n0 h.c0, .slice h.A1 h.n1 h.c1, .slice h.A2 h.n2 h.c2, .slice h.A3 h.n3 h.c3, .slice h.A4 h.n4 h.c4] 28)).alloc (.cells #[.int .i64 s.kind, .int .i64 s.number, .int .i64 s.cnumber, .int .i64 s.cstart, .int .i64 s.cfinish, .slice A n c] 33)).alloc (.cells #[.slice none 0 0, .slice none 0 0, .slice none 0 0, .slice none 0 0, .slice none 0 0] 28)) := (((Below.refl w.heap.size w).alloc (Nat.le_refl _) _).alloc (by simp) _).alloc (by simp; omega) _
  have P : Blk (((w.alloc (.cells #[.slice h.A0 h.n0 h.c0, .slice h.A1 h.n1 h.c1, .slice h.A2 h.n2 h.c2, .slice h.A3 h.n3 h.c3, .slice h.A4 h.n4 h.c4] 28)).alloc (.cells #[.int .i64 s.kind, .int .i64 s.number, .int .i64 s.cnumber, .int .i64 s.cstart, .int .i64 s.cfinish, .slice A n c] 33)).alloc (.cells #[.slice none 0 0, .slice none 0 0, .slice none 0 0, .slice none 0 0, .slice none 0 0] 28)) w.heap.size 28 [.slice h.A0 h.n0 h.c0, .slice h.A1 h.n1 h.c1, .slice h.A2 h.n2 h.c2, .slice h.A3 h.n3 h.c3, .slice h.A4 h.n4 h.c4] := ((Blk.at_ rfl).alloc _).alloc _
  have Q : Blk (((w.alloc (.cells #[.slice h.A0 h.n0 h.c0, .slice h.A1 h.n1 h.c1, .slice h.A2 h.n2 h.c2, .slice h.A3 h.n3 h.c3, .slice h.A4 h.n4 h.c4] 28)).alloc (.cells #[.int .i64 s.kind, .int .i64 s.number, .int .i64 s.cnumber, .int .i64 s.cstart, .int .i64 s.cfinish, .slice A n c] 33)).alloc (.cells #[.slice none 0 0, .slice none 0 0, .slice none 0 0, .slice none 0 0, .slice none 0 0] 28)) (w.heap.size + 1) 33 [.int .i64 s.kind, .int .i64 s.number, .int .i64 s.cnumber, .int .i64 s.cstart, .int .i64 s.cfinish, .slice A n c] := (Blk.at_ (by simp)).alloc _
  have R : Blk (((w.alloc (.cells #[.slice h.A0 h.n0 h.c0, .slice h.A1 h.n1 h.c1, .slice h.A2 h.n2 h.c2, .slice h.A3 h.n3 h.c3, .slice h.A4 h.n4 h.c4] 28)).alloc (.cells #[.int .i64 s.kind, .int .i64 s.number, .int .i64 s.cnumber, .int .i64 s.cstart, .int .i64 s.cfinish, .slice A n c] 33)).alloc (.cells #[.slice none 0 0, .slice none 0 0, .slice none 0 0, .slice none 0 0, .slice none 0 0] 28)) (w.heap.size + 1 + 1) 28 [.slice none 0 0, .slice none 0 0, .slice none 0 0, .slice none 0 0, .slice none 0 0] := Blk.at_ (by simp)
  have z0 : w.heap.size + 3 ≤ ((((w.alloc (.cells #[.slice h.A0 h.n0 h.c0, .slice h.A1 h.n1 h.c1, .slice h.A2 h.n2 h.c2, .slice h.A3 h.n3 h.c3, .slice h.A4 h.n4 h.c4] 28)).alloc (.cells #[.int .i64 s.kind, .int .i64 s.number, .int .i64 s.cnumber, .int .i64 s.cstart, .int .i64 s.cfinish, .slice A n c] 33)).alloc (.cells #[.slice none 0 0, .slice none 0 0, .slice none 0 0, .slice none 0 0, .slice none 0 0] 28))).heap.size := by simp
  go_enter Tryz.func7, Tryz.ntmps7
  go_wp2_with fail
  generalize (((w.alloc (.cells #[.slice h.A0 h.n0 h.c0, .slice h.A1 h.n1 h.c1, .slice h.A2 h.n2 h.c2, .slice h.A3 h.n3 h.c3, .slice h.A4 h.n4 h.c4] 28)).alloc (.cells #[.int .i64 s.kind, .int .i64 s.number, .int .i64 s.cnumber, .int .i64 s.cstart, .int .i64 s.cfinish, .slice A n c] 33)).alloc (.cells #[.slice none 0 0, .slice none 0 0, .slice none 0 0, .slice none 0 0, .slice none 0 0] 28)) = w0 at *
  refine (IsDesk_any h d _ (hs.below K0 (Nat.le_refl _)) hf hc).mono ?_
  cases g : deskB d
  · rintro x w1 ⟨rfl, b1⟩
    have K1 := bel_then K0 b1
    have R1 := R.next b1
    have rc := R1.cell
    have rf := R1.frozen
    have HM := Lib.hid (show stepM d s = none by unfold stepM; rw [g]; rfl)
    clear g
    go_wp2_with fail
    refine bodyPost_ret (v := .tuple #[.agg #[.slice none 0 0, .slice none 0 0, .slice none 0 0, .slice none 0 0, .slice none 0 0], .bool false]) (by simp [results, Tryz.results7, go_sem, rc]) rfl ?_
    rw [HM.out]
    exact givesDO_none (K1.trans ((((((((Only.refl (fun b => b = w.heap.size + 1 + 1) w1).setCell (p := ⟨w.heap.size + 1 + 1, 0, none⟩) rfl (.slice none 0 0)).setCell (p := ⟨w.heap.size + 1 + 1, 1, none⟩) rfl (.slice none 0 0)).setCell (p := ⟨w.heap.size + 1 + 1, 2, none⟩) rfl (.slice none 0 0)).setCell (p := ⟨w.heap.size + 1 + 1, 3, none⟩) rfl (.slice none 0 0)).setCell (p := ⟨w.heap.size + 1 + 1, 4, none⟩) rfl (.slice none 0 0))).below (fun k hk => by omega) K1.size))
  rintro x w1 ⟨rfl, b1⟩
  have K1 := bel_then K0 b1
  replace P := P.next b1
  replace Q := Q.next b1
  replace R := R.next b1
  have z1 := b1.size
  have pc := P.cell
  have qc := Q.cell
  clear K0 b1
  go_wp2_with fail
  refine (stepDesk_any h d A n c s _ (hs.below K1 (Nat.le_refl _)) g (hx.next K1) hn).mono ?_
  rintro x w2 ⟨H, rfl, M, C2, b2⟩
  have K2 := bel_then K1 b2
  have z2 := b2.size
  have R2 := R.next b2
  have zR := R2.lt
  have U : Below w2.heap.size w2 (w2.alloc (.cells #[.slice H.A0 H.n0 H.c0, .slice H.A1 H.n1 H.c1, .slice H.A2 H.n2 H.c2, .slice H.A3 H.n3 H.c3, .slice H.A4 H.n4 H.c4] 28)) := (Below.refl _ _).alloc (Nat.le_refl _) _
  have K3 := bel_then K2 U
  have R3 := R2.next U
  have M3 := M.next U
  have B3 : Blk (w2.alloc (.cells #[.slice H.A0 H.n0 H.c0, .slice H.A1 H.n1 H.c1, .slice H.A2 H.n2 H.c2, .slice H.A3 H.n3 H.c3, .slice H.A4 H.n4 H.c4] 28)) w2.heap.size 28 [.slice H.A0 H.n0 H.c0, .slice H.A1 H.n1 H.c1, .slice H.A2 H.n2 H.c2, .slice H.A3 H.n3 H.c3, .slice H.A4 H.n4 H.c4] := Blk.at_ rfl
  have rc2 := R2.cell
  have rf2 := R2.frozen
  cases hb : stepB d s
  · have HM := Lib.hid (show stepM d s = none by unfold stepM; rw [g, hb]; rfl)
    have HB := Lib.hid hb
    clear hb pc qc
    have E := ((((((Only.refl (fun b => b = w.heap.size + 1 + 1) w2).setCell (p := ⟨w.heap.size + 1 + 1, 0, none⟩) rfl (.slice none 0 0)).setCell (p := ⟨w.heap.size + 1 + 1, 1, none⟩) rfl (.slice none 0 0)).setCell (p := ⟨w.heap.size + 1 + 1, 2, none⟩) rfl (.slice none 0 0)).setCell (p := ⟨w.heap.size + 1 + 1, 3, none⟩) rfl (.slice none 0 0)).setCell (p := ⟨w.heap.size + 1 + 1, 4, none⟩) rfl (.slice none 0 0))
    have bA : Below ((((((w2.setCell ⟨w.heap.size + 1 + 1, 0, none⟩ (.slice none 0 0)).setCell ⟨w.heap.size + 1 + 1, 1, none⟩ (.slice none 0 0)).setCell ⟨w.heap.size + 1 + 1, 2, none⟩ (.slice none 0 0)).setCell ⟨w.heap.size + 1 + 1, 3, none⟩ (.slice none 0 0)).setCell ⟨w.heap.size + 1 + 1, 4, none⟩ (.slice none 0 0))).heap.size (((((w2.setCell ⟨w.heap.size + 1 + 1, 0, none⟩ (.slice none 0 0)).setCell ⟨w.heap.size + 1 + 1, 1, none⟩ (.slice none 0 0)).setCell ⟨w.heap.size + 1 + 1, 2, none⟩ (.slice none 0 0)).setCell ⟨w.heap.size + 1 + 1, 3, none⟩ (.slice none 0 0)).setCell ⟨w.heap.size + 1 + 1, 4, none⟩ (.slice none 0 0)) (((((((w2.setCell ⟨w.heap.size + 1 + 1, 0, none⟩ (.slice none 0 0)).setCell ⟨w.heap.size + 1 + 1, 1, none⟩ (.slice none 0 0)).setCell ⟨w.heap.size + 1 + 1, 2, none⟩ (.slice none 0 0)).setCell ⟨w.heap.size + 1 + 1, 3, none⟩ (.slice none 0 0)).setCell ⟨w.heap.size + 1 + 1, 4, none⟩ (.slice none 0 0))).alloc (.cells #[.slice H.A0 H.n0 H.c0, .slice H.A1 H.n1 H.c1, .slice H.A2 H.n2 H.c2, .slice H.A3 H.n3 H.c3, .slice H.A4 H.n4 H.c4] 28)) := (Below.refl _ _).alloc (Nat.le_refl _) _
    have RF : Blk (((((((w2.setCell ⟨w.heap.size + 1 + 1, 0, none⟩ (.slice none 0 0)).setCell ⟨w.heap.size + 1 + 1, 1, none⟩ (.slice none 0 0)).setCell ⟨w.heap.size + 1 + 1, 2, none⟩ (.slice none 0 0)).setCell ⟨w.heap.size + 1 + 1, 3, none⟩ (.slice none 0 0)).setCell ⟨w.heap.size + 1 + 1, 4, none⟩ (.slice none 0 0))).alloc (.cells #[.slice H.A0 H.n0 H.c0, .slice H.A1 H.n1 H.c1, .slice H.A2 H.n2 H.c2, .slice H.A3 H.n3 H.c3, .slice H.A4 H.n4 H.c4] 28)) (w.heap.size + 1 + 1) 28 [.slice none 0 0, .slice none 0 0, .slice none 0 0, .slice none 0 0, .slice none 0 0] := ((((((R2.set_ 0 (.slice none 0 0)).set_ 1 (.slice none 0 0)).set_ 2 (.slice none 0 0)).set_ 3 (.slice none 0 0)).set_ 4 (.slice none 0 0))).alloc _
    have rcF := RF.cell
    go_wp2_with fail
    refine bodyPost_ret (v := .tuple #[.agg #[.slice none 0 0, .slice none 0 0, .slice none 0 0, .slice none 0 0, .slice none 0 0], .bool false]) (by simp [results, Tryz.results7, go_sem, rcF]) rfl ?_
    rw [HM.out]
    exact givesDO_none (bel_then (K2.trans (E.below (fun k hk => by omega) K2.size)) bA)
  have HM := Lib.hid (show stepM d s = some (stepOut d s) by unfold stepM; rw [g, hb]; rfl)
  have SM : Small 1000 (stepOut d s) := deskB_small (by unfold stepB at hb; simp only [Bool.and_eq_true] at hb; exact hb.2)
  have HB := Lib.hid hb
  clear hb pc qc
  have E := ((((((Only.refl (fun b => b = w.heap.size + 1 + 1) w2).setCell (p := ⟨w.heap.size + 1 + 1, 0, none⟩) rfl (.slice H.A0 H.n0 H.c0)).setCell (p := ⟨w.heap.size + 1 + 1, 1, none⟩) rfl (.slice H.A1 H.n1 H.c1)).setCell (p := ⟨w.heap.size + 1 + 1, 2, none⟩) rfl (.slice H.A2 H.n2 H.c2)).setCell (p := ⟨w.heap.size + 1 + 1, 3, none⟩) rfl (.slice H.A3 H.n3 H.c3)).setCell (p := ⟨w.heap.size + 1 + 1, 4, none⟩) rfl (.slice H.A4 H.n4 H.c4))
  have bA : Below ((((((w2.setCell ⟨w.heap.size + 1 + 1, 0, none⟩ (.slice H.A0 H.n0 H.c0)).setCell ⟨w.heap.size + 1 + 1, 1, none⟩ (.slice H.A1 H.n1 H.c1)).setCell ⟨w.heap.size + 1 + 1, 2, none⟩ (.slice H.A2 H.n2 H.c2)).setCell ⟨w.heap.size + 1 + 1, 3, none⟩ (.slice H.A3 H.n3 H.c3)).setCell ⟨w.heap.size + 1 + 1, 4, none⟩ (.slice H.A4 H.n4 H.c4))).heap.size (((((w2.setCell ⟨w.heap.size + 1 + 1, 0, none⟩ (.slice H.A0 H.n0 H.c0)).setCell ⟨w.heap.size + 1 + 1, 1, none⟩ (.slice H.A1 H.n1 H.c1)).setCell ⟨w.heap.size + 1 + 1, 2, none⟩ (.slice H.A2 H.n2 H.c2)).setCell ⟨w.heap.size + 1 + 1, 3, none⟩ (.slice H.A3 H.n3 H.c3)).setCell ⟨w.heap.size + 1 + 1, 4, none⟩ (.slice H.A4 H.n4 H.c4)) (((((((w2.setCell ⟨w.heap.size + 1 + 1, 0, none⟩ (.slice H.A0 H.n0 H.c0)).setCell ⟨w.heap.size + 1 + 1, 1, none⟩ (.slice H.A1 H.n1 H.c1)).setCell ⟨w.heap.size + 1 + 1, 2, none⟩ (.slice H.A2 H.n2 H.c2)).setCell ⟨w.heap.size + 1 + 1, 3, none⟩ (.slice H.A3 H.n3 H.c3)).setCell ⟨w.heap.size + 1 + 1, 4, none⟩ (.slice H.A4 H.n4 H.c4))).alloc (.cells #[.slice H.A0 H.n0 H.c0, .slice H.A1 H.n1 H.c1, .slice H.A2 H.n2 H.c2, .slice H.A3 H.n3 H.c3, .slice H.A4 H.n4 H.c4] 28)) := (Below.refl _ _).alloc (Nat.le_refl _) _
  have RF : Blk (((((((w2.setCell ⟨w.heap.size + 1 + 1, 0, none⟩ (.slice H.A0 H.n0 H.c0)).setCell ⟨w.heap.size + 1 + 1, 1, none⟩ (.slice H.A1 H.n1 H.c1)).setCell ⟨w.heap.size + 1 + 1, 2, none⟩ (.slice H.A2 H.n2 H.c2)).setCell ⟨w.heap.size + 1 + 1, 3, none⟩ (.slice H.A3 H.n3 H.c3)).setCell ⟨w.heap.size + 1 + 1, 4, none⟩ (.slice H.A4 H.n4 H.c4))).alloc (.cells #[.slice H.A0 H.n0 H.c0, .slice H.A1 H.n1 H.c1, .slice H.A2 H.n2 H.c2, .slice H.A3 H.n3 H.c3, .slice H.A4 H.n4 H.c4] 28)) (w.heap.size + 1 + 1) 28 [.slice H.A0 H.n0 H.c0, .slice H.A1 H.n1 H.c1, .slice H.A2 H.n2 H.c2, .slice H.A3 H.n3 H.c3, .slice H.A4 H.n4 H.c4] := ((((((R2.set_ 0 (.slice H.A0 H.n0 H.c0)).set_ 1 (.slice H.A1 H.n1 H.c1)).set_ 2 (.slice H.A2 H.n2 H.c2)).set_ 3 (.slice H.A3 H.n3 H.c3)).set_ 4 (.slice H.A4 H.n4 H.c4))).alloc _
  have rcF := RF.cell
  go_wp2_with fail
  refine bodyPost_ret (v := .tuple #[.agg #[.slice H.A0 H.n0 H.c0, .slice H.A1 H.n1 H.c1, .slice H.A2 H.n2 H.c2, .slice H.A3 H.n3 H.c3, .slice H.A4 H.n4 H.c4], .bool true]) (by simp [results, Tryz.results7, go_sem, rcF]) rfl ?_
  rw [HM.out]
  have zF := E.size
  have zA := bA.size
  have M4 := (M.only E (fun b h1 h2 => by have := h1.1; omega)).next bA
  exact ⟨H, rfl, (M4.wide (fun b hb => by have := hb.1; have := hb.2; exact ⟨by omega, by omega⟩)).desk, SM.fit M.desk.sees (by decide) (by decide), M.cap3, bel_then (K2.trans (E.below (fun k hk => by omega) K2.size)) bA⟩

/-- A desk in memory of the call's own whose trouble begins at its block's head, or none. -/
def GivesDeskOW (w : World) (R : Option DeskV) (e : Ending) (w' : World) : Prop :=
  ∃ H : DeskH, e = .returned (.tuple #[.agg #[.slice H.A0 H.n0 H.c0, .slice H.A1 H.n1 H.c1, .slice H.A2 H.n2 H.c2, .slice H.A3 H.n3 H.c3, .slice H.A4 H.n4 H.c4], .bool R.isSome]) ∧ MineW w' (In w.heap.size w'.heap.size) H (R.getD deskZ) ∧ DeskFit 1048576 H (R.getD deskZ) ∧ H.n3 ≤ H.c3 ∧ Below w.heap.size w w'
theorem givesDOW_none {w w' : World} (h : Below w.heap.size w w') : GivesDeskOW w none (.returned (.tuple #[.agg #[.slice none 0 0, .slice none 0 0, .slice none 0 0, .slice none 0 0, .slice none 0 0], .bool false])) w' :=
  ⟨⟨none, 0, 0, none, 0, 0, none, 0, 0, none, 0, 0, none, 0, 0⟩, rfl, ⟨fun _ => 0, ⟨mine_nil _ _ _ _, mine_nil _ _ _ _, MineO.empty _ _ _ _ _, mine_nil _ _ _ _, MineN.nil _ _ _ _⟩⟩, deskZ_fit, Nat.le_refl _, h⟩

set_option maxRecDepth 100000 in
set_option maxHeartbeats 4000000 in
theorem specStepDeskR_any (h : DeskH) (d : DeskV) (A : Option Addr) (n c : Nat) (s : DeskStep) (w : World) (hs : SeesDesk w 0 h d) (hf : DeskFit 1048576 h d) (hc : h.n3 ≤ h.c3) (hx : Sees w 0 2 A n (s.card.punches.flatMap Punch.enc)) (hn : n ≤ 1048576) :
    Calls Tryz.prog 8 #[.agg #[.slice h.A0 h.n0 h.c0, .slice h.A1 h.n1 h.c1, .slice h.A2 h.n2 h.c2, .slice h.A3 h.n3 h.c3, .slice h.A4 h.n4 h.c4], .agg #[.int .i64 s.kind, .int .i64 s.number, .int .i64 s.cnumber, .int .i64 s.cstart, .int .i64 s.cfinish, .slice A n c]] w (GivesDeskOW w (stepR d s)) := by
  have K0 : Below w.heap.size w (((w.alloc (.cells #[.slice h.A0 h.n0 h.c0, .slice h.A1 h.n1 h.c1, .slice h.A2 h.n2 h.c2, .slice h.A3 h.n3 h.c3, .slice h.A4 h.n4 h.c4] 28)).alloc (.cells #[.int .i64 s.kind, .int .i64 s.number, .int .i64 s.cnumber, .int .i64 s.cstart, .int .i64 s.cfinish, .slice A n c] 33)).alloc (.cells #[.slice none 0 0, .slice none 0 0, .slice none 0 0, .slice none 0 0, .slice none 0 0] 28)) := (((Below.refl w.heap.size w).alloc (Nat.le_refl _) _).alloc (by simp) _).alloc (by simp; omega) _
  have P : Blk (((w.alloc (.cells #[.slice h.A0 h.n0 h.c0, .slice h.A1 h.n1 h.c1, .slice h.A2 h.n2 h.c2, .slice h.A3 h.n3 h.c3, .slice h.A4 h.n4 h.c4] 28)).alloc (.cells #[.int .i64 s.kind, .int .i64 s.number, .int .i64 s.cnumber, .int .i64 s.cstart, .int .i64 s.cfinish, .slice A n c] 33)).alloc (.cells #[.slice none 0 0, .slice none 0 0, .slice none 0 0, .slice none 0 0, .slice none 0 0] 28)) w.heap.size 28 [.slice h.A0 h.n0 h.c0, .slice h.A1 h.n1 h.c1, .slice h.A2 h.n2 h.c2, .slice h.A3 h.n3 h.c3, .slice h.A4 h.n4 h.c4] := ((Blk.at_ rfl).alloc _).alloc _
  have Q : Blk (((w.alloc (.cells #[.slice h.A0 h.n0 h.c0, .slice h.A1 h.n1 h.c1, .slice h.A2 h.n2 h.c2, .slice h.A3 h.n3 h.c3, .slice h.A4 h.n4 h.c4] 28)).alloc (.cells #[.int .i64 s.kind, .int .i64 s.number, .int .i64 s.cnumber, .int .i64 s.cstart, .int .i64 s.cfinish, .slice A n c] 33)).alloc (.cells #[.slice none 0 0, .slice none 0 0, .slice none 0 0, .slice none 0 0, .slice none 0 0] 28)) (w.heap.size + 1) 33 [.int .i64 s.kind, .int .i64 s.number, .int .i64 s.cnumber, .int .i64 s.cstart, .int .i64 s.cfinish, .slice A n c] := (Blk.at_ (by simp)).alloc _
  have R : Blk (((w.alloc (.cells #[.slice h.A0 h.n0 h.c0, .slice h.A1 h.n1 h.c1, .slice h.A2 h.n2 h.c2, .slice h.A3 h.n3 h.c3, .slice h.A4 h.n4 h.c4] 28)).alloc (.cells #[.int .i64 s.kind, .int .i64 s.number, .int .i64 s.cnumber, .int .i64 s.cstart, .int .i64 s.cfinish, .slice A n c] 33)).alloc (.cells #[.slice none 0 0, .slice none 0 0, .slice none 0 0, .slice none 0 0, .slice none 0 0] 28)) (w.heap.size + 1 + 1) 28 [.slice none 0 0, .slice none 0 0, .slice none 0 0, .slice none 0 0, .slice none 0 0] := Blk.at_ (by simp)
  have z0 : w.heap.size + 3 ≤ ((((w.alloc (.cells #[.slice h.A0 h.n0 h.c0, .slice h.A1 h.n1 h.c1, .slice h.A2 h.n2 h.c2, .slice h.A3 h.n3 h.c3, .slice h.A4 h.n4 h.c4] 28)).alloc (.cells #[.int .i64 s.kind, .int .i64 s.number, .int .i64 s.cnumber, .int .i64 s.cstart, .int .i64 s.cfinish, .slice A n c] 33)).alloc (.cells #[.slice none 0 0, .slice none 0 0, .slice none 0 0, .slice none 0 0, .slice none 0 0] 28))).heap.size := by simp
  go_enter Tryz.func8, Tryz.ntmps8
  go_wp2_with fail
  generalize (((w.alloc (.cells #[.slice h.A0 h.n0 h.c0, .slice h.A1 h.n1 h.c1, .slice h.A2 h.n2 h.c2, .slice h.A3 h.n3 h.c3, .slice h.A4 h.n4 h.c4] 28)).alloc (.cells #[.int .i64 s.kind, .int .i64 s.number, .int .i64 s.cnumber, .int .i64 s.cstart, .int .i64 s.cfinish, .slice A n c] 33)).alloc (.cells #[.slice none 0 0, .slice none 0 0, .slice none 0 0, .slice none 0 0, .slice none 0 0] 28)) = w0 at *
  refine (l25Good_any h d _ (hs.below K0 (Nat.le_refl _)) hf hc).mono ?_
  cases g : deskB d
  · rintro x w1 ⟨rfl, b1⟩
    have K1 := bel_then K0 b1
    have R1 := R.next b1
    have rc := R1.cell
    have rf := R1.frozen
    have HM := Lib.hid (show stepR d s = none by unfold stepR; rw [g]; rfl)
    clear g
    go_wp2_with fail
    refine bodyPost_ret (v := .tuple #[.agg #[.slice none 0 0, .slice none 0 0, .slice none 0 0, .slice none 0 0, .slice none 0 0], .bool false]) (by simp [results, Tryz.results8, go_sem, rc]) rfl ?_
    rw [HM.out]
    exact givesDOW_none (K1.trans ((((((((Only.refl (fun b => b = w.heap.size + 1 + 1) w1).setCell (p := ⟨w.heap.size + 1 + 1, 0, none⟩) rfl (.slice none 0 0)).setCell (p := ⟨w.heap.size + 1 + 1, 1, none⟩) rfl (.slice none 0 0)).setCell (p := ⟨w.heap.size + 1 + 1, 2, none⟩) rfl (.slice none 0 0)).setCell (p := ⟨w.heap.size + 1 + 1, 3, none⟩) rfl (.slice none 0 0)).setCell (p := ⟨w.heap.size + 1 + 1, 4, none⟩) rfl (.slice none 0 0))).below (fun k hk => by omega) K1.size))
  rintro x w1 ⟨rfl, b1⟩
  have K1 := bel_then K0 b1
  replace P := P.next b1
  replace Q := Q.next b1
  replace R := R.next b1
  have z1 := b1.size
  have pc := P.cell
  have qc := Q.cell
  clear K0 b1
  go_upto_if 15 with fail
  refine (l25Step_any A n c s _ (hx.next K1) hn).mono ?_
  cases hv : validS s
  · rintro x w4 ⟨rfl, b4⟩
    have K4 := bel_then K1 b4
    have R4 := R.next b4
    have rc := R4.cell
    have rf := R4.frozen
    have HM := Lib.hid (show stepR d s = none by unfold stepR; rw [g, hv]; rfl)
    have HV := Lib.hid hv
    clear g hv
    go_wp2_with fail
    refine bodyPost_ret (v := .tuple #[.agg #[.slice none 0 0, .slice none 0 0, .slice none 0 0, .slice none 0 0, .slice none 0 0], .bool false]) (by simp [results, Tryz.results8, go_sem, rc]) rfl ?_
    rw [HM.out]
    exact givesDOW_none (K4.trans ((((((((Only.refl (fun b => b = w.heap.size + 1 + 1) w4).setCell (p := ⟨w.heap.size + 1 + 1, 0, none⟩) rfl (.slice none 0 0)).setCell (p := ⟨w.heap.size + 1 + 1, 1, none⟩) rfl (.slice none 0 0)).setCell (p := ⟨w.heap.size + 1 + 1, 2, none⟩) rfl (.slice none 0 0)).setCell (p := ⟨w.heap.size + 1 + 1, 3, none⟩) rfl (.slice none 0 0)).setCell (p := ⟨w.heap.size + 1 + 1, 4, none⟩) rfl (.slice none 0 0))).below (fun k hk => by omega) K4.size))
  rintro x w4 ⟨rfl, b4⟩
  replace K1 := bel_then K1 b4
  replace P := P.next b4
  replace Q := Q.next b4
  replace R := R.next b4
  have z4 := b4.size
  clear pc qc b4
  have pc := P.cell
  have qc := Q.cell
  have HV := Lib.hid hv
  clear hv
  go_wp2_with fail
  refine (l25Make_any h d A n c s _ (hs.below K1 (Nat.le_refl _)) g (hx.next K1) hn HV.out).mono ?_
  rintro x w2 ⟨H, rfl, M, C2, b2⟩
  have K2 := bel_then K1 b2
  have z2 := b2.size
  have R2 := R.next b2
  have zR := R2.lt
  have U : Below w2.heap.size w2 (w2.alloc (.cells #[.slice H.A0 H.n0 H.c0, .slice H.A1 H.n1 H.c1, .slice H.A2 H.n2 H.c2, .slice H.A3 H.n3 H.c3, .slice H.A4 H.n4 H.c4] 28)) := (Below.refl _ _).alloc (Nat.le_refl _) _
  have K3 := bel_then K2 U
  have R3 := R2.next U
  have M3 := M.next U
  have B3 : Blk (w2.alloc (.cells #[.slice H.A0 H.n0 H.c0, .slice H.A1 H.n1 H.c1, .slice H.A2 H.n2 H.c2, .slice H.A3 H.n3 H.c3, .slice H.A4 H.n4 H.c4] 28)) w2.heap.size 28 [.slice H.A0 H.n0 H.c0, .slice H.A1 H.n1 H.c1, .slice H.A2 H.n2 H.c2, .slice H.A3 H.n3 H.c3, .slice H.A4 H.n4 H.c4] := Blk.at_ rfl
  have rc2 := R2.cell
  have rf2 := R2.frozen
  cases hb : makeB d s
  · have HM := Lib.hid (show stepR d s = none by unfold stepR; rw [g, HV.out, hb]; rfl)
    have HB := Lib.hid hb
    clear hb pc qc
    have E := ((((((Only.refl (fun b => b = w.heap.size + 1 + 1) w2).setCell (p := ⟨w.heap.size + 1 + 1, 0, none⟩) rfl (.slice none 0 0)).setCell (p := ⟨w.heap.size + 1 + 1, 1, none⟩) rfl (.slice none 0 0)).setCell (p := ⟨w.heap.size + 1 + 1, 2, none⟩) rfl (.slice none 0 0)).setCell (p := ⟨w.heap.size + 1 + 1, 3, none⟩) rfl (.slice none 0 0)).setCell (p := ⟨w.heap.size + 1 + 1, 4, none⟩) rfl (.slice none 0 0))
    have bA : Below ((((((w2.setCell ⟨w.heap.size + 1 + 1, 0, none⟩ (.slice none 0 0)).setCell ⟨w.heap.size + 1 + 1, 1, none⟩ (.slice none 0 0)).setCell ⟨w.heap.size + 1 + 1, 2, none⟩ (.slice none 0 0)).setCell ⟨w.heap.size + 1 + 1, 3, none⟩ (.slice none 0 0)).setCell ⟨w.heap.size + 1 + 1, 4, none⟩ (.slice none 0 0))).heap.size (((((w2.setCell ⟨w.heap.size + 1 + 1, 0, none⟩ (.slice none 0 0)).setCell ⟨w.heap.size + 1 + 1, 1, none⟩ (.slice none 0 0)).setCell ⟨w.heap.size + 1 + 1, 2, none⟩ (.slice none 0 0)).setCell ⟨w.heap.size + 1 + 1, 3, none⟩ (.slice none 0 0)).setCell ⟨w.heap.size + 1 + 1, 4, none⟩ (.slice none 0 0)) (((((((w2.setCell ⟨w.heap.size + 1 + 1, 0, none⟩ (.slice none 0 0)).setCell ⟨w.heap.size + 1 + 1, 1, none⟩ (.slice none 0 0)).setCell ⟨w.heap.size + 1 + 1, 2, none⟩ (.slice none 0 0)).setCell ⟨w.heap.size + 1 + 1, 3, none⟩ (.slice none 0 0)).setCell ⟨w.heap.size + 1 + 1, 4, none⟩ (.slice none 0 0))).alloc (.cells #[.slice H.A0 H.n0 H.c0, .slice H.A1 H.n1 H.c1, .slice H.A2 H.n2 H.c2, .slice H.A3 H.n3 H.c3, .slice H.A4 H.n4 H.c4] 28)) := (Below.refl _ _).alloc (Nat.le_refl _) _
    have RF : Blk (((((((w2.setCell ⟨w.heap.size + 1 + 1, 0, none⟩ (.slice none 0 0)).setCell ⟨w.heap.size + 1 + 1, 1, none⟩ (.slice none 0 0)).setCell ⟨w.heap.size + 1 + 1, 2, none⟩ (.slice none 0 0)).setCell ⟨w.heap.size + 1 + 1, 3, none⟩ (.slice none 0 0)).setCell ⟨w.heap.size + 1 + 1, 4, none⟩ (.slice none 0 0))).alloc (.cells #[.slice H.A0 H.n0 H.c0, .slice H.A1 H.n1 H.c1, .slice H.A2 H.n2 H.c2, .slice H.A3 H.n3 H.c3, .slice H.A4 H.n4 H.c4] 28)) (w.heap.size + 1 + 1) 28 [.slice none 0 0, .slice none 0 0, .slice none 0 0, .slice none 0 0, .slice none 0 0] := ((((((R2.set_ 0 (.slice none 0 0)).set_ 1 (.slice none 0 0)).set_ 2 (.slice none 0 0)).set_ 3 (.slice none 0 0)).set_ 4 (.slice none 0 0))).alloc _
    have rcF := RF.cell
    go_wp2_with fail
    refine bodyPost_ret (v := .tuple #[.agg #[.slice none 0 0, .slice none 0 0, .slice none 0 0, .slice none 0 0, .slice none 0 0], .bool false]) (by simp [results, Tryz.results8, go_sem, rcF]) rfl ?_
    rw [HM.out]
    exact givesDOW_none (bel_then (K2.trans (E.below (fun k hk => by omega) K2.size)) bA)
  have HM := Lib.hid (show stepR d s = some (makeOut d s) by unfold stepR; rw [g, HV.out, hb]; rfl)
  have SM : Small 1000 (makeOut d s) := deskB_small (by unfold makeB at hb; simp only [Bool.and_eq_true] at hb; exact hb.2)
  have HB := Lib.hid hb
  clear hb pc qc
  have E := ((((((Only.refl (fun b => b = w.heap.size + 1 + 1) w2).setCell (p := ⟨w.heap.size + 1 + 1, 0, none⟩) rfl (.slice H.A0 H.n0 H.c0)).setCell (p := ⟨w.heap.size + 1 + 1, 1, none⟩) rfl (.slice H.A1 H.n1 H.c1)).setCell (p := ⟨w.heap.size + 1 + 1, 2, none⟩) rfl (.slice H.A2 H.n2 H.c2)).setCell (p := ⟨w.heap.size + 1 + 1, 3, none⟩) rfl (.slice H.A3 H.n3 H.c3)).setCell (p := ⟨w.heap.size + 1 + 1, 4, none⟩) rfl (.slice H.A4 H.n4 H.c4))
  have bA : Below ((((((w2.setCell ⟨w.heap.size + 1 + 1, 0, none⟩ (.slice H.A0 H.n0 H.c0)).setCell ⟨w.heap.size + 1 + 1, 1, none⟩ (.slice H.A1 H.n1 H.c1)).setCell ⟨w.heap.size + 1 + 1, 2, none⟩ (.slice H.A2 H.n2 H.c2)).setCell ⟨w.heap.size + 1 + 1, 3, none⟩ (.slice H.A3 H.n3 H.c3)).setCell ⟨w.heap.size + 1 + 1, 4, none⟩ (.slice H.A4 H.n4 H.c4))).heap.size (((((w2.setCell ⟨w.heap.size + 1 + 1, 0, none⟩ (.slice H.A0 H.n0 H.c0)).setCell ⟨w.heap.size + 1 + 1, 1, none⟩ (.slice H.A1 H.n1 H.c1)).setCell ⟨w.heap.size + 1 + 1, 2, none⟩ (.slice H.A2 H.n2 H.c2)).setCell ⟨w.heap.size + 1 + 1, 3, none⟩ (.slice H.A3 H.n3 H.c3)).setCell ⟨w.heap.size + 1 + 1, 4, none⟩ (.slice H.A4 H.n4 H.c4)) (((((((w2.setCell ⟨w.heap.size + 1 + 1, 0, none⟩ (.slice H.A0 H.n0 H.c0)).setCell ⟨w.heap.size + 1 + 1, 1, none⟩ (.slice H.A1 H.n1 H.c1)).setCell ⟨w.heap.size + 1 + 1, 2, none⟩ (.slice H.A2 H.n2 H.c2)).setCell ⟨w.heap.size + 1 + 1, 3, none⟩ (.slice H.A3 H.n3 H.c3)).setCell ⟨w.heap.size + 1 + 1, 4, none⟩ (.slice H.A4 H.n4 H.c4))).alloc (.cells #[.slice H.A0 H.n0 H.c0, .slice H.A1 H.n1 H.c1, .slice H.A2 H.n2 H.c2, .slice H.A3 H.n3 H.c3, .slice H.A4 H.n4 H.c4] 28)) := (Below.refl _ _).alloc (Nat.le_refl _) _
  have RF : Blk (((((((w2.setCell ⟨w.heap.size + 1 + 1, 0, none⟩ (.slice H.A0 H.n0 H.c0)).setCell ⟨w.heap.size + 1 + 1, 1, none⟩ (.slice H.A1 H.n1 H.c1)).setCell ⟨w.heap.size + 1 + 1, 2, none⟩ (.slice H.A2 H.n2 H.c2)).setCell ⟨w.heap.size + 1 + 1, 3, none⟩ (.slice H.A3 H.n3 H.c3)).setCell ⟨w.heap.size + 1 + 1, 4, none⟩ (.slice H.A4 H.n4 H.c4))).alloc (.cells #[.slice H.A0 H.n0 H.c0, .slice H.A1 H.n1 H.c1, .slice H.A2 H.n2 H.c2, .slice H.A3 H.n3 H.c3, .slice H.A4 H.n4 H.c4] 28)) (w.heap.size + 1 + 1) 28 [.slice H.A0 H.n0 H.c0, .slice H.A1 H.n1 H.c1, .slice H.A2 H.n2 H.c2, .slice H.A3 H.n3 H.c3, .slice H.A4 H.n4 H.c4] := ((((((R2.set_ 0 (.slice H.A0 H.n0 H.c0)).set_ 1 (.slice H.A1 H.n1 H.c1)).set_ 2 (.slice H.A2 H.n2 H.c2)).set_ 3 (.slice H.A3 H.n3 H.c3)).set_ 4 (.slice H.A4 H.n4 H.c4))).alloc _
  have rcF := RF.cell
  go_wp2_with fail
  refine bodyPost_ret (v := .tuple #[.agg #[.slice H.A0 H.n0 H.c0, .slice H.A1 H.n1 H.c1, .slice H.A2 H.n2 H.c2, .slice H.A3 H.n3 H.c3, .slice H.A4 H.n4 H.c4], .bool true]) (by simp [results, Tryz.results8, go_sem, rcF]) rfl ?_
  rw [HM.out]
  have zF := E.size
  have zA := bA.size
  have M4 := (M.only E (fun b h1 h2 => by have := h1.1; omega)).next bA
  exact ⟨H, rfl, (M4.wide (fun b hb => by have := hb.1; have := hb.2; exact ⟨by omega, by omega⟩)), SM.fit M.desk.sees (by decide) (by decide), M.cap3, bel_then (K2.trans (E.below (fun k hk => by omega) K2.size)) bA⟩

theorem specStepDeskW_any (h : DeskH) (d : DeskV) (A : Option Addr) (n c : Nat) (s : DeskStep) (w : World) (hs : SeesDesk w 0 h d) (hf : DeskFit 1048576 h d) (hc : h.n3 ≤ h.c3) (hx : Sees w 0 2 A n (s.card.punches.flatMap Punch.enc)) (hn : n ≤ 1048576) :
    Calls Tryz.prog 8 #[.agg #[.slice h.A0 h.n0 h.c0, .slice h.A1 h.n1 h.c1, .slice h.A2 h.n2 h.c2, .slice h.A3 h.n3 h.c3, .slice h.A4 h.n4 h.c4], .agg #[.int .i64 s.kind, .int .i64 s.number, .int .i64 s.cnumber, .int .i64 s.cstart, .int .i64 s.cfinish, .slice A n c]] w (GivesDeskOW w (stepM d s)) := by
  rw [← stepR_same]
  exact specStepDeskR_any h d A n c s w hs hf hc hx hn
end Go.Proofs.YtkimlajfhepfgaaGreat
