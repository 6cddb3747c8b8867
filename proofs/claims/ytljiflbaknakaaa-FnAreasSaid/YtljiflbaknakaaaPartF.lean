/- LargestPart, as the program has it. -/
import Derived.Test.YtljiflbaknakaaaPartI
import Derived.Test.YtljiflbaknakaaaOpn
import Derived.Test.YtljiflbaknakaaaCopy
import Derived.Test.YtljiflbaknakaaaBoxed
namespace Go.Proofs.Ytljiflbaknakaaa
open Go.RowKit

/-- 1 where a cell is in a list, 0 elsewhere -/
def onesIn (n : Nat) (L : List Int) : List Int := (List.range n).map fun i : Nat => if (i : Int) ∈ L then 1 else 0
theorem onesIn_len (n : Nat) (L : List Int) : (onesIn n L).length = n := by simp [onesIn]
theorem onesIn_get {n : Nat} {L : List Int} {i : Nat} (h : i < (onesIn n L).length) : (onesIn n L)[i] = if (i : Int) ∈ L then 1 else 0 := by simp [onesIn]
theorem onesIn_nil (n : Nat) : onesIn n [] = List.replicate n 0 := by
  refine List.ext_getElem (by simp [onesIn]) fun i h1 h2 => ?_
  rw [onesIn_get]
  simp
theorem onesIn_next {n : Nat} {L : List Int} {j x : Nat} (hj : j < L.length) (hx : L[j] = (x : Int)) : (onesIn n (L.take j)).set x 1 = onesIn n (L.take (j + 1)) := by
  refine List.ext_getElem (by simp [onesIn]) fun i h1 h2 => ?_
  have hm : (i : Int) ∈ L.take (j + 1) ↔ (i : Int) ∈ L.take j ∨ (i : Int) = (x : Int) := by rw [List.take_succ_eq_append_getElem hj, hx, List.mem_append, List.mem_singleton]
  have hl : i < (onesIn n (L.take j)).length := by rw [onesIn_len]; rw [onesIn_len] at h2; exact h2
  have e1 := onesIn_get hl
  rw [List.getElem_set, onesIn_get h2]
  by_cases e : x = i
  · subst e
    rw [if_pos rfl, if_pos (hm.2 (.inr rfl))]
  · rw [if_neg e, e1]
    by_cases h : (i : Int) ∈ L.take j
    · rw [if_pos h, if_pos (hm.2 (.inl h))]
    · rw [if_neg h, if_neg (fun h3 => (hm.1 h3).elim h fun h4 => e (by omega))]
/-- The map of the cells that are open. -/
def shutM (m : MapV) (xs : List Area) (day : Int) : MapV := ⟨m.width, m.height, m.rise, onesIn m.cost.length (openTo m xs day m.cost.length)⟩
theorem shutM_len (m : MapV) (xs : List Area) (day : Int) : (shutM m xs day).cost.length = m.cost.length := onesIn_len _ _
theorem mem_openTo {m : MapV} {xs : List Area} {day : Int} {k : Nat} {x : Int} : x ∈ openTo m xs day k ↔ ∃ i : Nat, i < k ∧ openB m xs day i = true ∧ x = (i : Int) := by
  unfold openTo
  simp only [List.mem_map, List.mem_filter, List.mem_range]
  constructor
  · rintro ⟨i, ⟨h1, h2⟩, rfl⟩
    exact ⟨i, h1, h2, rfl⟩
  · rintro ⟨i, h1, h2, rfl⟩
    exact ⟨i, ⟨h1, h2⟩, rfl⟩
theorem pass_open {m : MapV} {xs : List Area} {day : Int} {k : Nat} (hk : k < m.cost.length) : passB (shutM m xs day) (k : Int) ↔ openB m xs day k = true := by
  have hk' : k < (onesIn m.cost.length (openTo m xs day m.cost.length)).length := by rw [onesIn_len]; exact hk
  rw [passB_at (m := shutM m xs day) (by rw [shutM_len]; exact hk), show (shutM m xs day).cost[k]'(by rw [shutM_len]; exact hk) = (onesIn m.cost.length (openTo m xs day m.cost.length))[k] from rfl, onesIn_get]
  by_cases h : openB m xs day k = true
  · rw [if_pos (mem_openTo.2 ⟨k, hk, h, rfl⟩)]
    exact ⟨fun _ => h, fun _ => by omega⟩
  · rw [if_neg (fun h2 => h (by obtain ⟨i, _, h3, h4⟩ := mem_openTo.1 h2; obtain rfl : k = i := by omega
                                exact h3))]
    exact ⟨fun h => by omega, fun h2 => absurd h2 h⟩
theorem shutM_map {m : MapV} {xs : List Area} {day : Int} (h : isMapB m = true) : isMapB (shutM m xs day) = true := by
  unfold isMapB at h ⊢
  simp only [Bool.and_eq_true, decide_eq_true_eq] at h ⊢
  obtain ⟨⟨⟨⟨h1, h2⟩, h3⟩, h4⟩, h5, h6⟩ := h
  refine ⟨⟨⟨⟨h1, h2⟩, h3⟩, ?_⟩, h5, ?_⟩
  · rw [shutM_len]; exact h4
  · refine List.all_eq_true.2 fun x hx => ?_
    have hx : x ∈ onesIn m.cost.length (openTo m xs day m.cost.length) := hx
    unfold onesIn at hx
    obtain ⟨i, _, rfl⟩ := List.mem_map.1 hx
    split <;> rfl
noncomputable def largestM (m : MapV) (xs : List Area) (day : Int) : Option (List Int) :=
  if areasB m xs && inB day 0 364 then some (bestOf (partsM m.cost.length (passB (shutM m xs day)) (nextL (shutM m xs day)) m.cost.length)) else none
theorem largestM_len (m : MapV) (xs : List Area) (day : Int) : ((largestM m xs day).getD []).length ≤ 36 := by
  unfold largestM
  split
  · rename_i h
    simp only [Bool.and_eq_true] at h
    obtain ⟨h1, h2, _⟩ := mapB_size (areasB_at h.1).1
    have := bestOf_len (N := m.cost.length) (l := partsM m.cost.length (passB (shutM m xs day)) (nextL (shutM m xs day)) m.cost.length) (partsM_len _)
    simp only [Option.getD_some]
    omega
  · simp
theorem own_up {w : World} {B t s n c : Nat} {A : Option Addr} {cs : List Value} (h : w.ownsRow 0 t s (.slice A n c) n cs) (hB : ∀ b, OwnB A b → B ≤ b) : w.ownsRow B t s (.slice A n c) n cs := by
  rcases own_open h with ⟨rfl, rfl, rfl, rfl⟩ | ⟨g, cur, rfl, _, h2, h3, h4, h5, h6⟩
  · exact ⟨by simp, .inl ⟨rfl, rfl⟩⟩
  · exact own_shut (hB g rfl) h2 h3 h4 h5 h6
theorem row_cell {w : World} {S : Nat → Prop} {n c k : Nat} {A : Option Addr} {rs : List (Hd (List Int))} (h : MineR rowSh w S 22 3 A n c rs) (hk : k < rs.length) :
    ∃ g, A = some ⟨g, 0, none⟩ ∧ w.cell? ⟨g, k, none⟩ = some (.slice rs[k].A rs[k].n rs[k].c) ∧ w.ownsRow 0 3 1 (.slice rs[k].A rs[k].n rs[k].c) rs[k].n (ints rs[k].x) ∧ (∀ b, OwnB rs[k].A b → S b) ∧ rs[k].n = rs[k].x.length := by
  have hc := h.count
  obtain ⟨g, curo, rfl, hS, hBo, hclo, hncl, hget⟩ := h.block (by omega)
  have hm := h.inners.each rs[k] (List.getElem_mem hk)
  have ho := hget k 0 hk (by decide)
  rw [show k * rowSh.s + 0 = k from Nat.mul_one k] at ho
  have ho2 : curo[k]? = some (.slice rs[k].A rs[k].n rs[k].c) := ho
  refine ⟨g, rfl, by rw [hBo.cell, ho2], hm.own, hm.top, ?_⟩
  have h1 := hm.own.1
  rw [show rowSh.inner rs[k].x = ints rs[k].x from rfl, ints_length, show rowSh.is = 1 from rfl, Nat.mul_one] at h1
  exact h1.symm
/-- The new map, its row of costs still empty. -/
structure NewMap (w wx : World) (m : MapV) (n2 : Nat) (zs : List Value) (cs : List Value) (gp gq : Nat) (A9 : Option Addr) (c9 : Nat) : Prop where
  old : Blk wx w.heap.size 29 cs
  box : Blk wx gp 29 [.int .i64 m.width, .int .i64 m.height, .slice A9 m.rise.length c9, .slice (some ⟨gq, 0, none⟩) n2 n2]
  row : Blk wx gq 3 zs
  rise : wx.ownsRow (w.heap.size + 1) 3 1 (.slice A9 m.rise.length c9) m.rise.length (ints m.rise)
  far : gp ≠ gq ∧ w.heap.size < gp ∧ w.heap.size < gq ∧ ∀ b, OwnB A9 b → b ≠ gp ∧ b ≠ gq
  kept : Below w.heap.size w wx

set_option maxRecDepth 100000 in
set_option maxHeartbeats 8000000 in
theorem LargestPart_any (A1 A2 : Option Addr) (n1 n2 c1 c2 : Nat) (m : MapV) (A : Option Addr) (n c : Nat) (xs : List Area) (day : Int) (w : World) (hm : SeesMap w A1 n1 A2 n2 m) (hn' : n1 ≤ 1048576 ∧ n2 ≤ 1048576) (hx : SeesN areaSh w 0 A n xs) (hn : n ≤ 1048576) (hi : ∀ x ∈ xs, x.cnt ≤ 1048576) :
    Calls Try.prog 51 #[.agg #[.int .i64 m.width, .int .i64 m.height, .slice A1 n1 c1, .slice A2 n2 c2], .slice A n c, .int .i64 day] w (GivesInts w (largestM m xs day)) := by
  have HL2 := Lib.hid hm.f2.icount
  have HL1 := Lib.hid hm.f1.icount
  go_enter Try.func51, Try.ntmps51
  go_wp2_with fail
  have K0 : Below w.heap.size w (w.alloc (.cells #[.int .i64 m.width, .int .i64 m.height, .slice A1 n1 c1, .slice A2 n2 c2] 29)) := (Below.refl _ _).alloc (Nat.le_refl _) _
  have Bm0 : Blk (w.alloc (.cells #[.int .i64 m.width, .int .i64 m.height, .slice A1 n1 c1, .slice A2 n2 c2] 29)) w.heap.size 29 [.int .i64 m.width, .int .i64 m.height, .slice A1 n1 c1, .slice A2 n2 c2] := Blk.at_ rfl
  refine (AreAreas_any _ _ _ _ _ _ m _ _ _ xs _ (hm.next K0) hn' (hx.next K0) hn hi).mono ?_
  cases g1 : areasB m xs
  · rintro e w1 ⟨rfl, b1⟩
    go_wp2_with fail
    go_ret2
    rw [show largestM m xs day = none by simp [largestM, g1]]
    exact gives_nil (bel_then K0 b1)
  · rintro e w1 ⟨rfl, b1⟩
    have g0 := (areasB_at g1).1
    have K1 := bel_then K0 b1
    have Bm1 := Bm0.next b1
    cases g3 : inB day 0 364
    · go_wp2_with (go_at_call 69; refine (isYearDay_any _ _).mono ?_; rintro e w' ⟨rfl, rfl⟩)
      go_ret2
      rw [show largestM m xs day = none by simp [largestM, g3]]
      exact gives_nil (bel_then K0 b1)
    · have HR := Lib.hid (show largestM m xs day = some (bestOf (partsM m.cost.length (passB (shutM m xs day)) (nextL (shutM m xs day)) m.cost.length)) by simp [largestM, g1, g3])
      have G0 := Lib.hid g0
      obtain ⟨hp, hcl, hrl⟩ := mapB_size g0
      have hN36 : m.cost.length ≤ 36 := by omega
      have hn36 : n2 ≤ 36 := by have := HL2.out; omega
      have hn16 : n1 ≤ 36 := by have := HL1.out; omega
      obtain ⟨zs, hzs⟩ : ∃ zs, List.replicate n2 (Value.int .i64 0) = zs := ⟨_, rfl⟩
      have hmk : ∀ w : World, (Instr.makeSlice 22 (.int .i64 (n2 : Int)) (.int .i64 (n2 : Int))).run Try.prog w = .ok (.slice (some ⟨w.heap.size, 0, none⟩) n2 n2) (w.alloc (.cells zs.toArray 3)) := fun w => by
        rw [← hzs]
        exact make_ones (P := Try.prog) n2 Try.underlying22 info_int rfl (by omega) (by omega) w
      have HZ := Lib.hid (show zs = ints (onesIn n2 []) by rw [← hzs, onesIn_nil, ints_replicate])
      clear g0 hcl hrl hp g1 hzs K0 Bm0 b1
      have cm := Bm1.cell
      go_upto_region 3 with (go_at_call 69; refine (isYearDay_any _ _).mono ?_; rintro e w' ⟨rfl, rfl⟩)
      go_cut [8] (fun s8 wx => ∃ (gp gq : Nat) (A9 : Option Addr) (c9 : Nat), s8 = .pointer (some ⟨gp, 0, none⟩) ∧ NewMap w wx m n2 zs [.int .i64 m.width, .int .i64 m.height, .slice A1 n1 c1, .slice A2 n2 c2] gp gq A9 c9)
      case first =>
        refine wp_region_held_drew (S := fun w' => w'.cell? ⟨w.heap.size, 0, none⟩ = some (.int .i64 m.width) ∧ w'.cell? ⟨w.heap.size, 1, none⟩ = some (.int .i64 m.height) ∧ w'.cell? ⟨w.heap.size, 2, none⟩ = some (.slice A1 n1 c1) ∧ w'.cell? ⟨w.heap.size, 3, none⟩ = some (.slice A2 n2 c2)) (by kernel_rfl) (by (try dsimp only); go_keep) (fun hHeld => ?_)
        have b2 := (Quiet.one w1).below w1.heap.size
        have K2 := bel_then K1 b2
        have M := Bm1.next b2
        clear cm Bm1 b2
        generalize w1.drew = v2 at *
        have cm := M.cell
        refine wpAnyH_take (i := 0) (v := ?_) rfl (by kernel_rfl) (by kernel_rfl) (by kernel_rfl) (fun _ _ _ h => h) (Or.inl ⟨by rfl, ?_⟩) (by assumption) ?_
        rotate_left 1
        · (intro w hSw; (try dsimp only at hSw); go_simp; try with_reducible rfl)
        (try simp only [Act.put, List.setIfInBounds_toArray, List.set_cons_zero, List.set_cons_succ, List.getElem_toArray, List.getElem_cons_zero])
        refine wpAnyH_take (i := 1) (v := ?_) rfl (by kernel_rfl) (by kernel_rfl) (by kernel_rfl) (fun _ _ _ h => h) (Or.inl ⟨by rfl, ?_⟩) (by assumption) ?_
        rotate_left 1
        · (intro w hSw; (try dsimp only at hSw); go_simp; try with_reducible rfl)
        (try simp only [Act.put, List.setIfInBounds_toArray, List.set_cons_zero, List.set_cons_succ, List.getElem_toArray, List.getElem_cons_zero, List.getElem_cons_succ])
        refine wpAnyH_take (i := 2) (v := ?_) rfl (by kernel_rfl) (by kernel_rfl) (by kernel_rfl) (fun _ _ _ h => h) (Or.inl ⟨by rfl, ?_⟩) (by assumption) ?_
        rotate_left 1
        · (intro w hSw; (try dsimp only at hSw); go_simp; try with_reducible rfl)
        (try simp only [Act.put, List.setIfInBounds_toArray, List.set_cons_zero, List.set_cons_succ, List.getElem_toArray, List.getElem_cons_zero, List.getElem_cons_succ])
        refine wpAnyH_take (i := 3) (v := ?_) rfl (by kernel_rfl) (by kernel_rfl) (by kernel_rfl) (fun _ _ _ h => h) (Or.inl ⟨by rfl, ?_⟩) (by assumption) ?_
        rotate_left 1
        · (intro w hSw; (try dsimp only at hSw); go_simp; try with_reducible rfl)
        (try simp only [Act.put, List.setIfInBounds_toArray, List.set_cons_zero, List.set_cons_succ, List.getElem_toArray, List.getElem_cons_zero, List.getElem_cons_succ])
        refine wpAnyH_take (i := 4) (v := ?_) rfl (by kernel_rfl) (by kernel_rfl) (by kernel_rfl) (fun _ _ _ h => h) (Or.inl ⟨by rfl, ?_⟩) (by assumption) ?_
        rotate_left 1
        · (intro w hSw; (try dsimp only at hSw); go_simp; try with_reducible rfl)
        (try simp only [Act.put, List.setIfInBounds_toArray, List.set_cons_zero, List.set_cons_succ, List.getElem_toArray, List.getElem_cons_zero, List.getElem_cons_succ])
        refine wpAnyH_take (i := 5) (v := ?_) rfl (by kernel_rfl) (by kernel_rfl) (by kernel_rfl) (fun _ _ _ h => h) (Or.inl ⟨by rfl, ?_⟩) (by assumption) ?_
        rotate_left 1
        · (intro w hSw; (try dsimp only at hSw); go_simp; try with_reducible rfl)
        (try simp only [Act.put, List.setIfInBounds_toArray, List.set_cons_zero, List.set_cons_succ, List.getElem_toArray, List.getElem_cons_zero, List.getElem_cons_succ])
        refine wpAnyH_take (i := 7) (v := ?_) rfl (by kernel_rfl) (by kernel_rfl) (by kernel_rfl) (fun _ _ _ h => h) (Or.inl ⟨by rfl, ?_⟩) (by assumption) ?_
        rotate_left 1
        · (intro w hSw; (try dsimp only at hSw); go_simp; try with_reducible rfl)
        (try simp only [Act.put, List.setIfInBounds_toArray, List.set_cons_zero, List.set_cons_succ, List.getElem_toArray, List.getElem_cons_zero, List.getElem_cons_succ])
        refine wpAnyH_take (i := 8) (v := ?_) rfl (by kernel_rfl) (by kernel_rfl) (by kernel_rfl) (fun _ _ _ h => h) (Or.inl ⟨by rfl, ?_⟩) (by assumption) ?_
        rotate_left 1
        · (intro w hSw; (try dsimp only at hSw); go_simp; try with_reducible rfl)
        (try simp only [Act.put, List.setIfInBounds_toArray, List.set_cons_zero, List.set_cons_succ, List.getElem_toArray, List.getElem_cons_zero, List.getElem_cons_succ])
        refine wpAnyH_take (i := 9) (v := ?_) rfl (by kernel_rfl) (by kernel_rfl) (by kernel_rfl) (fun _ _ _ h => h) (Or.inl ⟨by rfl, ?_⟩) (by assumption) ?_
        rotate_left 1
        · (intro w hSw; (try dsimp only at hSw); go_simp; try with_reducible rfl)
        (try simp only [Act.put, List.setIfInBounds_toArray, List.set_cons_zero, List.set_cons_succ, List.getElem_toArray, List.getElem_cons_zero, List.getElem_cons_succ])
        refine wpAnyH_ready (rs := [6, 10, 12]) (by kernel_rfl) (by simp) ?_
        refine AllReadyH.cons rfl (fun K hK => ?_) ?_
        · go_simp
          refine (copyInts_any _ _ _ _ m.rise _ (hm.f1.next K2) (by omega)).mono ?_
          rintro e v3 ⟨A9, c9, rfl, o9, b3⟩
          have CO := own_base o9 (show w.heap.size + 1 ≤ v2.heap.size from M.lt)
          have K3 := bel_then K2 b3
          have Z3 := b3.size
          clear cm
          replace M := M.next b3
          clear o9 b3
          have cm := M.cell
          go_wp2_with fail
          refine hK.out _ _ (by (try dsimp only); go_keep) (fun hHeld => ?_)
          clear hK K
          refine wpAnyH_ready (rs := [10, 12]) (by kernel_rfl) (by simp) ?_
          refine AllReadyH.cons rfl (fun K hK => ?_) ?_
          · go_simp
            have CO' := CO
            refine hK.out _ _ (by (try dsimp only); go_keep) (fun hHeld => ?_)
            clear hK K
            try simp only [Act.put, List.setIfInBounds_toArray, List.set_cons_zero, List.set_cons_succ, List.getElem_toArray, List.getElem_cons_zero, List.getElem_cons_succ]
            have b4 : Below v3.heap.size v3 (v3.alloc (.cells zs.toArray 3)) := (Below.refl _ _).alloc (Nat.le_refl _) _
            have ml := M.lt
            have K4 := bel_then K3 b4
            have Z4 := b4.size
            clear cm
            replace M := M.next b4
            replace CO := own_below CO b4
            have QB : Blk (v3.alloc (.cells zs.toArray 3)) v3.heap.size 3 zs := Blk.at_ rfl
            have FQ : ∀ b, OwnB A9 b → b ≠ v3.heap.size := fun b hb => by have := (own_top CO' hb).2; omega
            have logq : w.heap.size < v3.heap.size := ml
            clear ml b4 CO'
            generalize (v3.alloc (.cells zs.toArray 3)) = v4 at *
            generalize v3.heap.size = gq at *
            have cm := M.cell
            refine wpAnyH_take (i := 11) (v := ?_) rfl (by kernel_rfl) (by kernel_rfl) (by kernel_rfl) (fun _ _ _ h => h) (Or.inl ⟨by rfl, ?_⟩) (by assumption) ?_
            rotate_left 1
            · (intro w hSw; (try dsimp only at hSw); go_simp; try with_reducible rfl)
            (try simp only [Act.put, List.setIfInBounds_toArray, List.set_cons_zero, List.set_cons_succ, List.getElem_toArray, List.getElem_cons_zero, List.getElem_cons_succ])
            refine wpAnyH_ready (rs := [12]) (by kernel_rfl) (by simp) ?_
            refine AllReadyH.cons rfl (fun K hK => ?_) AllReadyH.nil
            go_simp
            have CO' := CO
            have QB' := QB
            refine hK.out _ _ (by (try dsimp only); go_keep) (fun hHeld => ?_)
            clear hK K
            try simp only [Act.put, List.setIfInBounds_toArray, List.set_cons_zero, List.set_cons_succ, List.getElem_toArray, List.getElem_cons_zero, List.getElem_cons_succ]
            have b5 : Below v4.heap.size v4 (v4.alloc (.cells #[.int .i64 0, .int .i64 0, .slice none 0 0, .slice none 0 0] 29)) := (Below.refl _ _).alloc (Nat.le_refl _) _
            have ml := M.lt
            have K5 := bel_then K4 b5
            have Z5 := b5.size
            clear cm
            replace M := M.next b5
            replace CO := own_below CO b5
            replace QB := QB.next b5
            have RB : Blk (v4.alloc (.cells #[.int .i64 0, .int .i64 0, .slice none 0 0, .slice none 0 0] 29)) v4.heap.size 29 [.int .i64 0, .int .i64 0, .slice none 0 0, .slice none 0 0] := Blk.at_ rfl
            have FP : ∀ b, OwnB A9 b → b ≠ v4.heap.size := fun b hb => by have := (own_top CO' hb).2; omega
            have NE : gq ≠ v4.heap.size := by have := QB'.lt; omega
            have logp : w.heap.size < v4.heap.size := ml
            clear ml b5 CO' QB'
            generalize (v4.alloc (.cells #[.int .i64 0, .int .i64 0, .slice none 0 0, .slice none 0 0] 29)) = v5 at *
            generalize v4.heap.size = gp at *
            have cm := M.cell
            have rf := RB.frozen
            have rc := RB.cell
            refine wpAnyH_ready (rs := [13]) (by kernel_rfl) (by simp) ?_
            refine AllReadyH.cons rfl (fun K hK => ?_) AllReadyH.nil
            go_simp
            have ho : Only (fun b => b = gp) v5 ((((v5.setCell ⟨gp, 0, none⟩ (.int .i64 m.width)).setCell ⟨gp, 1, none⟩ (.int .i64 m.height)).setCell ⟨gp, 2, none⟩ (.slice A9 m.rise.length c9)).setCell ⟨gp, 3, none⟩ (.slice (some ⟨gq, 0, none⟩) n2 n2)) := (only_set (only_set (only_set (only_set (Only.refl (fun b => b = gp) v5) 0 (.int .i64 m.width)) 1 (.int .i64 m.height)) 2 (.slice A9 m.rise.length c9)) 3 (.slice (some ⟨gq, 0, none⟩) n2 n2))
            have hne : gp ≠ gq := by first | exact NE | exact NE.symm
            have M2 := M.only ho (fun (e : _ = _) => by omega)
            have NM : NewMap w ((((v5.setCell ⟨gp, 0, none⟩ (.int .i64 m.width)).setCell ⟨gp, 1, none⟩ (.int .i64 m.height)).setCell ⟨gp, 2, none⟩ (.slice A9 m.rise.length c9)).setCell ⟨gp, 3, none⟩ (.slice (some ⟨gq, 0, none⟩) n2 n2)) m n2 zs [.int .i64 m.width, .int .i64 m.height, .slice A1 n1 c1, .slice A2 n2 c2] gp gq A9 c9 := ⟨M2, (Blk.set_ (Blk.set_ (Blk.set_ (Blk.set_ RB 0 (.int .i64 m.width)) 1 (.int .i64 m.height)) 2 (.slice A9 m.rise.length c9)) 3 (.slice (some ⟨gq, 0, none⟩) n2 n2)), QB.only ho (fun (e : _ = _) => hne e.symm), own_only CO ho (fun b hb (e : _ = _) => FP b hb e), ⟨hne, logp, logq, fun b hb => ⟨FP b hb, FQ b hb⟩⟩, bel_new K5 ho (by have := K5.size; omega) (by omega)⟩
            refine hK.out _ _ (by (try dsimp only); exact ⟨M2.cell 0, M2.cell 1, M2.cell 2, M2.cell 3⟩) (fun hHeld => ?_)
            clear hK K
            try simp only [Act.put, List.setIfInBounds_toArray, List.set_cons_zero, List.set_cons_succ, List.getElem_toArray, List.getElem_cons_zero, List.getElem_cons_succ]
            refine wpAnyH_done (by kernel_rfl) ?_ _
            go_wp2_with fail
            go_meet
            exact ⟨gp, gq, A9, c9, rfl, NM⟩
          refine AllReadyH.cons rfl (fun K hK => ?_) AllReadyH.nil
          · go_simp
            have CO' := CO
            refine hK.out _ _ (by (try dsimp only); go_keep) (fun hHeld => ?_)
            clear hK K
            try simp only [Act.put, List.setIfInBounds_toArray, List.set_cons_zero, List.set_cons_succ, List.getElem_toArray, List.getElem_cons_zero, List.getElem_cons_succ]
            have b4 : Below v3.heap.size v3 (v3.alloc (.cells #[.int .i64 0, .int .i64 0, .slice none 0 0, .slice none 0 0] 29)) := (Below.refl _ _).alloc (Nat.le_refl _) _
            have ml := M.lt
            have K4 := bel_then K3 b4
            have Z4 := b4.size
            clear cm
            replace M := M.next b4
            replace CO := own_below CO b4
            have RB : Blk (v3.alloc (.cells #[.int .i64 0, .int .i64 0, .slice none 0 0, .slice none 0 0] 29)) v3.heap.size 29 [.int .i64 0, .int .i64 0, .slice none 0 0, .slice none 0 0] := Blk.at_ rfl
            have FP : ∀ b, OwnB A9 b → b ≠ v3.heap.size := fun b hb => by have := (own_top CO' hb).2; omega
            have logp : w.heap.size < v3.heap.size := ml
            clear ml b4 CO'
            generalize (v3.alloc (.cells #[.int .i64 0, .int .i64 0, .slice none 0 0, .slice none 0 0] 29)) = v4 at *
            generalize v3.heap.size = gp at *
            have cm := M.cell
            have rf := RB.frozen
            have rc := RB.cell
            refine wpAnyH_ready (rs := [10]) (by kernel_rfl) (by simp) ?_
            refine AllReadyH.cons rfl (fun K hK => ?_) AllReadyH.nil
            go_simp
            have CO' := CO
            have RB' := RB
            refine hK.out _ _ (by (try dsimp only); go_keep) (fun hHeld => ?_)
            clear hK K
            try simp only [Act.put, List.setIfInBounds_toArray, List.set_cons_zero, List.set_cons_succ, List.getElem_toArray, List.getElem_cons_zero, List.getElem_cons_succ]
            have b5 : Below v4.heap.size v4 (v4.alloc (.cells zs.toArray 3)) := (Below.refl _ _).alloc (Nat.le_refl _) _
            have ml := M.lt
            have K5 := bel_then K4 b5
            have Z5 := b5.size
            clear cm rc rf
            replace M := M.next b5
            replace CO := own_below CO b5
            replace RB := RB.next b5
            have QB : Blk (v4.alloc (.cells zs.toArray 3)) v4.heap.size 3 zs := Blk.at_ rfl
            have FQ : ∀ b, OwnB A9 b → b ≠ v4.heap.size := fun b hb => by have := (own_top CO' hb).2; omega
            have NE : gp ≠ v4.heap.size := by have := RB'.lt; omega
            have logq : w.heap.size < v4.heap.size := ml
            clear ml b5 CO' RB'
            generalize (v4.alloc (.cells zs.toArray 3)) = v5 at *
            generalize v4.heap.size = gq at *
            have cm := M.cell
            have rf := RB.frozen
            have rc := RB.cell
            refine wpAnyH_take (i := 11) (v := ?_) rfl (by kernel_rfl) (by kernel_rfl) (by kernel_rfl) (fun _ _ _ h => h) (Or.inl ⟨by rfl, ?_⟩) (by assumption) ?_
            rotate_left 1
            · (intro w hSw; (try dsimp only at hSw); go_simp; try with_reducible rfl)
            (try simp only [Act.put, List.setIfInBounds_toArray, List.set_cons_zero, List.set_cons_succ, List.getElem_toArray, List.getElem_cons_zero, List.getElem_cons_succ])
            refine wpAnyH_ready (rs := [13]) (by kernel_rfl) (by simp) ?_
            refine AllReadyH.cons rfl (fun K hK => ?_) AllReadyH.nil
            go_simp
            have ho : Only (fun b => b = gp) v5 ((((v5.setCell ⟨gp, 0, none⟩ (.int .i64 m.width)).setCell ⟨gp, 1, none⟩ (.int .i64 m.height)).setCell ⟨gp, 2, none⟩ (.slice A9 m.rise.length c9)).setCell ⟨gp, 3, none⟩ (.slice (some ⟨gq, 0, none⟩) n2 n2)) := (only_set (only_set (only_set (only_set (Only.refl (fun b => b = gp) v5) 0 (.int .i64 m.width)) 1 (.int .i64 m.height)) 2 (.slice A9 m.rise.length c9)) 3 (.slice (some ⟨gq, 0, none⟩) n2 n2))
            have hne : gp ≠ gq := by first | exact NE | exact NE.symm
            have M2 := M.only ho (fun (e : _ = _) => by omega)
            have NM : NewMap w ((((v5.setCell ⟨gp, 0, none⟩ (.int .i64 m.width)).setCell ⟨gp, 1, none⟩ (.int .i64 m.height)).setCell ⟨gp, 2, none⟩ (.slice A9 m.rise.length c9)).setCell ⟨gp, 3, none⟩ (.slice (some ⟨gq, 0, none⟩) n2 n2)) m n2 zs [.int .i64 m.width, .int .i64 m.height, .slice A1 n1 c1, .slice A2 n2 c2] gp gq A9 c9 := ⟨M2, (Blk.set_ (Blk.set_ (Blk.set_ (Blk.set_ RB 0 (.int .i64 m.width)) 1 (.int .i64 m.height)) 2 (.slice A9 m.rise.length c9)) 3 (.slice (some ⟨gq, 0, none⟩) n2 n2)), QB.only ho (fun (e : _ = _) => hne e.symm), own_only CO ho (fun b hb (e : _ = _) => FP b hb e), ⟨hne, logp, logq, fun b hb => ⟨FP b hb, FQ b hb⟩⟩, bel_new K5 ho (by have := K5.size; omega) (by omega)⟩
            refine hK.out _ _ (by (try dsimp only); exact ⟨M2.cell 0, M2.cell 1, M2.cell 2, M2.cell 3⟩) (fun hHeld => ?_)
            clear hK K
            try simp only [Act.put, List.setIfInBounds_toArray, List.set_cons_zero, List.set_cons_succ, List.getElem_toArray, List.getElem_cons_zero, List.getElem_cons_succ]
            refine wpAnyH_done (by kernel_rfl) ?_ _
            go_wp2_with fail
            go_meet
            exact ⟨gp, gq, A9, c9, rfl, NM⟩
        refine AllReadyH.cons rfl (fun K hK => ?_) ?_
        · go_simp
          refine hK.out _ _ (by (try dsimp only); go_keep) (fun hHeld => ?_)
          clear hK K
          try simp only [Act.put, List.setIfInBounds_toArray, List.set_cons_zero, List.set_cons_succ, List.getElem_toArray, List.getElem_cons_zero, List.getElem_cons_succ]
          have b3 : Below v2.heap.size v2 (v2.alloc (.cells zs.toArray 3)) := (Below.refl _ _).alloc (Nat.le_refl _) _
          have ml := M.lt
          have K3 := bel_then K2 b3
          have Z3 := b3.size
          clear cm
          replace M := M.next b3
          have QB : Blk (v2.alloc (.cells zs.toArray 3)) v2.heap.size 3 zs := Blk.at_ rfl
          have logq : w.heap.size < v2.heap.size := ml
          clear ml b3
          generalize (v2.alloc (.cells zs.toArray 3)) = v3 at *
          generalize v2.heap.size = gq at *
          have cm := M.cell
          refine wpAnyH_ready (rs := [6, 12]) (by kernel_rfl) (by simp) ?_
          refine AllReadyH.cons rfl (fun K hK => ?_) ?_
          · go_simp
            refine (copyInts_any _ _ _ _ m.rise _ (hm.f1.next K3) (by omega)).mono ?_
            rintro e v4 ⟨A9, c9, rfl, o9, b4⟩
            have CO := own_base o9 (show w.heap.size + 1 ≤ v3.heap.size from M.lt)
            have FQ : ∀ b, OwnB A9 b → b ≠ gq := fun b hb => by have := (own_top o9 hb).1; have := QB.lt; omega
            have K4 := bel_then K3 b4
            have Z4 := b4.size
            clear cm
            replace M := M.next b4
            replace QB := QB.next b4
            clear o9 b4
            have cm := M.cell
            go_wp2_with fail
            refine hK.out _ _ (by (try dsimp only); go_keep) (fun hHeld => ?_)
            clear hK K
            refine wpAnyH_take (i := 11) (v := ?_) rfl (by kernel_rfl) (by kernel_rfl) (by kernel_rfl) (fun _ _ _ h => h) (Or.inl ⟨by rfl, ?_⟩) (by assumption) ?_
            rotate_left 1
            · (intro w hSw; (try dsimp only at hSw); go_simp; try with_reducible rfl)
            (try simp only [Act.put, List.setIfInBounds_toArray, List.set_cons_zero, List.set_cons_succ, List.getElem_toArray, List.getElem_cons_zero, List.getElem_cons_succ])
            refine wpAnyH_ready (rs := [12]) (by kernel_rfl) (by simp) ?_
            refine AllReadyH.cons rfl (fun K hK => ?_) AllReadyH.nil
            go_simp
            have CO' := CO
            have QB' := QB
            refine hK.out _ _ (by (try dsimp only); go_keep) (fun hHeld => ?_)
            clear hK K
            try simp only [Act.put, List.setIfInBounds_toArray, List.set_cons_zero, List.set_cons_succ, List.getElem_toArray, List.getElem_cons_zero, List.getElem_cons_succ]
            have b5 : Below v4.heap.size v4 (v4.alloc (.cells #[.int .i64 0, .int .i64 0, .slice none 0 0, .slice none 0 0] 29)) := (Below.refl _ _).alloc (Nat.le_refl _) _
            have ml := M.lt
            have K5 := bel_then K4 b5
            have Z5 := b5.size
            clear cm
            replace M := M.next b5
            replace CO := own_below CO b5
            replace QB := QB.next b5
            have RB : Blk (v4.alloc (.cells #[.int .i64 0, .int .i64 0, .slice none 0 0, .slice none 0 0] 29)) v4.heap.size 29 [.int .i64 0, .int .i64 0, .slice none 0 0, .slice none 0 0] := Blk.at_ rfl
            have FP : ∀ b, OwnB A9 b → b ≠ v4.heap.size := fun b hb => by have := (own_top CO' hb).2; omega
            have NE : gq ≠ v4.heap.size := by have := QB'.lt; omega
            have logp : w.heap.size < v4.heap.size := ml
            clear ml b5 CO' QB'
            generalize (v4.alloc (.cells #[.int .i64 0, .int .i64 0, .slice none 0 0, .slice none 0 0] 29)) = v5 at *
            generalize v4.heap.size = gp at *
            have cm := M.cell
            have rf := RB.frozen
            have rc := RB.cell
            refine wpAnyH_ready (rs := [13]) (by kernel_rfl) (by simp) ?_
            refine AllReadyH.cons rfl (fun K hK => ?_) AllReadyH.nil
            go_simp
            have ho : Only (fun b => b = gp) v5 ((((v5.setCell ⟨gp, 0, none⟩ (.int .i64 m.width)).setCell ⟨gp, 1, none⟩ (.int .i64 m.height)).setCell ⟨gp, 2, none⟩ (.slice A9 m.rise.length c9)).setCell ⟨gp, 3, none⟩ (.slice (some ⟨gq, 0, none⟩) n2 n2)) := (only_set (only_set (only_set (only_set (Only.refl (fun b => b = gp) v5) 0 (.int .i64 m.width)) 1 (.int .i64 m.height)) 2 (.slice A9 m.rise.length c9)) 3 (.slice (some ⟨gq, 0, none⟩) n2 n2))
            have hne : gp ≠ gq := by first | exact NE | exact NE.symm
            have M2 := M.only ho (fun (e : _ = _) => by omega)
            have NM : NewMap w ((((v5.setCell ⟨gp, 0, none⟩ (.int .i64 m.width)).setCell ⟨gp, 1, none⟩ (.int .i64 m.height)).setCell ⟨gp, 2, none⟩ (.slice A9 m.rise.length c9)).setCell ⟨gp, 3, none⟩ (.slice (some ⟨gq, 0, none⟩) n2 n2)) m n2 zs [.int .i64 m.width, .int .i64 m.height, .slice A1 n1 c1, .slice A2 n2 c2] gp gq A9 c9 := ⟨M2, (Blk.set_ (Blk.set_ (Blk.set_ (Blk.set_ RB 0 (.int .i64 m.width)) 1 (.int .i64 m.height)) 2 (.slice A9 m.rise.length c9)) 3 (.slice (some ⟨gq, 0, none⟩) n2 n2)), QB.only ho (fun (e : _ = _) => hne e.symm), own_only CO ho (fun b hb (e : _ = _) => FP b hb e), ⟨hne, logp, logq, fun b hb => ⟨FP b hb, FQ b hb⟩⟩, bel_new K5 ho (by have := K5.size; omega) (by omega)⟩
            refine hK.out _ _ (by (try dsimp only); exact ⟨M2.cell 0, M2.cell 1, M2.cell 2, M2.cell 3⟩) (fun hHeld => ?_)
            clear hK K
            try simp only [Act.put, List.setIfInBounds_toArray, List.set_cons_zero, List.set_cons_succ, List.getElem_toArray, List.getElem_cons_zero, List.getElem_cons_succ]
            refine wpAnyH_done (by kernel_rfl) ?_ _
            go_wp2_with fail
            go_meet
            exact ⟨gp, gq, A9, c9, rfl, NM⟩
          refine AllReadyH.cons rfl (fun K hK => ?_) AllReadyH.nil
          · go_simp
            have QB' := QB
            refine hK.out _ _ (by (try dsimp only); go_keep) (fun hHeld => ?_)
            clear hK K
            try simp only [Act.put, List.setIfInBounds_toArray, List.set_cons_zero, List.set_cons_succ, List.getElem_toArray, List.getElem_cons_zero, List.getElem_cons_succ]
            have b4 : Below v3.heap.size v3 (v3.alloc (.cells #[.int .i64 0, .int .i64 0, .slice none 0 0, .slice none 0 0] 29)) := (Below.refl _ _).alloc (Nat.le_refl _) _
            have ml := M.lt
            have K4 := bel_then K3 b4
            have Z4 := b4.size
            clear cm
            replace M := M.next b4
            replace QB := QB.next b4
            have RB : Blk (v3.alloc (.cells #[.int .i64 0, .int .i64 0, .slice none 0 0, .slice none 0 0] 29)) v3.heap.size 29 [.int .i64 0, .int .i64 0, .slice none 0 0, .slice none 0 0] := Blk.at_ rfl
            have NE : gq ≠ v3.heap.size := by have := QB'.lt; omega
            have logp : w.heap.size < v3.heap.size := ml
            clear ml b4 QB'
            generalize (v3.alloc (.cells #[.int .i64 0, .int .i64 0, .slice none 0 0, .slice none 0 0] 29)) = v4 at *
            generalize v3.heap.size = gp at *
            have cm := M.cell
            have rf := RB.frozen
            have rc := RB.cell
            refine wpAnyH_ready (rs := [6]) (by kernel_rfl) (by simp) ?_
            refine AllReadyH.cons rfl (fun K hK => ?_) AllReadyH.nil
            go_simp
            refine (copyInts_any _ _ _ _ m.rise _ (hm.f1.next K4) (by omega)).mono ?_
            rintro e v5 ⟨A9, c9, rfl, o9, b5⟩
            have CO := own_base o9 (show w.heap.size + 1 ≤ v4.heap.size from M.lt)
            have FQ : ∀ b, OwnB A9 b → b ≠ gq := fun b hb => by have := (own_top o9 hb).1; have := QB.lt; omega
            have FP : ∀ b, OwnB A9 b → b ≠ gp := fun b hb => by have := (own_top o9 hb).1; have := RB.lt; omega
            have K5 := bel_then K4 b5
            have Z5 := b5.size
            clear cm rc rf
            replace M := M.next b5
            replace QB := QB.next b5
            replace RB := RB.next b5
            clear o9 b5
            have cm := M.cell
            have rf := RB.frozen
            have rc := RB.cell
            go_wp2_with fail
            refine hK.out _ _ (by (try dsimp only); go_keep) (fun hHeld => ?_)
            clear hK K
            refine wpAnyH_take (i := 11) (v := ?_) rfl (by kernel_rfl) (by kernel_rfl) (by kernel_rfl) (fun _ _ _ h => h) (Or.inl ⟨by rfl, ?_⟩) (by assumption) ?_
            rotate_left 1
            · (intro w hSw; (try dsimp only at hSw); go_simp; try with_reducible rfl)
            (try simp only [Act.put, List.setIfInBounds_toArray, List.set_cons_zero, List.set_cons_succ, List.getElem_toArray, List.getElem_cons_zero, List.getElem_cons_succ])
            refine wpAnyH_ready (rs := [13]) (by kernel_rfl) (by simp) ?_
            refine AllReadyH.cons rfl (fun K hK => ?_) AllReadyH.nil
            go_simp
            have ho : Only (fun b => b = gp) v5 ((((v5.setCell ⟨gp, 0, none⟩ (.int .i64 m.width)).setCell ⟨gp, 1, none⟩ (.int .i64 m.height)).setCell ⟨gp, 2, none⟩ (.slice A9 m.rise.length c9)).setCell ⟨gp, 3, none⟩ (.slice (some ⟨gq, 0, none⟩) n2 n2)) := (only_set (only_set (only_set (only_set (Only.refl (fun b => b = gp) v5) 0 (.int .i64 m.width)) 1 (.int .i64 m.height)) 2 (.slice A9 m.rise.length c9)) 3 (.slice (some ⟨gq, 0, none⟩) n2 n2))
            have hne : gp ≠ gq := by first | exact NE | exact NE.symm
            have M2 := M.only ho (fun (e : _ = _) => by omega)
            have NM : NewMap w ((((v5.setCell ⟨gp, 0, none⟩ (.int .i64 m.width)).setCell ⟨gp, 1, none⟩ (.int .i64 m.height)).setCell ⟨gp, 2, none⟩ (.slice A9 m.rise.length c9)).setCell ⟨gp, 3, none⟩ (.slice (some ⟨gq, 0, none⟩) n2 n2)) m n2 zs [.int .i64 m.width, .int .i64 m.height, .slice A1 n1 c1, .slice A2 n2 c2] gp gq A9 c9 := ⟨M2, (Blk.set_ (Blk.set_ (Blk.set_ (Blk.set_ RB 0 (.int .i64 m.width)) 1 (.int .i64 m.height)) 2 (.slice A9 m.rise.length c9)) 3 (.slice (some ⟨gq, 0, none⟩) n2 n2)), QB.only ho (fun (e : _ = _) => hne e.symm), own_only CO ho (fun b hb (e : _ = _) => FP b hb e), ⟨hne, logp, logq, fun b hb => ⟨FP b hb, FQ b hb⟩⟩, bel_new K5 ho (by have := K5.size; omega) (by omega)⟩
            refine hK.out _ _ (by (try dsimp only); exact ⟨M2.cell 0, M2.cell 1, M2.cell 2, M2.cell 3⟩) (fun hHeld => ?_)
            clear hK K
            try simp only [Act.put, List.setIfInBounds_toArray, List.set_cons_zero, List.set_cons_succ, List.getElem_toArray, List.getElem_cons_zero, List.getElem_cons_succ]
            refine wpAnyH_done (by kernel_rfl) ?_ _
            go_wp2_with fail
            go_meet
            exact ⟨gp, gq, A9, c9, rfl, NM⟩
        refine AllReadyH.cons rfl (fun K hK => ?_) AllReadyH.nil
        · go_simp
          refine hK.out _ _ (by (try dsimp only); go_keep) (fun hHeld => ?_)
          clear hK K
          try simp only [Act.put, List.setIfInBounds_toArray, List.set_cons_zero, List.set_cons_succ, List.getElem_toArray, List.getElem_cons_zero, List.getElem_cons_succ]
          have b3 : Below v2.heap.size v2 (v2.alloc (.cells #[.int .i64 0, .int .i64 0, .slice none 0 0, .slice none 0 0] 29)) := (Below.refl _ _).alloc (Nat.le_refl _) _
          have ml := M.lt
          have K3 := bel_then K2 b3
          have Z3 := b3.size
          clear cm
          replace M := M.next b3
          have RB : Blk (v2.alloc (.cells #[.int .i64 0, .int .i64 0, .slice none 0 0, .slice none 0 0] 29)) v2.heap.size 29 [.int .i64 0, .int .i64 0, .slice none 0 0, .slice none 0 0] := Blk.at_ rfl
          have logp : w.heap.size < v2.heap.size := ml
          clear ml b3
          generalize (v2.alloc (.cells #[.int .i64 0, .int .i64 0, .slice none 0 0, .slice none 0 0] 29)) = v3 at *
          generalize v2.heap.size = gp at *
          have cm := M.cell
          have rf := RB.frozen
          have rc := RB.cell
          refine wpAnyH_ready (rs := [6, 10]) (by kernel_rfl) (by simp) ?_
          refine AllReadyH.cons rfl (fun K hK => ?_) ?_
          · go_simp
            refine (copyInts_any _ _ _ _ m.rise _ (hm.f1.next K3) (by omega)).mono ?_
            rintro e v4 ⟨A9, c9, rfl, o9, b4⟩
            have CO := own_base o9 (show w.heap.size + 1 ≤ v3.heap.size from M.lt)
            have FP : ∀ b, OwnB A9 b → b ≠ gp := fun b hb => by have := (own_top o9 hb).1; have := RB.lt; omega
            have K4 := bel_then K3 b4
            have Z4 := b4.size
            clear cm rc rf
            replace M := M.next b4
            replace RB := RB.next b4
            clear o9 b4
            have cm := M.cell
            have rf := RB.frozen
            have rc := RB.cell
            go_wp2_with fail
            refine hK.out _ _ (by (try dsimp only); go_keep) (fun hHeld => ?_)
            clear hK K
            refine wpAnyH_ready (rs := [10]) (by kernel_rfl) (by simp) ?_
            refine AllReadyH.cons rfl (fun K hK => ?_) AllReadyH.nil
            go_simp
            have CO' := CO
            have RB' := RB
            refine hK.out _ _ (by (try dsimp only); go_keep) (fun hHeld => ?_)
            clear hK K
            try simp only [Act.put, List.setIfInBounds_toArray, List.set_cons_zero, List.set_cons_succ, List.getElem_toArray, List.getElem_cons_zero, List.getElem_cons_succ]
            have b5 : Below v4.heap.size v4 (v4.alloc (.cells zs.toArray 3)) := (Below.refl _ _).alloc (Nat.le_refl _) _
            have ml := M.lt
            have K5 := bel_then K4 b5
            have Z5 := b5.size
            clear cm rc rf
            replace M := M.next b5
            replace CO := own_below CO b5
            replace RB := RB.next b5
            have QB : Blk (v4.alloc (.cells zs.toArray 3)) v4.heap.size 3 zs := Blk.at_ rfl
            have FQ : ∀ b, OwnB A9 b → b ≠ v4.heap.size := fun b hb => by have := (own_top CO' hb).2; omega
            have NE : gp ≠ v4.heap.size := by have := RB'.lt; omega
            have logq : w.heap.size < v4.heap.size := ml
            clear ml b5 CO' RB'
            generalize (v4.alloc (.cells zs.toArray 3)) = v5 at *
            generalize v4.heap.size = gq at *
            have cm := M.cell
            have rf := RB.frozen
            have rc := RB.cell
            refine wpAnyH_take (i := 11) (v := ?_) rfl (by kernel_rfl) (by kernel_rfl) (by kernel_rfl) (fun _ _ _ h => h) (Or.inl ⟨by rfl, ?_⟩) (by assumption) ?_
            rotate_left 1
            · (intro w hSw; (try dsimp only at hSw); go_simp; try with_reducible rfl)
            (try simp only [Act.put, List.setIfInBounds_toArray, List.set_cons_zero, List.set_cons_succ, List.getElem_toArray, List.getElem_cons_zero, List.getElem_cons_succ])
            refine wpAnyH_ready (rs := [13]) (by kernel_rfl) (by simp) ?_
            refine AllReadyH.cons rfl (fun K hK => ?_) AllReadyH.nil
            go_simp
            have ho : Only (fun b => b = gp) v5 ((((v5.setCell ⟨gp, 0, none⟩ (.int .i64 m.width)).setCell ⟨gp, 1, none⟩ (.int .i64 m.height)).setCell ⟨gp, 2, none⟩ (.slice A9 m.rise.length c9)).setCell ⟨gp, 3, none⟩ (.slice (some ⟨gq, 0, none⟩) n2 n2)) := (only_set (only_set (only_set (only_set (Only.refl (fun b => b = gp) v5) 0 (.int .i64 m.width)) 1 (.int .i64 m.height)) 2 (.slice A9 m.rise.length c9)) 3 (.slice (some ⟨gq, 0, none⟩) n2 n2))
            have hne : gp ≠ gq := by first | exact NE | exact NE.symm
            have M2 := M.only ho (fun (e : _ = _) => by omega)
            have NM : NewMap w ((((v5.setCell ⟨gp, 0, none⟩ (.int .i64 m.width)).setCell ⟨gp, 1, none⟩ (.int .i64 m.height)).setCell ⟨gp, 2, none⟩ (.slice A9 m.rise.length c9)).setCell ⟨gp, 3, none⟩ (.slice (some ⟨gq, 0, none⟩) n2 n2)) m n2 zs [.int .i64 m.width, .int .i64 m.height, .slice A1 n1 c1, .slice A2 n2 c2] gp gq A9 c9 := ⟨M2, (Blk.set_ (Blk.set_ (Blk.set_ (Blk.set_ RB 0 (.int .i64 m.width)) 1 (.int .i64 m.height)) 2 (.slice A9 m.rise.length c9)) 3 (.slice (some ⟨gq, 0, none⟩) n2 n2)), QB.only ho (fun (e : _ = _) => hne e.symm), own_only CO ho (fun b hb (e : _ = _) => FP b hb e), ⟨hne, logp, logq, fun b hb => ⟨FP b hb, FQ b hb⟩⟩, bel_new K5 ho (by have := K5.size; omega) (by omega)⟩
            refine hK.out _ _ (by (try dsimp only); exact ⟨M2.cell 0, M2.cell 1, M2.cell 2, M2.cell 3⟩) (fun hHeld => ?_)
            clear hK K
            try simp only [Act.put, List.setIfInBounds_toArray, List.set_cons_zero, List.set_cons_succ, List.getElem_toArray, List.getElem_cons_zero, List.getElem_cons_succ]
            refine wpAnyH_done (by kernel_rfl) ?_ _
            go_wp2_with fail
            go_meet
            exact ⟨gp, gq, A9, c9, rfl, NM⟩
          refine AllReadyH.cons rfl (fun K hK => ?_) AllReadyH.nil
          · go_simp
            have RB' := RB
            refine hK.out _ _ (by (try dsimp only); go_keep) (fun hHeld => ?_)
            clear hK K
            try simp only [Act.put, List.setIfInBounds_toArray, List.set_cons_zero, List.set_cons_succ, List.getElem_toArray, List.getElem_cons_zero, List.getElem_cons_succ]
            have b4 : Below v3.heap.size v3 (v3.alloc (.cells zs.toArray 3)) := (Below.refl _ _).alloc (Nat.le_refl _) _
            have ml := M.lt
            have K4 := bel_then K3 b4
            have Z4 := b4.size
            clear cm rc rf
            replace M := M.next b4
            replace RB := RB.next b4
            have QB : Blk (v3.alloc (.cells zs.toArray 3)) v3.heap.size 3 zs := Blk.at_ rfl
            have NE : gp ≠ v3.heap.size := by have := RB'.lt; omega
            have logq : w.heap.size < v3.heap.size := ml
            clear ml b4 RB'
            generalize (v3.alloc (.cells zs.toArray 3)) = v4 at *
            generalize v3.heap.size = gq at *
            have cm := M.cell
            have rf := RB.frozen
            have rc := RB.cell
            refine wpAnyH_ready (rs := [6]) (by kernel_rfl) (by simp) ?_
            refine AllReadyH.cons rfl (fun K hK => ?_) AllReadyH.nil
            go_simp
            refine (copyInts_any _ _ _ _ m.rise _ (hm.f1.next K4) (by omega)).mono ?_
            rintro e v5 ⟨A9, c9, rfl, o9, b5⟩
            have CO := own_base o9 (show w.heap.size + 1 ≤ v4.heap.size from M.lt)
            have FQ : ∀ b, OwnB A9 b → b ≠ gq := fun b hb => by have := (own_top o9 hb).1; have := QB.lt; omega
            have FP : ∀ b, OwnB A9 b → b ≠ gp := fun b hb => by have := (own_top o9 hb).1; have := RB.lt; omega
            have K5 := bel_then K4 b5
            have Z5 := b5.size
            clear cm rc rf
            replace M := M.next b5
            replace QB := QB.next b5
            replace RB := RB.next b5
            clear o9 b5
            have cm := M.cell
            have rf := RB.frozen
            have rc := RB.cell
            go_wp2_with fail
            refine hK.out _ _ (by (try dsimp only); go_keep) (fun hHeld => ?_)
            clear hK K
            refine wpAnyH_take (i := 11) (v := ?_) rfl (by kernel_rfl) (by kernel_rfl) (by kernel_rfl) (fun _ _ _ h => h) (Or.inl ⟨by rfl, ?_⟩) (by assumption) ?_
            rotate_left 1
            · (intro w hSw; (try dsimp only at hSw); go_simp; try with_reducible rfl)
            (try simp only [Act.put, List.setIfInBounds_toArray, List.set_cons_zero, List.set_cons_succ, List.getElem_toArray, List.getElem_cons_zero, List.getElem_cons_succ])
            refine wpAnyH_ready (rs := [13]) (by kernel_rfl) (by simp) ?_
            refine AllReadyH.cons rfl (fun K hK => ?_) AllReadyH.nil
            go_simp
            have ho : Only (fun b => b = gp) v5 ((((v5.setCell ⟨gp, 0, none⟩ (.int .i64 m.width)).setCell ⟨gp, 1, none⟩ (.int .i64 m.height)).setCell ⟨gp, 2, none⟩ (.slice A9 m.rise.length c9)).setCell ⟨gp, 3, none⟩ (.slice (some ⟨gq, 0, none⟩) n2 n2)) := (only_set (only_set (only_set (only_set (Only.refl (fun b => b = gp) v5) 0 (.int .i64 m.width)) 1 (.int .i64 m.height)) 2 (.slice A9 m.rise.length c9)) 3 (.slice (some ⟨gq, 0, none⟩) n2 n2))
            have hne : gp ≠ gq := by first | exact NE | exact NE.symm
            have M2 := M.only ho (fun (e : _ = _) => by omega)
            have NM : NewMap w ((((v5.setCell ⟨gp, 0, none⟩ (.int .i64 m.width)).setCell ⟨gp, 1, none⟩ (.int .i64 m.height)).setCell ⟨gp, 2, none⟩ (.slice A9 m.rise.length c9)).setCell ⟨gp, 3, none⟩ (.slice (some ⟨gq, 0, none⟩) n2 n2)) m n2 zs [.int .i64 m.width, .int .i64 m.height, .slice A1 n1 c1, .slice A2 n2 c2] gp gq A9 c9 := ⟨M2, (Blk.set_ (Blk.set_ (Blk.set_ (Blk.set_ RB 0 (.int .i64 m.width)) 1 (.int .i64 m.height)) 2 (.slice A9 m.rise.length c9)) 3 (.slice (some ⟨gq, 0, none⟩) n2 n2)), QB.only ho (fun (e : _ = _) => hne e.symm), own_only CO ho (fun b hb (e : _ = _) => FP b hb e), ⟨hne, logp, logq, fun b hb => ⟨FP b hb, FQ b hb⟩⟩, bel_new K5 ho (by have := K5.size; omega) (by omega)⟩
            refine hK.out _ _ (by (try dsimp only); exact ⟨M2.cell 0, M2.cell 1, M2.cell 2, M2.cell 3⟩) (fun hHeld => ?_)
            clear hK K
            try simp only [Act.put, List.setIfInBounds_toArray, List.set_cons_zero, List.set_cons_succ, List.getElem_toArray, List.getElem_cons_zero, List.getElem_cons_succ]
            refine wpAnyH_done (by kernel_rfl) ?_ _
            go_wp2_with fail
            go_meet
            exact ⟨gp, gq, A9, c9, rfl, NM⟩
      clear hmk
      obtain ⟨gp, gq, A9, c9, rfl, NM⟩ := hcut
      have cm := NM.old.cell
      have KN := NM.kept
      go_wp2_with fail
      refine (openCells_any _ _ _ _ _ _ m _ _ _ xs day _ (hm.next KN) hn' (hx.next KN) hn hi).mono ?_
      rintro e w3 ⟨A3, c3, rfl, o3, b3⟩
      have HLO := Lib.hid (openTo_len m xs day m.cost.length)
      have HMO := Lib.hid (fun x (hx : x ∈ (openTo m xs day m.cost.length)) => show 0 ≤ x ∧ x < m.cost.length by
        obtain ⟨i, h1, _, rfl⟩ := mem_openTo.1 hx
        omega)
      have HQ0 := Lib.hid (NM.row.next b3)
      have RB3 := NM.box.next b3
      have RI3 := own_below NM.rise b3
      obtain ⟨hgpq, hgp, hgq, hfar⟩ := NM.far
      have HFAR := Lib.hid hfar
      have K3 := bel_then KN b3
      have HF3 := Lib.hid (fun b (hb : OwnB A3 b) => show b ≠ gq by have := (own_top o3 hb).1; have := NM.row.lt; omega)
      have O3 := own_base o3 (Nat.zero_le _)
      clear cm hfar o3 b3 NM KN
      obtain ⟨L, hL⟩ : ∃ L, (openTo m xs day m.cost.length) = L := ⟨_, rfl⟩
      rw [hL] at HLO HMO O3
      rw [hL]
      have HLL := Lib.hid hL
      have hL36 : L.length ≤ 36 := by have := HLO.out; omega
      clear hL
      go_wp2_with fail
      rw [HZ.out] at HQ0
      go_loopw [42] (fun iv wr => ∃ (j : Nat), j ≤ L.length ∧ iv = .int .i64 (j : Int) ∧ Hid (Blk wr gq 3 (ints (onesIn n2 (L.take j)))) ∧ wr.ownsRow 0 3 1 (.slice A3 L.length c3) L.length (ints L) ∧ Blk wr gp 29 [.int .i64 m.width, .int .i64 m.height, .slice A9 m.rise.length c9, .slice (some ⟨gq, 0, none⟩) n2 n2] ∧ wr.ownsRow (w.heap.size + 1) 3 1 (.slice A9 m.rise.length c9) m.rise.length (ints m.rise) ∧ Below w.heap.size w wr) (fun iv _ => L.length - (intOf iv).toNat)
      case atStart => exact ⟨0, Nat.zero_le _, rfl, Lib.hid (by rw [List.take_zero]; exact HQ0.out), O3, RB3, RI3, K3⟩
      case round =>
        obtain ⟨j, hj, rfl, HQ, O3', RB, RI, K⟩ := hrel
        clear HQ0 O3 RB3 RI3 K3
        have rc := RB.cell
        by_cases hlt : j < L.length
        · obtain ⟨b3, o3, rfl, _, x3⟩ := (Sees.of_own O3').int hlt
          have HX := Lib.hid (HMO.out L[j] (List.getElem_mem hlt))
          obtain ⟨x, hx'⟩ : ∃ x, L[j] = x := ⟨_, rfl⟩
          rw [hx'] at HX
          rw [show L[j] = x from hx'] at x3
          obtain ⟨xn, rfl⟩ := Int.eq_ofNat_of_zero_le HX.out.1
          have hxn : xn < n2 := by have := HX.out; have := HL2.out; omega
          have HN2 := Lib.hid (onesIn_next (n := n2) hlt hx')
          obtain ⟨u, hu⟩ : ∃ u, wr.cell? ⟨gq, xn, none⟩ = some u := ⟨_, (HQ.out.cell xn).trans (List.getElem?_eq_getElem (by rw [ints_length, onesIn_len]; exact hxn))⟩
          have fq := HQ.out.frozen xn
          have ho := only_set (Only.refl (fun b => b = gq) wr) xn (.int .i64 1)
          have HQ2 := Lib.hid (show Blk (wr.setCell ⟨gq, xn, none⟩ (.int .i64 1)) gq 3 (ints (onesIn n2 (L.take (j + 1)))) from by
            have h := HQ.out.set_ xn (.int .i64 1)
            rw [show (ints (onesIn n2 (L.take j))).set xn (.int .i64 1) = ints ((onesIn n2 (L.take j)).set xn 1) by simp [ints, List.map_set], HN2.out] at h
            exact h)
          have RB2 := RB.only ho (fun (e : _ = _) => hgpq e)
          have RI2 := own_only RI ho (fun b hb (e : _ = _) => (HFAR.out b hb).2 e)
          have O2 := own_only O3' ho (fun b hb (e : _ = _) => HF3.out b hb e)
          have K2 := bel_new K ho (by have := K.size; omega) (by omega)
          have HJ := Lib.hid (show j + 1 ≤ L.length from hlt)
          have hj36 : j ≤ 36 := by omega
          clear hx' HX HQ O3' RB RI K ho
          go_wp2_with fail
          clear rc
          go_roundw
          case rel => exact ⟨j + 1, HJ.out, by go_num, HQ2, O2, RB2, RI2, K2⟩
          case measure => have := HJ.out; simp [intOf]; omega
        · have HQE := Lib.hid (show Blk wr gq 3 (ints (shutM m xs day).cost) from by
            have h := HQ.out
            rw [List.take_of_length_le (by omega), ← HLL.out, ← HL2.out] at h
            exact h)
          have HLC := Lib.hid (show (shutM m xs day).cost.length = n2 from by rw [shutM_len]; exact HL2.out)
          have HSM : SeesMap wr A9 m.rise.length (some ⟨gq, 0, none⟩) n2 (shutM m xs day) := ⟨(Sees.of_own RI).less (Nat.zero_le _), HQE.out.sees (Nat.zero_le _) (by rw [ints_length, HLC.out, Nat.mul_one])⟩
          have HMM := Lib.hid (shutM_map (xs := xs) (day := day) G0.out)
          clear HQ HQE O3' RI
          go_wp2_with fail
          clear rc
          refine (OpenParts_any _ _ _ _ c9 n2 (shutM m xs day) _ HSM HMM.out).mono ?_
          rintro e w4 ⟨A4, n4, c4, rs, rfl, R4, hrs, b4⟩
          rw [shutM_len] at hrs
          have K4 := bel_then K b4
          have zk := K.size
          have HRS := Lib.hid hrs
          have HCN := Lib.hid R4.count
          have W4 := own_empty w4 3 1
          have hn4 : n4 ≤ 36 := by
            have h1 := partsM_count (N := m.cost.length) (O := passB (shutM m xs day)) (nx := nextL (shutM m xs day)) m.cost.length
            rw [← hrs, List.length_map, R4.count] at h1
            omega
          have K5 : Below w.heap.size w (w4.alloc (.cells #[] 3)) := K4.alloc K4.size _
          have R5 := R4.next (show Below w4.heap.size w4 (w4.alloc (.cells #[] 3)) from (Below.refl _ _).alloc (Nat.le_refl _) _)
          have W5 := own_base W4 K4.size
          clear HSM K RB b4 R4 K4 W4 hrs
          go_wp2_with fail
          generalize w4.alloc (.cells #[] 3) = w5 at *
          go_loop [13, 59] (fun bv iv => ∃ (j c0 : Nat) (A0 : Option Addr) (B : List Int), j ≤ n4 ∧ iv = .int .i64 (j : Int) ∧ bv = .slice A0 B.length c0 ∧ w5.ownsRow w.heap.size 3 1 (.slice A0 B.length c0) B.length (ints B) ∧ Hid (B = bestOf ((rs.map Hd.x).take j)) ∧ B.length ≤ 1000000) (fun _ iv => n4 - (intOf iv).toNat)
          case atStart => exact ⟨0, 0, _, [], Nat.zero_le _, rfl, rfl, W5, Lib.hid rfl, by simp⟩
          case round =>
            obtain ⟨j, c0, A0, B, hj, rfl, rfl, OB, HB, hB6⟩ := hrel
            clear W5
            by_cases hlt : j < n4
            · have hjr : j < rs.length := by rw [HCN.out]; exact hlt
              have hjm : j < (rs.map Hd.x).length := by simpa using hjr
              have HNX := Lib.hid (bestOf_next hjm)
              rw [← HB.out, List.getElem_map] at HNX
              obtain ⟨g, rfl, hc, hown, htop, hln⟩ := row_cell R5 hjr
              have HP36 := Lib.hid (show rs[j].x.length ≤ 36 from by
                have h1 : rs[j].x ∈ rs.map Hd.x := List.mem_map.2 ⟨rs[j], List.getElem_mem hjr, rfl⟩
                rw [HRS.out] at h1
                have := partsM_len _ _ h1
                omega)
              have HOU := Lib.hid (own_up (B := w.heap.size) hown fun b hb => by have : wr.heap.size ≤ b := htop b hb; omega)
              have HJ := Lib.hid (show j + 1 ≤ n4 from hlt)
              have hj36 : j ≤ 36 := by omega
              clear hown htop
              obtain ⟨r, hr⟩ : ∃ r, rs[j] = r := ⟨_, rfl⟩
              rw [hr] at hc hln HP36 HOU HNX
              obtain ⟨rx, rA, rn, rc⟩ := r
              dsimp only at hc hln HP36 HOU HNX
              subst hln
              have hp36 : rx.length ≤ 36 := HP36.out
              clear hr
              by_cases hlen : B.length < rx.length
              · have hbe : decide (B.length < rx.length) = true := decide_eq_true hlen
                have HN3 := Lib.hid (show bestOf ((rs.map Hd.x).take (j + 1)) = rx from HNX.out.trans (if_pos hlen))
                clear HNX
                go_wp2_with fail
                go_round
                case rel => exact ⟨j + 1, rc, rA, rx, HJ.out, by go_num, rfl, HOU.out, Lib.hid HN3.out.symm, by omega⟩
                case measure => have := HJ.out; simp [intOf]; omega
              · have hbe : decide (B.length < rx.length) = false := decide_eq_false hlen
                have HN3 := Lib.hid (show bestOf ((rs.map Hd.x).take (j + 1)) = B from HNX.out.trans (if_neg hlen))
                clear HNX
                go_wp2_with fail
                go_round
                case rel => exact ⟨j + 1, c0, A0, B, HJ.out, by go_num, rfl, OB, Lib.hid HN3.out.symm, hB6⟩
                case measure => have := HJ.out; simp [intOf]; omega
            · have HE := Lib.hid (show largestM m xs day = some B from by
                rw [HR.out, HB.out, List.take_of_length_le (by rw [List.length_map, HCN.out]; omega), HRS.out])
              clear HB
              go_wp2_with fail
              go_ret2
              rw [HE.out]
              exact ⟨_, _, rfl, OB, K5⟩

end Go.Proofs.Ytljiflbaknakaaa
