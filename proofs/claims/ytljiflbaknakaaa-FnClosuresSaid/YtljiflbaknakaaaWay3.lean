/- The cells of a way that are not open, as the program and as the reference have them. -/
import Derived.Test.YtljiflbaknakaaaWay2
namespace Go.Proofs.Ytljiflbaknakaaa
open Go.RowKit

set_option maxRecDepth 100000 in
set_option maxHeartbeats 2000000 in
theorem wayErrors_any (A1 A2 : Option Addr) (n1 n2 c1 c2 : Nat) (m : MapV) (A : Option Addr) (n c : Nat) (xs : List Area) (day : Int) (Y : Option Addr) (ny cy : Nat) (ys : List Int) (w : World) (hm : SeesMap w A1 n1 A2 n2 m) (hx : SeesN areaSh w 0 A n xs) (hn : n ≤ 1048576) (hi : ∀ x ∈ xs, x.cnt ≤ 1048576) (hy : Sees w 0 1 Y ny (ints ys)) (hny : ny ≤ 1048576) (h0 : isMapB m = true) (hc : ∀ (j : Nat) (hj : j < ys.length), isC m ys[j] = true) :
    Calls Try.prog 85 #[.agg #[.int .i64 m.width, .int .i64 m.height, .slice A1 n1 c1, .slice A2 n2 c2], .slice A n c, .int .i64 day, .slice Y ny cy] w (GivesL w (errsTo m xs day ys ys.length)) := by
  have HLy := Lib.hid hy.icount
  have hly1 : ys.length ≤ ny := by rw [HLy.out]; exact Nat.le_refl _
  have hly2 : ny ≤ ys.length := by rw [HLy.out]; exact Nat.le_refl _
  have G0 := Lib.hid h0
  have HC := Lib.hid hc
  clear h0 hc
  go_enter Try.func85, Try.ntmps85
  go_wp2_with fail
  have hown0 := own_empty_at (w := (w.alloc (.cells #[.int .i64 m.width, .int .i64 m.height, .slice A1 n1 c1, .slice A2 n2 c2] 29))) (g := w.heap.size + 1) 3 1 (by simp)
  have hb0 : Below w.heap.size w ((w.alloc (.cells #[.int .i64 m.width, .int .i64 m.height, .slice A1 n1 c1, .slice A2 n2 c2] 29)).alloc (.cells #[] 3)) := ((Below.refl _ _).alloc (Nat.le_refl _) _).alloc (by simp) _
  go_loopw [9, 15] (fun v i wr => ∃ (k : Nat) (out : List Int) (B' : Option Addr) (d' : Nat), k ≤ ny ∧ i = .int .i64 k ∧ v = .slice B' out.length d' ∧ wr.ownsRow (w.heap.size + 1) 3 1 (.slice B' out.length d') out.length (ints out) ∧ out.length ≤ k ∧ Hid (errsTo m xs day ys k = out) ∧ Blk wr w.heap.size 29 [.int .i64 m.width, .int .i64 m.height, .slice A1 n1 c1, .slice A2 n2 c2] ∧ Below w.heap.size w wr) (fun _ i _ => ny - (intOf i).toNat)
  case atStart => exact ⟨0, [], _, _, Nat.zero_le _, rfl, rfl, hown0, Nat.le_refl _, Lib.hid rfl, (Blk.at_ rfl).alloc _, hb0⟩
  case round =>
    obtain ⟨k, out, B', d', hk, rfl, rfl, hown, hlo, HO, Bm, hb⟩ := hrel
    have cm := Bm.cell
    by_cases hlt : k < ny
    · obtain ⟨b, off, rfl, hkx, y0⟩ := (hy.next hb).int hlt
      have hblt : b < wr.heap.size := World.block_lt_of_cell? wr _ y0
      obtain ⟨q, hq, hql⟩ := isC_nat (HC.out k hkx)
      have hE := errB_at (m := m) (xs := xs) (day := day) hkx hq
      rw [hq] at y0
      clear hq

      have hN := errsTo_next m xs day ys k
      rw [HO.out, hE] at hN
      clear hE
      cases g : openB m xs day q
      · have HO2 := Lib.hid g
        rw [g] at hN
        have HN := Lib.hid (hN.trans (if_pos rfl))
        clear hN g
        go_wp2_with fail
        refine (isOpenOn_any _ _ _ _ _ _ m _ _ _ xs q day _ (hm.next hb) (hx.next hb) hn hi hql).mono ?_
        rw [HO2.out]
        rintro e w3 ⟨rfl, b3⟩
        have K4 := bel_then hb b3
        have B3 := Bm.next b3
        have o3 := own_below hown b3
        have z3 := Bm.lt
        have z4 := b3.size
        clear cm
        go_wp2_with (at_builtin; go_loud (refine wpList_pushNew rfl _ _ _ rfl Try.underlying22 info_int rfl (by decide) rfl o3 rfl (by simp) (by rfl) (by rfl) (by omega) (by decide) (by omega) ?_); intro A2 c2 w2 hown2 ho2 hbb2 hat2)
        go_roundw
        case rel => exact ⟨k + 1, out ++ [(k : Int)], A2, c2, by omega, by go_num, by simp, by simpa [ints] using hown2, by simp; omega, HN, B3.only ho2 (own_not o3 (by omega)), K4.trans (hbb2.mono (by omega))⟩
        case measure => simp [intOf]; omega
      · have HO2 := Lib.hid g
        rw [g] at hN
        have HN := Lib.hid (hN.trans (if_neg (by decide)))
        clear hN g
        go_wp2_with fail
        refine (isOpenOn_any _ _ _ _ _ _ m _ _ _ xs q day _ (hm.next hb) (hx.next hb) hn hi hql).mono ?_
        rw [HO2.out]
        rintro e w3 ⟨rfl, b3⟩
        have K4 := bel_then hb b3
        have B3 := Bm.next b3
        have o3 := own_below hown b3
        have z3 := Bm.lt
        have z4 := b3.size
        clear cm
        go_wp2_with fail
        go_roundw
        case rel => exact ⟨k + 1, out, _, _, by omega, by go_num, rfl, o3, by omega, HN, B3, K4⟩
        case measure => simp [intOf]; omega
    · obtain rfl : k = ny := by omega
      have HE := Lib.hid (show errsTo m xs day ys ys.length = out by rw [← HO.out, HLy.out])
      go_wp2_with fail
      go_ret
      rw [HE.out]
      exact ⟨_, _, rfl, own_base hown (by omega), hb⟩

set_option maxRecDepth 100000 in
set_option maxHeartbeats 2000000 in
theorem l24Errors_any (A1 A2 : Option Addr) (n1 n2 c1 c2 : Nat) (m : MapV) (A : Option Addr) (n c : Nat) (xs : List Area) (day : Int) (Y : Option Addr) (ny cy : Nat) (ys : List Int) (w : World) (hm : SeesMap w A1 n1 A2 n2 m) (hx : SeesN areaSh w 0 A n xs) (hn : n ≤ 1048576) (hi : ∀ x ∈ xs, x.cnt ≤ 1048576) (hy : Sees w 0 1 Y ny (ints ys)) (hny : ny ≤ 1048576) (h0 : isMapB m = true) (hc : ∀ (j : Nat) (hj : j < ys.length), isC m ys[j] = true) :
    Calls Try.prog 83 #[.agg #[.int .i64 m.width, .int .i64 m.height, .slice A1 n1 c1, .slice A2 n2 c2], .slice A n c, .int .i64 day, .slice Y ny cy] w (GivesL w (errsTo m xs day ys ys.length)) := by
  have HLy := Lib.hid hy.icount
  have hly1 : ys.length ≤ ny := by rw [HLy.out]; exact Nat.le_refl _
  have hly2 : ny ≤ ys.length := by rw [HLy.out]; exact Nat.le_refl _
  have G0 := Lib.hid h0
  have HC := Lib.hid hc
  clear h0 hc
  go_enter Try.func83, Try.ntmps83
  go_wp2_with fail
  have hown0 := own_empty_at (w := (w.alloc (.cells #[.int .i64 m.width, .int .i64 m.height, .slice A1 n1 c1, .slice A2 n2 c2] 29))) (g := w.heap.size + 1) 3 1 (by simp)
  have hb0 : Below w.heap.size w ((w.alloc (.cells #[.int .i64 m.width, .int .i64 m.height, .slice A1 n1 c1, .slice A2 n2 c2] 29)).alloc (.cells #[] 3)) := ((Below.refl _ _).alloc (Nat.le_refl _) _).alloc (by simp) _
  go_loopw [9, 10] (fun v i wr => ∃ (k : Nat) (out : List Int) (B' : Option Addr) (d' : Nat), k ≤ ny ∧ i = .int .i64 k ∧ v = .slice B' out.length d' ∧ wr.ownsRow (w.heap.size + 1) 3 1 (.slice B' out.length d') out.length (ints out) ∧ out.length ≤ k ∧ Hid (errsTo m xs day ys k = out) ∧ Blk wr w.heap.size 29 [.int .i64 m.width, .int .i64 m.height, .slice A1 n1 c1, .slice A2 n2 c2] ∧ Below w.heap.size w wr) (fun _ i _ => ny - (intOf i).toNat)
  case atStart => exact ⟨0, [], _, _, Nat.zero_le _, rfl, rfl, hown0, Nat.le_refl _, Lib.hid rfl, (Blk.at_ rfl).alloc _, hb0⟩
  case round =>
    obtain ⟨k, out, B', d', hk, rfl, rfl, hown, hlo, HO, Bm, hb⟩ := hrel
    have cm := Bm.cell
    by_cases hlt : k < ny
    · obtain ⟨b, off, rfl, hkx, y0⟩ := (hy.next hb).int hlt
      have hblt : b < wr.heap.size := World.block_lt_of_cell? wr _ y0
      obtain ⟨q, hq, hql⟩ := isC_nat (HC.out k hkx)
      have hE := errB_at (m := m) (xs := xs) (day := day) hkx hq
      rw [hq] at y0
      clear hq
      have b1 := (Quiet.one wr).below wr.heap.size
      have hb1 := bel_then hb b1
      have Bm1 := Bm.next b1
      have cm1 := Bm1.cell
      have y1 := ((bcell b1).1 _ _ hblt).trans y0
      have hN := errsTo_next m xs day ys k
      rw [HO.out, hE] at hN
      clear hE
      cases g : openB m xs day q
      · have HO2 := Lib.hid g
        rw [g] at hN
        have HN := Lib.hid (hN.trans (if_pos rfl))
        clear hN g
        have hk0 : (0 : Int) ≤ (k : Int) := by omega
        have hkn : (k : Int) < (ny : Int) := by omega
        go_wp2_with fail
        refine wp_region_held_drew (S := fun w' => w'.cell? ⟨w.heap.size, 0, none⟩ = some (.int .i64 m.width) ∧ w'.cell? ⟨w.heap.size, 1, none⟩ = some (.int .i64 m.height) ∧ w'.cell? ⟨w.heap.size, 2, none⟩ = some (.slice A1 n1 c1) ∧ w'.cell? ⟨w.heap.size, 3, none⟩ = some (.slice A2 n2 c2) ∧ w'.cell? ⟨b, off + k, none⟩ = some (.int .i64 (q : Int))) (by kernel_rfl) (by (try dsimp only); go_keep) (fun hHeld => ?_)
        refine wpAnyH_take (i := 0) (v := ?_) rfl (by kernel_rfl) (by kernel_rfl) (by kernel_rfl) (fun _ _ _ h => h) (Or.inl ⟨by rfl, ?_⟩) (by assumption) ?_
        rotate_left 1
        · (intro w hSw; (try dsimp only at hSw); go_simp; try with_reducible rfl)
        simp only [Act.put, List.setIfInBounds_toArray, List.set_cons_zero, List.set_cons_succ, List.getElem_toArray, List.getElem_cons_zero]
        refine wpAnyH_take (i := 1) (v := ?_) rfl (by kernel_rfl) (by kernel_rfl) (by kernel_rfl) (fun _ _ _ h => h) (Or.inl ⟨by rfl, ?_⟩) (by assumption) ?_
        rotate_left 1
        · (intro w hSw; (try dsimp only at hSw); go_simp; try with_reducible rfl)
        simp only [Act.put, List.setIfInBounds_toArray, List.set_cons_zero, List.set_cons_succ, List.getElem_toArray, List.getElem_cons_zero, List.getElem_cons_succ]
        refine wpAnyH_take (i := 2) (v := ?_) rfl (by kernel_rfl) (by kernel_rfl) (by kernel_rfl) (fun _ _ _ h => h) (Or.inl ⟨by rfl, ?_⟩) (by assumption) ?_
        rotate_left 1
        · (intro w hSw; (try dsimp only at hSw); go_simp; try with_reducible rfl)
        simp only [Act.put, List.setIfInBounds_toArray, List.set_cons_zero, List.set_cons_succ, List.getElem_toArray, List.getElem_cons_zero, List.getElem_cons_succ]
        refine wpAnyH_take (i := 3) (v := ?_) rfl (by kernel_rfl) (by kernel_rfl) (by kernel_rfl) (fun _ _ _ h => h) (Or.inl ⟨by rfl, ?_⟩) (by assumption) ?_
        rotate_left 1
        · (intro w hSw; (try dsimp only at hSw); go_simp; try with_reducible rfl)
        simp only [Act.put, List.setIfInBounds_toArray, List.set_cons_zero, List.set_cons_succ, List.getElem_toArray, List.getElem_cons_zero, List.getElem_cons_succ]
        refine wpAnyH_take (i := 4) (v := ?_) rfl (by kernel_rfl) (by kernel_rfl) (by kernel_rfl) (fun _ _ _ h => h) (Or.inl ⟨by rfl, ?_⟩) (by assumption) ?_
        rotate_left 1
        · (intro w hSw; (try dsimp only at hSw); go_simp; try with_reducible rfl)
        simp only [Act.put, List.setIfInBounds_toArray, List.set_cons_zero, List.set_cons_succ, List.getElem_toArray, List.getElem_cons_zero, List.getElem_cons_succ]
        refine wpAnyH_take (i := 5) (v := ?_) rfl (by kernel_rfl) (by kernel_rfl) (by kernel_rfl) (fun _ _ _ h => h) (Or.inl ⟨by rfl, ?_⟩) (by assumption) ?_
        rotate_left 1
        · (intro w hSw; (try dsimp only at hSw); go_simp; try with_reducible rfl)
        simp only [Act.put, List.setIfInBounds_toArray, List.set_cons_zero, List.set_cons_succ, List.getElem_toArray, List.getElem_cons_zero, List.getElem_cons_succ]
        refine wpAnyH_take (i := 6) (v := ?_) rfl (by kernel_rfl) (by kernel_rfl) (by kernel_rfl) (fun _ _ _ h => h) (Or.inl ⟨by rfl, ?_⟩) (by assumption) ?_
        rotate_left 1
        · (intro w hSw; (try dsimp only at hSw); go_simp; try with_reducible rfl)
        simp only [Act.put, List.setIfInBounds_toArray, List.set_cons_zero, List.set_cons_succ, List.getElem_toArray, List.getElem_cons_zero, List.getElem_cons_succ]
        refine wpAnyH_ready (rs := [7]) (by kernel_rfl) (by simp) ?_
        refine AllReadyH.cons rfl (fun K hK => ?_) AllReadyH.nil
        go_simp
        refine (l24Open_any _ _ _ _ _ _ m _ _ _ xs q day _ (hm.next hb1) (hx.next hb1) hn hi hql G0.out).mono ?_
        rw [HO2.out]
        rintro e w3 ⟨rfl, b3⟩
        have K4 := bel_then hb1 b3
        have B3 := Bm1.next b3
        have o3 := own_below (own_below hown b1) b3
        have z3 := Bm1.lt
        have z4 := b3.size
        have cm3 := B3.cell
        have y3 := ((bcell b3).1 _ _ hblt).trans y1
        clear cm1 y1

        go_wp2_with fail
        refine hK.out _ _ (by (try dsimp only); go_keep) (fun hHeld => ?_)
        clear hK K
        refine wpAnyH_take (i := 8) (v := ?_) rfl (by kernel_rfl) (by kernel_rfl) (by kernel_rfl) (fun _ _ _ h => h) (Or.inl ⟨by rfl, ?_⟩) (by assumption) ?_
        rotate_left 1
        · (intro w hSw; (try dsimp only at hSw); go_simp; try with_reducible rfl)
        simp only [Act.put, List.setIfInBounds_toArray, List.set_cons_zero, List.set_cons_succ, List.getElem_toArray, List.getElem_cons_zero, List.getElem_cons_succ]
        refine wpAnyH_done (by kernel_rfl) ?_ _
        clear cm3 y3
        clear cm
        go_wp2_with (at_builtin; go_loud (refine wpList_pushNew rfl _ _ _ rfl Try.underlying22 info_int rfl (by decide) rfl o3 rfl (by simp) (by rfl) (by rfl) (by omega) (by decide) (by omega) ?_); intro A2 c2 w2 hown2 ho2 hbb2 hat2)
        go_roundw
        case rel => exact ⟨k + 1, out ++ [(k : Int)], A2, c2, by omega, by go_num, by simp, by simpa [ints] using hown2, by simp; omega, HN, B3.only ho2 (own_not o3 (by omega)), K4.trans (hbb2.mono (by omega))⟩
        case measure => simp [intOf]; omega
      · have HO2 := Lib.hid g
        rw [g] at hN
        have HN := Lib.hid (hN.trans (if_neg (by decide)))
        clear hN g
        have hk0 : (0 : Int) ≤ (k : Int) := by omega
        have hkn : (k : Int) < (ny : Int) := by omega
        go_wp2_with fail
        refine wp_region_held_drew (S := fun w' => w'.cell? ⟨w.heap.size, 0, none⟩ = some (.int .i64 m.width) ∧ w'.cell? ⟨w.heap.size, 1, none⟩ = some (.int .i64 m.height) ∧ w'.cell? ⟨w.heap.size, 2, none⟩ = some (.slice A1 n1 c1) ∧ w'.cell? ⟨w.heap.size, 3, none⟩ = some (.slice A2 n2 c2) ∧ w'.cell? ⟨b, off + k, none⟩ = some (.int .i64 (q : Int))) (by kernel_rfl) (by (try dsimp only); go_keep) (fun hHeld => ?_)
        refine wpAnyH_take (i := 0) (v := ?_) rfl (by kernel_rfl) (by kernel_rfl) (by kernel_rfl) (fun _ _ _ h => h) (Or.inl ⟨by rfl, ?_⟩) (by assumption) ?_
        rotate_left 1
        · (intro w hSw; (try dsimp only at hSw); go_simp; try with_reducible rfl)
        simp only [Act.put, List.setIfInBounds_toArray, List.set_cons_zero, List.set_cons_succ, List.getElem_toArray, List.getElem_cons_zero]
        refine wpAnyH_take (i := 1) (v := ?_) rfl (by kernel_rfl) (by kernel_rfl) (by kernel_rfl) (fun _ _ _ h => h) (Or.inl ⟨by rfl, ?_⟩) (by assumption) ?_
        rotate_left 1
        · (intro w hSw; (try dsimp only at hSw); go_simp; try with_reducible rfl)
        simp only [Act.put, List.setIfInBounds_toArray, List.set_cons_zero, List.set_cons_succ, List.getElem_toArray, List.getElem_cons_zero, List.getElem_cons_succ]
        refine wpAnyH_take (i := 2) (v := ?_) rfl (by kernel_rfl) (by kernel_rfl) (by kernel_rfl) (fun _ _ _ h => h) (Or.inl ⟨by rfl, ?_⟩) (by assumption) ?_
        rotate_left 1
        · (intro w hSw; (try dsimp only at hSw); go_simp; try with_reducible rfl)
        simp only [Act.put, List.setIfInBounds_toArray, List.set_cons_zero, List.set_cons_succ, List.getElem_toArray, List.getElem_cons_zero, List.getElem_cons_succ]
        refine wpAnyH_take (i := 3) (v := ?_) rfl (by kernel_rfl) (by kernel_rfl) (by kernel_rfl) (fun _ _ _ h => h) (Or.inl ⟨by rfl, ?_⟩) (by assumption) ?_
        rotate_left 1
        · (intro w hSw; (try dsimp only at hSw); go_simp; try with_reducible rfl)
        simp only [Act.put, List.setIfInBounds_toArray, List.set_cons_zero, List.set_cons_succ, List.getElem_toArray, List.getElem_cons_zero, List.getElem_cons_succ]
        refine wpAnyH_take (i := 4) (v := ?_) rfl (by kernel_rfl) (by kernel_rfl) (by kernel_rfl) (fun _ _ _ h => h) (Or.inl ⟨by rfl, ?_⟩) (by assumption) ?_
        rotate_left 1
        · (intro w hSw; (try dsimp only at hSw); go_simp; try with_reducible rfl)
        simp only [Act.put, List.setIfInBounds_toArray, List.set_cons_zero, List.set_cons_succ, List.getElem_toArray, List.getElem_cons_zero, List.getElem_cons_succ]
        refine wpAnyH_take (i := 5) (v := ?_) rfl (by kernel_rfl) (by kernel_rfl) (by kernel_rfl) (fun _ _ _ h => h) (Or.inl ⟨by rfl, ?_⟩) (by assumption) ?_
        rotate_left 1
        · (intro w hSw; (try dsimp only at hSw); go_simp; try with_reducible rfl)
        simp only [Act.put, List.setIfInBounds_toArray, List.set_cons_zero, List.set_cons_succ, List.getElem_toArray, List.getElem_cons_zero, List.getElem_cons_succ]
        refine wpAnyH_take (i := 6) (v := ?_) rfl (by kernel_rfl) (by kernel_rfl) (by kernel_rfl) (fun _ _ _ h => h) (Or.inl ⟨by rfl, ?_⟩) (by assumption) ?_
        rotate_left 1
        · (intro w hSw; (try dsimp only at hSw); go_simp; try with_reducible rfl)
        simp only [Act.put, List.setIfInBounds_toArray, List.set_cons_zero, List.set_cons_succ, List.getElem_toArray, List.getElem_cons_zero, List.getElem_cons_succ]
        refine wpAnyH_ready (rs := [7]) (by kernel_rfl) (by simp) ?_
        refine AllReadyH.cons rfl (fun K hK => ?_) AllReadyH.nil
        go_simp
        refine (l24Open_any _ _ _ _ _ _ m _ _ _ xs q day _ (hm.next hb1) (hx.next hb1) hn hi hql G0.out).mono ?_
        rw [HO2.out]
        rintro e w3 ⟨rfl, b3⟩
        have K4 := bel_then hb1 b3
        have B3 := Bm1.next b3
        have o3 := own_below (own_below hown b1) b3
        have z3 := Bm1.lt
        have z4 := b3.size
        have cm3 := B3.cell
        have y3 := ((bcell b3).1 _ _ hblt).trans y1
        clear cm1 y1

        go_wp2_with fail
        refine hK.out _ _ (by (try dsimp only); go_keep) (fun hHeld => ?_)
        clear hK K
        refine wpAnyH_take (i := 8) (v := ?_) rfl (by kernel_rfl) (by kernel_rfl) (by kernel_rfl) (fun _ _ _ h => h) (Or.inl ⟨by rfl, ?_⟩) (by assumption) ?_
        rotate_left 1
        · (intro w hSw; (try dsimp only at hSw); go_simp; try with_reducible rfl)
        simp only [Act.put, List.setIfInBounds_toArray, List.set_cons_zero, List.set_cons_succ, List.getElem_toArray, List.getElem_cons_zero, List.getElem_cons_succ]
        refine wpAnyH_done (by kernel_rfl) ?_ _
        clear cm3 y3
        clear cm
        go_wp2_with fail
        go_roundw
        case rel => exact ⟨k + 1, out, _, _, by omega, by go_num, rfl, o3, by omega, HN, B3, K4⟩
        case measure => simp [intOf]; omega
    · obtain rfl : k = ny := by omega
      have HE := Lib.hid (show errsTo m xs day ys ys.length = out by rw [← HO.out, HLy.out])
      go_wp2_with fail
      go_ret
      rw [HE.out]
      exact ⟨_, _, rfl, own_base hown (by omega), hb⟩

set_option maxRecDepth 100000 in
set_option maxHeartbeats 2000000 in
theorem WayErrors_any (A1 A2 : Option Addr) (n1 n2 c1 c2 : Nat) (m : MapV) (A : Option Addr) (n c : Nat) (xs : List Area) (day : Int) (Y : Option Addr) (ny cy : Nat) (ys : List Int) (w : World) (hm : SeesMap w A1 n1 A2 n2 m) (hn' : n1 ≤ 1048576 ∧ n2 ≤ 1048576) (hx : SeesN areaSh w 0 A n xs) (hn : n ≤ 1048576) (hi : ∀ x ∈ xs, x.cnt ≤ 1048576) (hy : Sees w 0 1 Y ny (ints ys)) (hny : ny ≤ 1048576) :
    Calls Try.prog 43 #[.agg #[.int .i64 m.width, .int .i64 m.height, .slice A1 n1 c1, .slice A2 n2 c2], .slice A n c, .int .i64 day, .slice Y ny cy] w (GivesInts w (wayErrs m xs day ys)) := by
  go_enter Try.func43, Try.ntmps43
  go_wp2_with fail
  have K0 : Below w.heap.size w (w.alloc (.cells #[.int .i64 m.width, .int .i64 m.height, .slice A1 n1 c1, .slice A2 n2 c2] 29)) := (Below.refl _ _).alloc (Nat.le_refl _) _
  have Bm0 : Blk (w.alloc (.cells #[.int .i64 m.width, .int .i64 m.height, .slice A1 n1 c1, .slice A2 n2 c2] 29)) w.heap.size 29 [.int .i64 m.width, .int .i64 m.height, .slice A1 n1 c1, .slice A2 n2 c2] := Blk.at_ rfl
  refine (AreAreas_any _ _ _ _ _ _ m _ _ _ xs _ (hm.next K0) hn' (hx.next K0) hn hi).mono ?_
  cases g1 : areasB m xs
  · rintro e w1 ⟨rfl, b1⟩
    go_wp2_with fail
    go_ret2
    rw [show wayErrs m xs day ys = none by simp [wayErrs, g1]]
    exact gives_nil (bel_then K0 b1)
  · rintro e w1 ⟨rfl, b1⟩
    have g0 := (areasB_at g1).1
    have G0 := Lib.hid g0
    have K1 := bel_then K0 b1
    have Bm1 := Bm0.next b1
    have cm1 := Bm1.cell
    clear g0
    cases g3 : inB day 0 364
    · go_wp2_with (go_at_call 69; refine (isYearDay_any _ _).mono ?_; rintro e w' ⟨rfl, rfl⟩)
      go_ret2
      rw [show wayErrs m xs day ys = none by simp [wayErrs, g3]]
      exact gives_nil K1
    · go_wp2_with (go_at_call 69; refine (isYearDay_any _ _).mono ?_; rintro e w' ⟨rfl, rfl⟩)
      refine (isWay_any _ _ _ _ _ _ m _ _ _ ys _ (hm.next K1) hn' (hy.next K1) hny G0.out).mono ?_
      cases g2 : wayB m ys
      · rintro e w2 ⟨rfl, b2⟩
        go_wp2_with fail
        go_ret2
        rw [show wayErrs m xs day ys = none by simp [wayErrs, g2]]
        exact gives_nil (bel_then K1 b2)
      · have HR := Lib.hid (show wayErrs m xs day ys = some (errsTo m xs day ys ys.length) by simp [wayErrs, g1, g2, g3])
        have HC := Lib.hid (wayB_in g2)
        rintro e w2 ⟨rfl, b2⟩
        have K2 := bel_then K1 b2
        have Bm2 := Bm1.next b2
        have cm2 := Bm2.cell
        clear g1 g2 g3 cm1
        go_wp2_with fail
        refine (wayErrors_any _ _ _ _ _ _ m _ _ _ xs day _ _ _ ys _ (hm.next K2) (hx.next K2) hn hi (hy.next K2) hny G0.out HC.out).mono ?_
        rintro e w3 ⟨A3, c3, rfl, o3, b3⟩
        have o4 := own_base o3 K2.size
        have K3 := bel_then K2 b3
        clear cm2
        go_wp2_with fail
        go_ret2
        rw [HR.out]
        exact ⟨_, _, rfl, o4, K3⟩

set_option maxRecDepth 100000 in
set_option maxHeartbeats 2000000 in
theorem specWayErrors_any (A1 A2 : Option Addr) (n1 n2 c1 c2 : Nat) (m : MapV) (A : Option Addr) (n c : Nat) (xs : List Area) (day : Int) (Y : Option Addr) (ny cy : Nat) (ys : List Int) (w : World) (hm : SeesMap w A1 n1 A2 n2 m) (hn' : n1 ≤ 1048576 ∧ n2 ≤ 1048576) (hx : SeesN areaSh w 0 A n xs) (hn : n ≤ 1048576) (hi : ∀ x ∈ xs, x.cnt ≤ 1048576) (hy : Sees w 0 1 Y ny (ints ys)) (hny : ny ≤ 1048576) :
    Calls Try.prog 42 #[.agg #[.int .i64 m.width, .int .i64 m.height, .slice A1 n1 c1, .slice A2 n2 c2], .slice A n c, .int .i64 day, .slice Y ny cy] w (GivesInts w (wayErrs m xs day ys)) := by
  go_enter Try.func42, Try.ntmps42
  go_wp2_with fail
  have K0 : Below w.heap.size w (w.alloc (.cells #[.int .i64 m.width, .int .i64 m.height, .slice A1 n1 c1, .slice A2 n2 c2] 29)) := (Below.refl _ _).alloc (Nat.le_refl _) _
  have Bm0 : Blk (w.alloc (.cells #[.int .i64 m.width, .int .i64 m.height, .slice A1 n1 c1, .slice A2 n2 c2] 29)) w.heap.size 29 [.int .i64 m.width, .int .i64 m.height, .slice A1 n1 c1, .slice A2 n2 c2] := Blk.at_ rfl
  refine (l24Good_any _ _ _ _ _ _ m _ _ _ xs _ (hm.next K0) hn' (hx.next K0) hn hi).mono ?_
  cases g1 : areasB m xs
  · rintro e w1 ⟨rfl, b1⟩
    go_wp2_with fail
    go_ret2
    rw [show wayErrs m xs day ys = none by simp [wayErrs, g1]]
    exact gives_empty _ (bel_then K0 b1)
  · rintro e w1 ⟨rfl, b1⟩
    have g0 := (areasB_at g1).1
    have G0 := Lib.hid g0
    have K1 := bel_then K0 b1
    have Bm1 := Bm0.next b1
    have cm1 := Bm1.cell
    clear g0
    cases g3 : inB day 0 364
    · go_wp2_with (go_at_call 71; refine (l24Day_any _ _).mono ?_; rintro e w' ⟨rfl, rfl⟩)
      go_ret2
      rw [show wayErrs m xs day ys = none by simp [wayErrs, g3]]
      exact gives_empty _ K1
    · go_wp2_with (go_at_call 71; refine (l24Day_any _ _).mono ?_; rintro e w' ⟨rfl, rfl⟩)
      refine (l24Way_any _ _ _ _ _ _ m _ _ _ ys _ (hy.next K1) hny G0.out).mono ?_
      cases g2 : wayB m ys
      · rintro e w2 ⟨rfl, b2⟩
        go_wp2_with fail
        go_ret2
        rw [show wayErrs m xs day ys = none by simp [wayErrs, g2]]
        exact gives_empty _ (bel_then K1 b2)
      · have HR := Lib.hid (show wayErrs m xs day ys = some (errsTo m xs day ys ys.length) by simp [wayErrs, g1, g2, g3])
        have HC := Lib.hid (wayB_in g2)
        rintro e w2 ⟨rfl, b2⟩
        have K2 := bel_then K1 b2
        have Bm2 := Bm1.next b2
        have cm2 := Bm2.cell
        clear g1 g2 g3 cm1
        go_wp2_with fail
        refine (l24Errors_any _ _ _ _ _ _ m _ _ _ xs day _ _ _ ys _ (hm.next K2) (hx.next K2) hn hi (hy.next K2) hny G0.out HC.out).mono ?_
        rintro e w3 ⟨A3, c3, rfl, o3, b3⟩
        have o4 := own_base o3 K2.size
        have K3 := bel_then K2 b3
        clear cm2
        go_wp2_with fail
        go_ret2
        rw [HR.out]
        exact ⟨_, _, rfl, o4, K3⟩

end Go.Proofs.Ytljiflbaknakaaa
