/- ClosedDays, as the program and as the reference have it. -/
import Derived.Test.YtljiflbaknakaaaSpan
namespace Go.Proofs.Ytljiflbaknakaaa
open Go.RowKit

/-- A table in memory of the call's own, and a word on whether there is one. -/
def GivesRows (w : World) (R : Option (List (List Int))) (e : Ending) (w' : World) : Prop :=
  ∃ A c, e = .returned (.tuple #[.slice A (R.getD []).length c, .bool R.isSome]) ∧ MineN rowSh w' (In w.heap.size w'.heap.size) 22 3 A (R.getD []).length c (R.getD []) ∧ Below w.heap.size w w'
theorem givesR_nil {w w' : World} (h : Below w.heap.size w w') : GivesRows w none (.returned (.tuple #[.slice none 0 0, .bool false])) w' := ⟨none, 0, rfl, MineN.nil _ _ _ _, h⟩
theorem rows_start {B : Nat} (wr : World) (h : B ≤ wr.heap.size) : MineR rowSh (wr.alloc (.cells #[] 22)) (fun b => B ≤ b) 22 3 (some ⟨wr.heap.size, 0, none⟩) 0 0 [] :=
  ⟨(Mine.of (own_empty wr 22 1)).wide (fun b hb => Nat.le_trans h hb.1), Inners.nil _, by simp⟩
theorem givesR_none {w w' : World} {A : Option Addr} {c : Nat} (hm : MineR rowSh w' (fun b => w.heap.size + 1 ≤ b) 22 3 A 0 c []) (h : Below w.heap.size w w') : GivesRows w none (.returned (.tuple #[.slice A 0 c, .bool false])) w' :=
  ⟨A, c, rfl, ⟨[], rfl, (hm.wide fun b (hb : w.heap.size + 1 ≤ b) => show w.heap.size ≤ b by omega).inn⟩, h⟩
theorem givesR_some {w w' : World} {A : Option Addr} {n c : Nat} {ps : List (Int × Int)} {rs : List (Hd (List Int))} {R : Option (List (List Int))} (hn : ps.length = n) (hr : rs.map Hd.x = ps.map rowP) (hm : MineR rowSh w' (fun b => w.heap.size + 1 ≤ b) 22 3 A n c rs) (h : Below w.heap.size w w') (hR : R = some (ps.map rowP)) : GivesRows w R (.returned (.tuple #[.slice A n c, .bool true])) w' := by
  subst hR
  refine ⟨A, c, by simp [hn], ⟨rs, hr, ?_⟩, h⟩
  rw [show ((some (ps.map rowP)).getD []).length = n by simp [hn]]
  exact (hm.wide fun b (hb : w.heap.size + 1 ≤ b) => show w.heap.size ≤ b by omega).inn

set_option maxRecDepth 100000 in
set_option maxHeartbeats 4000000 in
theorem ClosedDays_any (A1 A2 : Option Addr) (n1 n2 c1 c2 : Nat) (m : MapV) (A : Option Addr) (n c : Nat) (xs : List Area) (cell : Int) (w : World) (hm : SeesMap w A1 n1 A2 n2 m) (hn' : n1 ≤ 1048576 ∧ n2 ≤ 1048576) (hx : SeesN areaSh w 0 A n xs) (hn : n ≤ 1048576) (hi : ∀ x ∈ xs, x.cnt ≤ 1048576) :
    Calls Try.prog 38 #[.agg #[.int .i64 m.width, .int .i64 m.height, .slice A1 n1 c1, .slice A2 n2 c2], .slice A n c, .int .i64 cell] w (GivesRows w (closedDays m xs cell)) := by
  go_enter Try.func38, Try.ntmps38
  go_wp2_with fail
  have K0 : Below w.heap.size w (w.alloc (.cells #[.int .i64 m.width, .int .i64 m.height, .slice A1 n1 c1, .slice A2 n2 c2] 29)) := (Below.refl _ _).alloc (Nat.le_refl _) _
  have Bm0 : Blk (w.alloc (.cells #[.int .i64 m.width, .int .i64 m.height, .slice A1 n1 c1, .slice A2 n2 c2] 29)) w.heap.size 29 [.int .i64 m.width, .int .i64 m.height, .slice A1 n1 c1, .slice A2 n2 c2] := Blk.at_ rfl
  refine (AreAreas_any _ _ _ _ _ _ m _ _ _ xs _ (hm.next K0) hn' (hx.next K0) hn hi).mono ?_
  cases g1 : areasB m xs
  · rintro e w1 ⟨rfl, b1⟩
    go_wp2_with fail
    go_ret2
    rw [show closedDays m xs cell = none by simp [closedDays, g1]]
    exact givesR_nil (bel_then K0 b1)
  · rintro e w1 ⟨rfl, b1⟩
    have g0 := (areasB_at g1).1
    have hp := (mapB_size g0).1
    have K1 := bel_then K0 b1
    have Bm1 := Bm0.next b1
    have cm := Bm1.cell
    go_wp2_with fail
    refine (isCell_any _ _ _ _ _ _ m cell _ (hm.next K1) hn').mono ?_
    cases g2 : isCellB m cell
    · rintro e w2 ⟨rfl, b2⟩
      go_wp2_with fail
      go_ret2
      rw [show closedDays m xs cell = none by simp [closedDays, g2]]
      exact givesR_nil (bel_then K1 b2)
    · rintro e w2 ⟨rfl, b2⟩
      have K2 := bel_then K1 b2
      have Bm2 := Bm1.next b2
      have M2 := rows_start (B := w.heap.size + 1) w2 (by have := Bm2.lt; omega)
      obtain ⟨k, rfl, hkc⟩ : ∃ k : Nat, cell = (k : Int) ∧ k < m.cost.length := by
        have h1 := g2
        unfold isCellB at h1
        simp only [Bool.and_eq_true] at h1
        have h := inB_true h1.2
        exact ⟨cell.toNat, by omega, by omega⟩
      have HR := Lib.hid (show closedDays m xs (k : Int) = some ((spansTo m xs k 365).map rowP) by simp [closedDays, g1, g2])
      have G0 := Lib.hid g0
      clear K0 b1 K1 b2 g0 g1 g2 hp cm Bm1 Bm0
      go_wp2_with fail
      go_loopw [8, 9] (fun v i wr => ∃ (d n0 cc : Nat) (ps : List (Int × Int)) (rs : List (Hd (List Int))) (A' : Option Addr), d ≤ 365 ∧ i = .int .i64 (d : Int) ∧ v = .slice A' n0 cc ∧ Hid (spansTo m xs k d = ps) ∧ Hid (ps.length = n0) ∧ n0 ≤ d ∧ Hid (rs.map Hd.x = ps.map rowP) ∧ MineR rowSh wr (fun b => w.heap.size + 1 ≤ b) 22 3 A' n0 cc rs ∧ Blk wr w.heap.size 29 [.int .i64 m.width, .int .i64 m.height, .slice A1 n1 c1, .slice A2 n2 c2] ∧ Below w.heap.size w wr) (fun _ i _ => 365 - (intOf i).toNat)
      case atStart => exact ⟨0, 0, _, [], [], _, Nat.zero_le _, rfl, rfl, Lib.hid rfl, Lib.hid rfl, Nat.le_refl _, Lib.hid rfl, M2, Bm2.alloc _, K2.alloc K2.size _⟩
      case round =>
        obtain ⟨d, n0, cc, ps, rs, A', hd, rfl, rfl, HP, HN0, hnd, HX, hM, Bm, KB⟩ := hrel
        have cm := Bm.cell
        by_cases hlt : d < 365
        · have hin : inB (d : Int) 0 364 = true := by simp [inB]; omega
          have HS := Lib.hid (show spansTo m xs k (d + 1) = spanStep (openB m xs (d : Int) k) (d : Int) ps by rw [← HP.out]; rfl)
          go_wp2_with (go_at_call 69; refine (isYearDay_any _ _).mono ?_; rintro e w' ⟨rfl, rfl⟩)
          refine (isOpenOn_any _ _ _ _ _ _ m _ _ _ xs k (d : Int) _ (hm.next KB) (hx.next KB) hn hi hkc).mono ?_
          cases hop : openB m xs (d : Int) k
          · rintro e w3 ⟨rfl, b3⟩
            have HSf := Lib.hid (show spansTo m xs k (d + 1) = spanStep false (d : Int) ps by rw [HS.out, hop])
            clear HS
            have K3 := bel_then KB b3
            have B3 := Bm.next b3
            have hM3 := hM.next b3
            have z3 := B3.lt
            clear cm hM Bm KB b3 hop
            rcases Nat.eq_zero_or_pos n0 with rfl | hpos
            · have hp0 : ps = [] := List.eq_nil_of_length_eq_zero HN0.out
              have HS2 := Lib.hid (show spansTo m xs k (d + 1) = ps ++ [((d : Int), (d : Int))] by rw [HSf.out, hp0]; rfl)
              clear hp0 HSf
              go_wp2_with (at_builtin; go_loud (refine wpList_pushNew (w := w3.alloc (.cells #[.int .i64 (d : Int), .int .i64 (d : Int)] 3)) (vals := [.slice (some ⟨w3.heap.size, 0, none⟩) 2 2]) rfl _ _ _ rfl Try.underlying51 info_intRow rfl (by decide) rfl (own_alloc hM3.outer.own (.cells #[.int .i64 (d : Int), .int .i64 (d : Int)] 3)) rfl (by simp) (by rfl) (by rfl) (by omega) (by decide) (Nat.zero_le _) ?_); intro A9 c9 w4 o4 h4 b4 q4)
              obtain ⟨M4, L4⟩ := row_push hM3 (by omega) (d : Int) (d : Int) o4 h4 q4
              have B4 : Blk w4 w.heap.size 29 [.int .i64 m.width, .int .i64 m.height, .slice A1 n1 c1, .slice A2 n2 c2] := (L4.block _ (by omega)).trans B3
              have K4 : Below w.heap.size w w4 := K3.trans (L4.mono (by omega))
              go_roundw
              case rel => exact ⟨d + 1, _, c9, _, _, A9, by omega, by go_num, rfl, Lib.hid HS2.out, Lib.hid (by rw [List.length_append, HN0.out]; rfl), by omega, Lib.hid (by rw [List.map_append, HX.out, List.map_append]; rfl), M4, B4, K4⟩
              case measure => simp [intOf]; omega
            · obtain ⟨j, rfl⟩ : ∃ j, n0 = j + 1 := ⟨n0 - 1, by omega⟩
              have hjp : j < ps.length := by rw [HN0.out]; omega
              have hjr : j < rs.length := by
                have h := hM3.count
                omega
              have hxr : rs[j].x = [ps[j].1, ps[j].2] := by
                have h2 : (rs.map Hd.x)[j]'(by simpa using hjr) = rowP ps[j] := by
                  simp only [HX.out]
                  simp
                simpa [rowP] using h2
              obtain ⟨g, g2, dd, rfl, hSg, o0, of0, hgg, hSg2, hg2, cl0, cl1, fl1, hwr⟩ := row_at hM3 hjr hxr
              have hSg' : w.heap.size + 1 ≤ g := hSg
              have hSg2' : w.heap.size + 1 ≤ g2 := hSg2
              have hg := World.block_lt_of_cell? w3 _ o0
              have hj1 : ((j + 1 : Nat) : Int) - 1 = (j : Int) := by omega
              by_cases hlast : ps[j].2 = (d : Int) - 1
              · have HS2 := Lib.hid (show spansTo m xs k (d + 1) = ps.set j (ps[j].1, (d : Int)) by rw [HSf.out]; exact spanStep_more hjp HN0.out hlast)
                have hbq : (ps[j].2 == (d : Int) - 1) = true := beq_iff_eq.2 hlast
                clear hlast HSf hxr
                have M4 := hwr (d : Int)
                have hO4 : Only (fun b => b = g2) w3 (w3.setCell ⟨g2, 1, none⟩ (.int .i64 (d : Int))) := (Only.refl (fun b => b = g2) w3).setCell (p := ⟨g2, 1, none⟩) rfl _
                have B4 := B3.only hO4 (by omega)
                have K4 : Below w.heap.size w _ := K3.trans (hO4.below (fun b hb => by omega) (by omega))
                clear hwr
                go_wp2_with fail
                go_roundw
                case rel => exact ⟨d + 1, j + 1, cc, _, _, _, by omega, by go_num, rfl, Lib.hid HS2.out, Lib.hid (by rw [List.length_set]; exact HN0.out), by omega, Lib.hid (by rw [List.map_set, HX.out, List.map_set]; rfl), M4, B4, K4⟩
                case measure => simp [intOf]; omega
              · have HS2 := Lib.hid (show spansTo m xs k (d + 1) = ps ++ [((d : Int), (d : Int))] by rw [HSf.out]; exact spanStep_new hjp HN0.out hlast)
                have hbq : (ps[j].2 == (d : Int) - 1) = false := beq_eq_false_iff_ne.2 hlast
                clear hlast HSf hxr hwr
                go_wp2_with (at_builtin; go_loud (refine wpList_pushNew (w := w3.alloc (.cells #[.int .i64 (d : Int), .int .i64 (d : Int)] 3)) (vals := [.slice (some ⟨w3.heap.size, 0, none⟩) 2 2]) rfl _ _ _ rfl Try.underlying51 info_intRow rfl (by decide) rfl (own_alloc hM3.outer.own (.cells #[.int .i64 (d : Int), .int .i64 (d : Int)] 3)) rfl (by simp) (by rfl) (by rfl) (by omega) (by decide) (Nat.zero_le _) ?_); intro A9 c9 w4 o4 h4 b4 q4)
                obtain ⟨M4, L4⟩ := row_push hM3 (by omega) (d : Int) (d : Int) o4 h4 q4
                have B4 : Blk w4 w.heap.size 29 [.int .i64 m.width, .int .i64 m.height, .slice A1 n1 c1, .slice A2 n2 c2] := (L4.block _ (by omega)).trans B3
                have K4 : Below w.heap.size w w4 := K3.trans (L4.mono (by omega))
                go_roundw
                case rel => exact ⟨d + 1, _, c9, _, _, A9, by omega, by go_num, rfl, Lib.hid HS2.out, Lib.hid (by rw [List.length_append, HN0.out]; rfl), by omega, Lib.hid (by rw [List.map_append, HX.out, List.map_append]; rfl), M4, B4, K4⟩
                case measure => simp [intOf]; omega
          · rintro e w3 ⟨rfl, b3⟩
            have HSt := Lib.hid (show spansTo m xs k (d + 1) = ps by rw [HS.out, hop]; rfl)
            clear HS
            have K3 := bel_then KB b3
            have B3 := Bm.next b3
            have hM3 := hM.next b3
            have z3 := B3.lt
            clear cm hM Bm KB b3 hop
            go_wp2_with fail
            go_roundw
            case rel => exact ⟨d + 1, n0, cc, ps, rs, A', by omega, by go_num, rfl, HSt, HN0, by omega, HX, hM3, B3, K3⟩
            case measure => simp [intOf]; omega
        · obtain rfl : d = 365 := by omega
          have hin : inB ((365 : Nat) : Int) 0 364 = false := by rfl
          go_wp2_with (go_at_call 69; refine (isYearDay_any _ _).mono ?_; rintro e w' ⟨rfl, rfl⟩)
          go_ret2
          exact givesR_some HN0.out HX.out hM KB (by rw [HR.out, HP.out])

set_option maxRecDepth 100000 in
set_option maxHeartbeats 4000000 in
theorem specClosedDays_any (A1 A2 : Option Addr) (n1 n2 c1 c2 : Nat) (m : MapV) (A : Option Addr) (n c : Nat) (xs : List Area) (cell : Int) (w : World) (hm : SeesMap w A1 n1 A2 n2 m) (hn' : n1 ≤ 1048576 ∧ n2 ≤ 1048576) (hx : SeesN areaSh w 0 A n xs) (hn : n ≤ 1048576) (hi : ∀ x ∈ xs, x.cnt ≤ 1048576) :
    Calls Try.prog 37 #[.agg #[.int .i64 m.width, .int .i64 m.height, .slice A1 n1 c1, .slice A2 n2 c2], .slice A n c, .int .i64 cell] w (GivesRows w (closedDays m xs cell)) := by
  go_enter Try.func37, Try.ntmps37
  go_wp2_with fail
  have K0 : Below w.heap.size w ((w.alloc (.cells #[.int .i64 m.width, .int .i64 m.height, .slice A1 n1 c1, .slice A2 n2 c2] 29)).alloc (.cells #[] 22)) := ((Below.refl w.heap.size w).alloc (Nat.le_refl _) _).alloc (by simp) _
  have Bm0 : Blk ((w.alloc (.cells #[.int .i64 m.width, .int .i64 m.height, .slice A1 n1 c1, .slice A2 n2 c2] 29)).alloc (.cells #[] 22)) w.heap.size 29 [.int .i64 m.width, .int .i64 m.height, .slice A1 n1 c1, .slice A2 n2 c2] := (Blk.at_ rfl).alloc _
  have M0 : MineR rowSh ((w.alloc (.cells #[.int .i64 m.width, .int .i64 m.height, .slice A1 n1 c1, .slice A2 n2 c2] 29)).alloc (.cells #[] 22)) (fun b => w.heap.size + 1 ≤ b) 22 3 (some ⟨w.heap.size + 1, 0, none⟩) 0 0 [] := by
    have h := rows_start (B := w.heap.size + 1) (w.alloc (.cells #[.int .i64 m.width, .int .i64 m.height, .slice A1 n1 c1, .slice A2 n2 c2] 29)) (by simp)
    rw [show (w.alloc (.cells #[.int .i64 m.width, .int .i64 m.height, .slice A1 n1 c1, .slice A2 n2 c2] 29)).heap.size = w.heap.size + 1 by simp] at h
    exact h
  refine (l24Good_any _ _ _ _ _ _ m _ _ _ xs _ (hm.next K0) hn' (hx.next K0) hn hi).mono ?_
  cases g1 : areasB m xs
  · rintro e w1 ⟨rfl, b1⟩
    go_wp2_with fail
    go_ret2
    rw [show closedDays m xs cell = none by simp [closedDays, g1]]
    exact givesR_none (M0.next b1) (bel_then K0 b1)
  · rintro e w1 ⟨rfl, b1⟩
    have g0 := (areasB_at g1).1
    have hp := (mapB_size g0).1
    have K1 := bel_then K0 b1
    have Bm1 := Bm0.next b1
    have cm := Bm1.cell
    go_wp2_with fail
    refine (l2Cell_any _ _ _ _ _ _ m cell _ hp).mono ?_
    rw [isCellB_of g0]
    cases g2 : isCellB m cell
    · rintro e w2 ⟨rfl, b2⟩
      go_wp2_with fail
      go_ret2
      rw [show closedDays m xs cell = none by simp [closedDays, g2]]
      exact givesR_none ((M0.next b1).next b2) (bel_then K1 b2)
    · rintro e w2 ⟨rfl, b2⟩
      have K2 := bel_then K1 b2
      have Bm2 := Bm1.next b2
      have M2 := (M0.next b1).next b2
      obtain ⟨k, rfl, hkc⟩ : ∃ k : Nat, cell = (k : Int) ∧ k < m.cost.length := by
        have h1 := g2
        unfold isCellB at h1
        simp only [Bool.and_eq_true] at h1
        have h := inB_true h1.2
        exact ⟨cell.toNat, by omega, by omega⟩
      have HR := Lib.hid (show closedDays m xs (k : Int) = some ((spansTo m xs k 365).map rowP) by simp [closedDays, g1, g2])
      have G0 := Lib.hid g0
      clear K0 b1 K1 b2 g0 g1 g2 hp cm Bm1 Bm0
      go_wp2_with fail
      go_loopw [8, 9] (fun v i wr => ∃ (d n0 cc : Nat) (ps : List (Int × Int)) (rs : List (Hd (List Int))) (A' : Option Addr), d ≤ 365 ∧ i = .int .i64 (d : Int) ∧ v = .slice A' n0 cc ∧ Hid (spansTo m xs k d = ps) ∧ Hid (ps.length = n0) ∧ n0 ≤ d ∧ Hid (rs.map Hd.x = ps.map rowP) ∧ MineR rowSh wr (fun b => w.heap.size + 1 ≤ b) 22 3 A' n0 cc rs ∧ Blk wr w.heap.size 29 [.int .i64 m.width, .int .i64 m.height, .slice A1 n1 c1, .slice A2 n2 c2] ∧ Below w.heap.size w wr) (fun _ i _ => 365 - (intOf i).toNat)
      case atStart => exact ⟨0, 0, _, [], [], _, Nat.zero_le _, rfl, rfl, Lib.hid rfl, Lib.hid rfl, Nat.le_refl _, Lib.hid rfl, M2, Bm2, K2⟩
      case round =>
        obtain ⟨d, n0, cc, ps, rs, A', hd, rfl, rfl, HP, HN0, hnd, HX, hM, Bm, KB⟩ := hrel
        have cm := Bm.cell
        by_cases hlt : d < 365
        · have HS := Lib.hid (show spansTo m xs k (d + 1) = spanStep (openB m xs (d : Int) k) (d : Int) ps by rw [← HP.out]; rfl)
          go_wp2_with fail
          refine (l24Open_any _ _ _ _ _ _ m _ _ _ xs k (d : Int) _ (hm.next KB) (hx.next KB) hn hi hkc G0.out).mono ?_
          cases hop : openB m xs (d : Int) k
          · rintro e w3 ⟨rfl, b3⟩
            have HSf := Lib.hid (show spansTo m xs k (d + 1) = spanStep false (d : Int) ps by rw [HS.out, hop])
            clear HS
            have K3 := bel_then KB b3
            have B3 := Bm.next b3
            have hM3 := hM.next b3
            have z3 := B3.lt
            clear cm hM Bm KB b3 hop
            rcases Nat.eq_zero_or_pos n0 with rfl | hpos
            · have hp0 : ps = [] := List.eq_nil_of_length_eq_zero HN0.out
              have HS2 := Lib.hid (show spansTo m xs k (d + 1) = ps ++ [((d : Int), (d : Int))] by rw [HSf.out, hp0]; rfl)
              clear hp0 HSf
              go_wp2_with (at_builtin; go_loud (refine wpList_pushNew (w := w3.alloc (.cells #[.int .i64 (d : Int), .int .i64 (d : Int)] 3)) (vals := [.slice (some ⟨w3.heap.size, 0, none⟩) 2 2]) rfl _ _ _ rfl Try.underlying51 info_intRow rfl (by decide) rfl (own_alloc hM3.outer.own (.cells #[.int .i64 (d : Int), .int .i64 (d : Int)] 3)) rfl (by simp) (by rfl) (by rfl) (by omega) (by decide) (Nat.zero_le _) ?_); intro A9 c9 w4 o4 h4 b4 q4)
              obtain ⟨M4, L4⟩ := row_push hM3 (by omega) (d : Int) (d : Int) o4 h4 q4
              have B4 : Blk w4 w.heap.size 29 [.int .i64 m.width, .int .i64 m.height, .slice A1 n1 c1, .slice A2 n2 c2] := (L4.block _ (by omega)).trans B3
              have K4 : Below w.heap.size w w4 := K3.trans (L4.mono (by omega))
              go_roundw
              case rel => exact ⟨d + 1, _, c9, _, _, A9, by omega, by go_num, rfl, Lib.hid HS2.out, Lib.hid (by rw [List.length_append, HN0.out]; rfl), by omega, Lib.hid (by rw [List.map_append, HX.out, List.map_append]; rfl), M4, B4, K4⟩
              case measure => simp [intOf]; omega
            · obtain ⟨j, rfl⟩ : ∃ j, n0 = j + 1 := ⟨n0 - 1, by omega⟩
              have hjp : j < ps.length := by rw [HN0.out]; omega
              have hjr : j < rs.length := by
                have h := hM3.count
                omega
              have hxr : rs[j].x = [ps[j].1, ps[j].2] := by
                have h2 : (rs.map Hd.x)[j]'(by simpa using hjr) = rowP ps[j] := by
                  simp only [HX.out]
                  simp
                simpa [rowP] using h2
              obtain ⟨g, g2, dd, rfl, hSg, o0, of0, hgg, hSg2, hg2, cl0, cl1, fl1, hwr⟩ := row_at hM3 hjr hxr
              have hSg' : w.heap.size + 1 ≤ g := hSg
              have hSg2' : w.heap.size + 1 ≤ g2 := hSg2
              have hg := World.block_lt_of_cell? w3 _ o0
              have hj1 : ((j + 1 : Nat) : Int) - 1 = (j : Int) := by omega
              by_cases hlast : ps[j].2 = (d : Int) - 1
              · have HS2 := Lib.hid (show spansTo m xs k (d + 1) = ps.set j (ps[j].1, (d : Int)) by rw [HSf.out]; exact spanStep_more hjp HN0.out hlast)
                have hbq : (ps[j].2 == (d : Int) - 1) = true := beq_iff_eq.2 hlast
                clear hlast HSf hxr
                have zs : w3.heap.size + 1 ≤ (w3.alloc (.cells #[.int .i64 ps[j].1, .int .i64 (d : Int)] 3)).heap.size := by simp
                have hU : Below w3.heap.size w3 (w3.alloc (.cells #[.int .i64 ps[j].1, .int .i64 (d : Int)] 3)) := (Below.refl _ _).alloc (Nat.le_refl _) _
                have hcu := (bcell hU).1 g j hg
                have hfu := (bcell hU).2 g j hg
                have M4 := (row_swap hM3 hjr rfl ps[j].1 (d : Int)).resolve_right (by omega)
                have hO4 : Only (fun b => b = g) (w3.alloc (.cells #[.int .i64 ps[j].1, .int .i64 (d : Int)] 3)) ((w3.alloc (.cells #[.int .i64 ps[j].1, .int .i64 (d : Int)] 3)).setCell ⟨g, j, none⟩ (.slice (some ⟨w3.heap.size, 0, none⟩) 2 2)) := (Only.refl (fun b => b = g) _).setCell (p := ⟨g, j, none⟩) rfl _
                have B4 := (B3.next hU).only hO4 (by omega)
                have K4 : Below w.heap.size w _ := (bel_then K3 hU).trans (hO4.below (fun b hb => by omega) (by simp; omega))
                rw [World.setCell_alloc_past _ _ _ _ hg] at M4 B4 K4
                clear hwr
                go_wp2_with fail
                go_roundw
                case rel => exact ⟨d + 1, j + 1, cc, _, _, _, by omega, by go_num, rfl, Lib.hid HS2.out, Lib.hid (by rw [List.length_set]; exact HN0.out), by omega, Lib.hid (by rw [List.map_set, HX.out, List.map_set]; rfl), M4, B4, K4⟩
                case measure => simp [intOf]; omega
              · have HS2 := Lib.hid (show spansTo m xs k (d + 1) = ps ++ [((d : Int), (d : Int))] by rw [HSf.out]; exact spanStep_new hjp HN0.out hlast)
                have hbq : (ps[j].2 == (d : Int) - 1) = false := beq_eq_false_iff_ne.2 hlast
                clear hlast HSf hxr hwr
                go_wp2_with (at_builtin; go_loud (refine wpList_pushNew (w := w3.alloc (.cells #[.int .i64 (d : Int), .int .i64 (d : Int)] 3)) (vals := [.slice (some ⟨w3.heap.size, 0, none⟩) 2 2]) rfl _ _ _ rfl Try.underlying51 info_intRow rfl (by decide) rfl (own_alloc hM3.outer.own (.cells #[.int .i64 (d : Int), .int .i64 (d : Int)] 3)) rfl (by simp) (by rfl) (by rfl) (by omega) (by decide) (Nat.zero_le _) ?_); intro A9 c9 w4 o4 h4 b4 q4)
                obtain ⟨M4, L4⟩ := row_push hM3 (by omega) (d : Int) (d : Int) o4 h4 q4
                have B4 : Blk w4 w.heap.size 29 [.int .i64 m.width, .int .i64 m.height, .slice A1 n1 c1, .slice A2 n2 c2] := (L4.block _ (by omega)).trans B3
                have K4 : Below w.heap.size w w4 := K3.trans (L4.mono (by omega))
                go_roundw
                case rel => exact ⟨d + 1, _, c9, _, _, A9, by omega, by go_num, rfl, Lib.hid HS2.out, Lib.hid (by rw [List.length_append, HN0.out]; rfl), by omega, Lib.hid (by rw [List.map_append, HX.out, List.map_append]; rfl), M4, B4, K4⟩
                case measure => simp [intOf]; omega
          · rintro e w3 ⟨rfl, b3⟩
            have HSt := Lib.hid (show spansTo m xs k (d + 1) = ps by rw [HS.out, hop]; rfl)
            clear HS
            have K3 := bel_then KB b3
            have B3 := Bm.next b3
            have hM3 := hM.next b3
            have z3 := B3.lt
            clear cm hM Bm KB b3 hop
            go_wp2_with fail
            go_roundw
            case rel => exact ⟨d + 1, n0, cc, ps, rs, A', by omega, by go_num, rfl, HSt, HN0, by omega, HX, hM3, B3, K3⟩
            case measure => simp [intOf]; omega
        · obtain rfl : d = 365 := by omega
          go_wp2_with fail
          go_ret2
          exact givesR_some HN0.out HX.out hM KB (by rw [HR.out, HP.out])

end Go.Proofs.Ytljiflbaknakaaa
