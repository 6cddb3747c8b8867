/- CheckAll, as the reference has it. -/
import Derived.Deep.LoopGhost
import Derived.Test.YtmhfhmjnffjflaaCheckA
import Derived.Test.YtmhfhmjnffjflaaCheckG
namespace Go.Proofs.Ytmhfhmjnffjflaa
open Go.RowKit

theorem checkD_grows (d : DeskV) : ∃ c, (checkD d).done.length = d.done.length + c := by
  cases hq : d.queue with
  | nil => exact ⟨0, by unfold checkD; rw [hq]; rfl⟩
  | cons x q => exact ⟨_, putsB_done hq⟩
theorem checkN_grows (d : DeskV) : ∀ k, ∃ c, (checkN k d).done.length = d.done.length + c
  | 0 => ⟨0, rfl⟩
  | k + 1 => by
    obtain ⟨c, h⟩ := checkN_grows d k
    obtain ⟨e, h2⟩ := checkD_grows (checkN k d)
    exact ⟨c + e, by rw [checkN, h2, h]; omega⟩

set_option maxRecDepth 100000 in
set_option maxHeartbeats 4000000 in
theorem specCheckAll_any (h : DeskH) (d : DeskV) (w : World) (hs : SeesDesk w 0 h d) (hf : DeskFit 1048576 h d) (hc : h.n3 ≤ h.c3) :
    Calls Try.prog 5 #[.agg #[.slice h.A0 h.n0 h.c0, .slice h.A1 h.n1 h.c1, .slice h.A2 h.n2 h.c2, .slice h.A3 h.n3 h.c3, .slice h.A4 h.n4 h.c4]] w (GivesDeskIO w (checkAllM d) (checkAllC d)) := by
  have K0 : Below w.heap.size w ((w.alloc (.cells #[.slice h.A0 h.n0 h.c0, .slice h.A1 h.n1 h.c1, .slice h.A2 h.n2 h.c2, .slice h.A3 h.n3 h.c3, .slice h.A4 h.n4 h.c4] 31)).alloc (.cells #[.slice none 0 0, .slice none 0 0, .slice none 0 0, .slice none 0 0, .slice none 0 0] 31)) := ((Below.refl w.heap.size w).alloc (Nat.le_refl _) _).alloc (by simp) _
  have P : Blk ((w.alloc (.cells #[.slice h.A0 h.n0 h.c0, .slice h.A1 h.n1 h.c1, .slice h.A2 h.n2 h.c2, .slice h.A3 h.n3 h.c3, .slice h.A4 h.n4 h.c4] 31)).alloc (.cells #[.slice none 0 0, .slice none 0 0, .slice none 0 0, .slice none 0 0, .slice none 0 0] 31)) w.heap.size 31 [.slice h.A0 h.n0 h.c0, .slice h.A1 h.n1 h.c1, .slice h.A2 h.n2 h.c2, .slice h.A3 h.n3 h.c3, .slice h.A4 h.n4 h.c4] := (Blk.at_ rfl).alloc _
  have R : Blk ((w.alloc (.cells #[.slice h.A0 h.n0 h.c0, .slice h.A1 h.n1 h.c1, .slice h.A2 h.n2 h.c2, .slice h.A3 h.n3 h.c3, .slice h.A4 h.n4 h.c4] 31)).alloc (.cells #[.slice none 0 0, .slice none 0 0, .slice none 0 0, .slice none 0 0, .slice none 0 0] 31)) (w.heap.size + 1) 31 [.slice none 0 0, .slice none 0 0, .slice none 0 0, .slice none 0 0, .slice none 0 0] := Blk.at_ (by simp)
  have z0 : w.heap.size + 2 ≤ (((w.alloc (.cells #[.slice h.A0 h.n0 h.c0, .slice h.A1 h.n1 h.c1, .slice h.A2 h.n2 h.c2, .slice h.A3 h.n3 h.c3, .slice h.A4 h.n4 h.c4] 31)).alloc (.cells #[.slice none 0 0, .slice none 0 0, .slice none 0 0, .slice none 0 0, .slice none 0 0] 31))).heap.size := by simp
  go_enter Try.func5, Try.ntmps5
  go_wp2_with fail
  generalize ((w.alloc (.cells #[.slice h.A0 h.n0 h.c0, .slice h.A1 h.n1 h.c1, .slice h.A2 h.n2 h.c2, .slice h.A3 h.n3 h.c3, .slice h.A4 h.n4 h.c4] 31)).alloc (.cells #[.slice none 0 0, .slice none 0 0, .slice none 0 0, .slice none 0 0, .slice none 0 0] 31)) = w0 at *
  refine (l25Good_any h d _ (hs.below K0 (Nat.le_refl _)) hf hc).mono ?_
  cases g : deskB d
  · rintro x w1 ⟨rfl, b1⟩
    have K1 := bel_then K0 b1
    have R1 := R.next b1
    have rc := R1.cell
    have rf := R1.frozen
    go_wp2_with fail
    refine bodyPost_ret (v := .tuple #[.agg #[.slice none 0 0, .slice none 0 0, .slice none 0 0, .slice none 0 0, .slice none 0 0], .int .i64 0, .bool false]) (by simp [results, Try.results5, go_sem, rc]) rfl ?_
    rw [(checkAll_none g).1, (checkAll_none g).2]
    have E := ((((((Only.refl (fun b => b = w.heap.size + 1) w1).setCell (p := ⟨w.heap.size + 1, 0, none⟩) rfl (.slice none 0 0)).setCell (p := ⟨w.heap.size + 1, 1, none⟩) rfl (.slice none 0 0)).setCell (p := ⟨w.heap.size + 1, 2, none⟩) rfl (.slice none 0 0)).setCell (p := ⟨w.heap.size + 1, 3, none⟩) rfl (.slice none 0 0)).setCell (p := ⟨w.heap.size + 1, 4, none⟩) rfl (.slice none 0 0))
    exact givesDIO_none (K1.trans (E.below (fun k hk => by omega) K1.size))
  · rintro x w1 ⟨rfl, b1⟩
    have SM := deskB_small g
    have K1 := bel_then K0 b1
    have R1 := R.next b1
    have P1 := P.next b1
    have z1 := b1.size
    have pc := P1.cell
    clear P R K0 b1
    go_wp2_with fail
    refine (l25OwnW_any h d _ (hs.below K1 (Nat.le_refl _)) hf).mono ?_
    rintro x w2 ⟨H, rfl, M, F, C3, C2, b2⟩
    have K2 := bel_then K1 b2
    have R2 := R1.next b2
    have P2 := P1.next b2
    have z2 := b2.size
    have hn2 := Lib.hid (SM.lens M.desk.sees).2.2.1
    have U : Below w2.heap.size w2 (w2.alloc (.cells #[.slice H.A0 H.n0 H.c0, .slice H.A1 H.n1 H.c1, .slice H.A2 H.n2 H.c2, .slice H.A3 H.n3 H.c3, .slice H.A4 H.n4 H.c4] 31)) := (Below.refl _ _).alloc (Nat.le_refl _) _
    have B3 : Blk (w2.alloc (.cells #[.slice H.A0 H.n0 H.c0, .slice H.A1 H.n1 H.c1, .slice H.A2 H.n2 H.c2, .slice H.A3 H.n3 H.c3, .slice H.A4 H.n4 H.c4] 31)) w2.heap.size 31 [.slice H.A0 H.n0 H.c0, .slice H.A1 H.n1 H.c1, .slice H.A2 H.n2 H.c2, .slice H.A3 H.n3 H.c3, .slice H.A4 H.n4 H.c4] := Blk.at_ rfl
    have K3 := bel_then K2 U
    have R3 := R2.next U
    have P3 := P2.next U
    have M3 := (M.next U).wide (T := fun b => b ≠ w2.heap.size ∧ w.heap.size + 2 ≤ b ∧ b < (w2.alloc (.cells #[.slice H.A0 H.n0 H.c0, .slice H.A1 H.n1 H.c1, .slice H.A2 H.n2 H.c2, .slice H.A3 H.n3 H.c3, .slice H.A4 H.n4 H.c4] 31)).heap.size) (fun b hb => ⟨by have := hb.2; omega, by have := hb.1; omega, Nat.lt_of_lt_of_le hb.2 U.size⟩)
    have HL := Lib.hid (SM.lens hs).2.2.2.1
    clear pc P1 K1 R1 M K2 R2 P2 U b2 F
    have hg5 : w.heap.size + 2 ≤ w2.heap.size := by omega
    have G := Lib.hid g
    clear g
    have HT := SM.total
    go_wp2_with fail
    generalize w2.alloc (.cells #[.slice H.A0 H.n0 H.c0, .slice H.A1 H.n1 H.c1, .slice H.A2 H.n2 H.c2, .slice H.A3 H.n3 H.c3, .slice H.A4 H.n4 H.c4] 31) = w3 at *
    generalize w2.heap.size = g5 at *
    go_loopg [12] d.queue.length (fun gk _ wr => ∃ (h' : DeskH) (k : Nat), Hid (gk + k = d.queue.length) ∧ Hid (h'.n2 = gk) ∧ h'.n2 ≤ h'.c2 ∧ Blk wr g5 31 [.slice h'.A0 h'.n0 h'.c0, .slice h'.A1 h'.n1 h'.c1, .slice h'.A2 h'.n2 h'.c2, .slice h'.A3 h'.n3 h'.c3, .slice h'.A4 h'.n4 h'.c4] ∧ MineW wr (fun b => b ≠ g5 ∧ w.heap.size + 2 ≤ b ∧ b < wr.heap.size) h' (checkN k d) ∧ Blk wr (w.heap.size + 1) 31 [.slice none 0 0, .slice none 0 0, .slice none 0 0, .slice none 0 0, .slice none 0 0] ∧ Blk wr w.heap.size 31 [.slice h.A0 h.n0 h.c0, .slice h.A1 h.n1 h.c1, .slice h.A2 h.n2 h.c2, .slice h.A3 h.n3 h.c3, .slice h.A4 h.n4 h.c4] ∧ Below w.heap.size w wr)
    case atStart => exact ⟨H, 0, Lib.hid (Nat.add_zero _), hn2, C2, B3, M3, R3, P3, K3⟩
    case round =>
      obtain ⟨h', k, HK, HN, hcap, B, M, R, P, K⟩ := hrel
      clear B3 M3 R3 P3 K3
      have hgl := B.lt
      rcases gk with _ | gk
      · have hkN : k = d.queue.length := by have := HK.out; omega
        subst hkN
        obtain ⟨c, hcc⟩ := checkN_grows d d.queue.length
        have HA := Lib.hid (checkAll_some G.out hcc)
        have hpos : ¬ (0 : Int) < (h'.n2 : Int) := by have := HN.out; omega
        have hwr : IntKind.i64.wrap ((h'.n3 : Int) - (h.n3 : Int)) = (c : Int) := by
          have e1 := ((SM.checks d.queue.length).lens M.desk.sees).2.2.2.1
          have e2 := HL.out
          have e3 := (SM.checks d.queue.length).total
          rw [e1, e2, hcc, IntWalk.i64_in _ (by omega)]
          omega
        clear hcc hcap
        have bcw := B.cell
        have rcw := R.cell
        have rfw := R.frozen
        have b := (Quiet.one wr).below wr.heap.size
        have bc0 := (B.next b).cell
        have pc0 := (P.next b).cell
        clear b
        have E := ((((((Only.refl (fun b => b = w.heap.size + 1) wr).setCell (p := ⟨w.heap.size + 1, 0, none⟩) rfl (.slice h'.A0 h'.n0 h'.c0)).setCell (p := ⟨w.heap.size + 1, 1, none⟩) rfl (.slice h'.A1 h'.n1 h'.c1)).setCell (p := ⟨w.heap.size + 1, 2, none⟩) rfl (.slice h'.A2 h'.n2 h'.c2)).setCell (p := ⟨w.heap.size + 1, 3, none⟩) rfl (.slice h'.A3 h'.n3 h'.c3)).setCell (p := ⟨w.heap.size + 1, 4, none⟩) rfl (.slice h'.A4 h'.n4 h'.c4))
        have bD := (Quiet.one (((((wr.setCell ⟨w.heap.size + 1, 0, none⟩ (.slice h'.A0 h'.n0 h'.c0)).setCell ⟨w.heap.size + 1, 1, none⟩ (.slice h'.A1 h'.n1 h'.c1)).setCell ⟨w.heap.size + 1, 2, none⟩ (.slice h'.A2 h'.n2 h'.c2)).setCell ⟨w.heap.size + 1, 3, none⟩ (.slice h'.A3 h'.n3 h'.c3)).setCell ⟨w.heap.size + 1, 4, none⟩ (.slice h'.A4 h'.n4 h'.c4))).below ((((((wr.setCell ⟨w.heap.size + 1, 0, none⟩ (.slice h'.A0 h'.n0 h'.c0)).setCell ⟨w.heap.size + 1, 1, none⟩ (.slice h'.A1 h'.n1 h'.c1)).setCell ⟨w.heap.size + 1, 2, none⟩ (.slice h'.A2 h'.n2 h'.c2)).setCell ⟨w.heap.size + 1, 3, none⟩ (.slice h'.A3 h'.n3 h'.c3)).setCell ⟨w.heap.size + 1, 4, none⟩ (.slice h'.A4 h'.n4 h'.c4))).heap.size
        have bcE := ((B.only E (fun h => by omega)).next bD).cell
        have pcE := ((P.only E (fun h => by omega)).next bD).cell
        go_wp2_with fail
        refine wp_region_held_drew (S := fun w' => w'.cell? ⟨g5, 0, none⟩ = some (.slice h'.A0 h'.n0 h'.c0) ∧ w'.cell? ⟨g5, 1, none⟩ = some (.slice h'.A1 h'.n1 h'.c1) ∧ w'.cell? ⟨g5, 2, none⟩ = some (.slice h'.A2 h'.n2 h'.c2) ∧ w'.cell? ⟨g5, 3, none⟩ = some (.slice h'.A3 h'.n3 h'.c3) ∧ w'.cell? ⟨g5, 4, none⟩ = some (.slice h'.A4 h'.n4 h'.c4) ∧ w'.cell? ⟨w.heap.size, 3, none⟩ = some (.slice h.A3 h.n3 h.c3)) (by kernel_rfl) (by (try dsimp only); exact ⟨bc0 0, bc0 1, bc0 2, bc0 3, bc0 4, pc0 3⟩) (fun hHeld => ?_)
        refine wpAnyH_take (i := 0) (v := ?_) rfl (by kernel_rfl) (by kernel_rfl) (by kernel_rfl) (fun _ _ _ h => h) (Or.inl ⟨by rfl, ?_⟩) (by assumption) ?_
        rotate_left 1
        · (intro w hSw; (try dsimp only at hSw); go_simp; try with_reducible rfl)
        simp only [Act.put, List.setIfInBounds_toArray, List.set_cons_zero, List.set_cons_succ, List.getElem_toArray, List.getElem_cons_zero]
        refine wpAnyH_take (i := 1) (v := ?_) rfl (by kernel_rfl) (by kernel_rfl) (by kernel_rfl) (fun _ _ _ h => h) (Or.inl ⟨by rfl, ?_⟩) (by assumption) ?_
        rotate_left 1
        · (intro w hSw; (try dsimp only at hSw); go_simp; try with_reducible rfl)
        simp only [Act.put, List.setIfInBounds_toArray, List.set_cons_zero, List.set_cons_succ, List.getElem_toArray, List.getElem_cons_zero, List.getElem_cons_succ]
        refine wpAnyH_take (i := 2) (v := ?_) rfl (by kernel_rfl) (by kernel_rfl) (by kernel_rfl) (fun _ _ _ h => h) (Or.inl ⟨by rfl, ?_⟩) (by assumption) ?_
        rotate_left 1
        · (intro w hSw; (try dsimp only at hSw); go_simp; try with_reducible rfl)
        simp only [Act.put, List.setIfInBounds_toArray, List.set_cons_zero, List.set_cons_succ, List.getElem_toArray, List.getElem_cons_zero, List.getElem_cons_succ]
        refine wpAnyH_take (i := 3) (v := ?_) rfl (by kernel_rfl) (by kernel_rfl) (by kernel_rfl) (fun _ _ _ h => h) (Or.inl ⟨by rfl, ?_⟩) (by assumption) ?_
        rotate_left 1
        · (intro w hSw; (try dsimp only at hSw); go_simp; try with_reducible rfl)
        simp only [Act.put, List.setIfInBounds_toArray, List.set_cons_zero, List.set_cons_succ, List.getElem_toArray, List.getElem_cons_zero, List.getElem_cons_succ]
        refine wpAnyH_take (i := 4) (v := ?_) rfl (by kernel_rfl) (by kernel_rfl) (by kernel_rfl) (fun _ _ _ h => h) (Or.inl ⟨by rfl, ?_⟩) (by assumption) ?_
        rotate_left 1
        · (intro w hSw; (try dsimp only at hSw); go_simp; try with_reducible rfl)
        simp only [Act.put, List.setIfInBounds_toArray, List.set_cons_zero, List.set_cons_succ, List.getElem_toArray, List.getElem_cons_zero, List.getElem_cons_succ]
        refine wpAnyH_take (i := 5) (v := ?_) rfl (by kernel_rfl) (by kernel_rfl) (by kernel_rfl) (fun _ _ _ h => h) (Or.inl ⟨by rfl, ?_⟩) (by assumption) ?_
        rotate_left 1
        · (intro w hSw; (try dsimp only at hSw); go_simp; try with_reducible rfl)
        simp only [Act.put, List.setIfInBounds_toArray, List.set_cons_zero, List.set_cons_succ, List.getElem_toArray, List.getElem_cons_zero, List.getElem_cons_succ]
        refine wpAnyH_take (i := 6) (v := ?_) rfl (by kernel_rfl) (by kernel_rfl) (by kernel_rfl) (fun _ _ _ h => h) (Or.inl ⟨by rfl, ?_⟩) (by assumption) ?_
        rotate_left 1
        · (intro w hSw; (try dsimp only at hSw); go_simp; try with_reducible rfl)
        simp only [Act.put, List.setIfInBounds_toArray, List.set_cons_zero, List.set_cons_succ, List.getElem_toArray, List.getElem_cons_zero, List.getElem_cons_succ]
        refine wpAnyH_take (i := 7) (v := ?_) rfl (by kernel_rfl) (by kernel_rfl) (by kernel_rfl) (fun _ _ _ h => h) (Or.inl ⟨by rfl, ?_⟩) (by assumption) ?_
        rotate_left 1
        · (intro w hSw; (try dsimp only at hSw); go_simp; try with_reducible rfl)
        simp only [Act.put, List.setIfInBounds_toArray, List.set_cons_zero, List.set_cons_succ, List.getElem_toArray, List.getElem_cons_zero, List.getElem_cons_succ]
        refine wpAnyH_ready (rs := [8]) (by kernel_rfl) (by simp) ?_
        refine AllReadyH.cons rfl (fun K hK => ?_) AllReadyH.nil
        go_simp
        refine hK.out _ _ (by (try dsimp only); exact ⟨bcE 0, bcE 1, bcE 2, bcE 3, bcE 4, pcE 3⟩) (fun hHeld => ?_)
        clear hK K
        try simp only [Act.put, List.setIfInBounds_toArray, List.set_cons_zero, List.set_cons_succ, List.getElem_toArray, List.getElem_cons_zero, List.getElem_cons_succ]
        refine wpAnyH_take (i := 9) (v := ?_) rfl (by kernel_rfl) (by kernel_rfl) (by kernel_rfl) (fun _ _ _ h => h) (Or.inl ⟨by rfl, ?_⟩) (by assumption) ?_
        rotate_left 1
        · (intro w hSw; (try dsimp only at hSw); go_simp; try with_reducible rfl)
        simp only [Act.put, List.setIfInBounds_toArray, List.set_cons_zero, List.set_cons_succ, List.getElem_toArray, List.getElem_cons_zero, List.getElem_cons_succ]
        refine wpAnyH_take (i := 10) (v := ?_) rfl (by kernel_rfl) (by kernel_rfl) (by kernel_rfl) (fun _ _ _ h => h) (Or.inl ⟨by rfl, ?_⟩) (by assumption) ?_
        rotate_left 1
        · (intro w hSw; (try dsimp only at hSw); go_simp; try with_reducible rfl)
        simp only [Act.put, List.setIfInBounds_toArray, List.set_cons_zero, List.set_cons_succ, List.getElem_toArray, List.getElem_cons_zero, List.getElem_cons_succ]
        refine wpAnyH_done (by kernel_rfl) ?_ _
        go_wp2_with fail
        refine bodyPost_ret (v := .tuple #[.agg #[.slice h'.A0 h'.n0 h'.c0, .slice h'.A1 h'.n1 h'.c1, .slice h'.A2 h'.n2 h'.c2, .slice h'.A3 h'.n3 h'.c3, .slice h'.A4 h'.n4 h'.c4], .int .i64 (c : Int), .bool true]) (by simp [results, Try.results5, go_sem, rcw]) rfl ?_
        rw [HA.out.1, HA.out.2]
        have zF := E.size
        have zD := bD.size
        have M4 := (M.only E (fun b h1 h2 => by have := h1.2.1; omega)).next bD
        exact ⟨h', rfl, (M4.wide (fun b hb => by have := hb.2.1; have := hb.2.2; exact ⟨by omega, by omega⟩)).desk, (SM.checks _).fit M.desk.sees (by decide) (by decide), M.caps, bel_then (K.trans (E.below (fun k hk => by omega) K.size)) bD⟩
      · have hpos : (0 : Int) < (h'.n2 : Int) := by have := HN.out; omega
        have bc := B.cell
        have hql : (checkN k d).queue.length = gk + 1 := by rw [← ((SM.checks k).lens M.desk.sees).2.2.1]; exact HN.out
        have HQL := Lib.hid hql
        clear hql
        go_wp2_with fail
        refine (l25Check_any h' (checkN k d) gk _ M.desk.sees (SM.checks k) HQL.out).mono ?_
        rintro e w4 ⟨h2, rfl, M', cap', b4⟩
        have hz := b4.size
        have B4 := B.next b4
        have R4 := R.next b4
        have P4 := P.next b4
        have K4 := bel_then K b4
        have hn2 := Lib.hid (((SM.checks (k + 1)).lens M'.desk.sees).2.2.1)
        have hq2 := Lib.hid (show (checkN (k + 1) d).queue.length = gk by rw [checkN, checkD_queue, List.length_tail, HQL.out]; rfl)
        clear bc B M R P K b4
        have bc := B4.cell
        have bf := B4.frozen
        have E4 := ((((((Only.refl (fun b => b = g5) w4).setCell (p := ⟨g5, 0, none⟩) rfl (.slice h2.A0 h2.n0 h2.c0)).setCell (p := ⟨g5, 1, none⟩) rfl (.slice h2.A1 h2.n1 h2.c1)).setCell (p := ⟨g5, 2, none⟩) rfl (.slice h2.A2 h2.n2 h2.c2)).setCell (p := ⟨g5, 3, none⟩) rfl (.slice h2.A3 h2.n3 h2.c3)).setCell (p := ⟨g5, 4, none⟩) rfl (.slice h2.A4 h2.n4 h2.c4))
        have B5 : Blk (((((w4.setCell ⟨g5, 0, none⟩ (.slice h2.A0 h2.n0 h2.c0)).setCell ⟨g5, 1, none⟩ (.slice h2.A1 h2.n1 h2.c1)).setCell ⟨g5, 2, none⟩ (.slice h2.A2 h2.n2 h2.c2)).setCell ⟨g5, 3, none⟩ (.slice h2.A3 h2.n3 h2.c3)).setCell ⟨g5, 4, none⟩ (.slice h2.A4 h2.n4 h2.c4)) g5 31 [.slice h2.A0 h2.n0 h2.c0, .slice h2.A1 h2.n1 h2.c1, .slice h2.A2 h2.n2 h2.c2, .slice h2.A3 h2.n3 h2.c3, .slice h2.A4 h2.n4 h2.c4] := (((((B4.set_ 0 (.slice h2.A0 h2.n0 h2.c0)).set_ 1 (.slice h2.A1 h2.n1 h2.c1)).set_ 2 (.slice h2.A2 h2.n2 h2.c2)).set_ 3 (.slice h2.A3 h2.n3 h2.c3)).set_ 4 (.slice h2.A4 h2.n4 h2.c4))
        have R5 : Blk (((((w4.setCell ⟨g5, 0, none⟩ (.slice h2.A0 h2.n0 h2.c0)).setCell ⟨g5, 1, none⟩ (.slice h2.A1 h2.n1 h2.c1)).setCell ⟨g5, 2, none⟩ (.slice h2.A2 h2.n2 h2.c2)).setCell ⟨g5, 3, none⟩ (.slice h2.A3 h2.n3 h2.c3)).setCell ⟨g5, 4, none⟩ (.slice h2.A4 h2.n4 h2.c4)) (w.heap.size + 1) 31 [.slice none 0 0, .slice none 0 0, .slice none 0 0, .slice none 0 0, .slice none 0 0] := R4.only E4 (fun h => by omega)
        have P5 : Blk (((((w4.setCell ⟨g5, 0, none⟩ (.slice h2.A0 h2.n0 h2.c0)).setCell ⟨g5, 1, none⟩ (.slice h2.A1 h2.n1 h2.c1)).setCell ⟨g5, 2, none⟩ (.slice h2.A2 h2.n2 h2.c2)).setCell ⟨g5, 3, none⟩ (.slice h2.A3 h2.n3 h2.c3)).setCell ⟨g5, 4, none⟩ (.slice h2.A4 h2.n4 h2.c4)) w.heap.size 31 [.slice h.A0 h.n0 h.c0, .slice h.A1 h.n1 h.c1, .slice h.A2 h.n2 h.c2, .slice h.A3 h.n3 h.c3, .slice h.A4 h.n4 h.c4] := P4.only E4 (fun h => by omega)
        have K5 : Below w.heap.size w (((((w4.setCell ⟨g5, 0, none⟩ (.slice h2.A0 h2.n0 h2.c0)).setCell ⟨g5, 1, none⟩ (.slice h2.A1 h2.n1 h2.c1)).setCell ⟨g5, 2, none⟩ (.slice h2.A2 h2.n2 h2.c2)).setCell ⟨g5, 3, none⟩ (.slice h2.A3 h2.n3 h2.c3)).setCell ⟨g5, 4, none⟩ (.slice h2.A4 h2.n4 h2.c4)) := K4.trans (E4.below (fun b hb => by omega) K4.size)
        have M5 : MineW (((((w4.setCell ⟨g5, 0, none⟩ (.slice h2.A0 h2.n0 h2.c0)).setCell ⟨g5, 1, none⟩ (.slice h2.A1 h2.n1 h2.c1)).setCell ⟨g5, 2, none⟩ (.slice h2.A2 h2.n2 h2.c2)).setCell ⟨g5, 3, none⟩ (.slice h2.A3 h2.n3 h2.c3)).setCell ⟨g5, 4, none⟩ (.slice h2.A4 h2.n4 h2.c4)) (fun b => b ≠ g5 ∧ w.heap.size + 2 ≤ b ∧ b < ((((((w4.setCell ⟨g5, 0, none⟩ (.slice h2.A0 h2.n0 h2.c0)).setCell ⟨g5, 1, none⟩ (.slice h2.A1 h2.n1 h2.c1)).setCell ⟨g5, 2, none⟩ (.slice h2.A2 h2.n2 h2.c2)).setCell ⟨g5, 3, none⟩ (.slice h2.A3 h2.n3 h2.c3)).setCell ⟨g5, 4, none⟩ (.slice h2.A4 h2.n4 h2.c4))).heap.size) h2 (checkN (k + 1) d) :=
          (MineW.only M' E4 (fun b h1 (h2 : b = g5) => by have := h1.1; omega)).wide (fun b hb => ⟨by have := hb.1; omega, by have := hb.1; have := K4.size; have := B4.lt; omega, Nat.lt_of_lt_of_le hb.2 E4.size⟩)
        go_wp2_with fail
        go_roundg gk
        case measure => omega
        case rel => exact ⟨h2, k + 1, Lib.hid (by have := HK.out; omega), Lib.hid (by rw [hn2.out, hq2.out]), cap', B5, M5, R5, P5, K5⟩

end Go.Proofs.Ytmhfhmjnffjflaa
