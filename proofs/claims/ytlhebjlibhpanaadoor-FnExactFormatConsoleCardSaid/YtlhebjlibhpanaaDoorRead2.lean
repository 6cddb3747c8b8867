/- The reference's reading of a line. -/
import Derived.Test.YtlhebjlibhpanaaDoorRead
namespace Go.Proofs.YtlhebjlibhpanaaDoor
open Go.RowKit

def GivesRead (w : World) (o : Option LogRecord) (x : Ending) (w' : World) : Prop := ∃ c r : ByteArray, x = .returned (.tuple #[.agg #[.string c, .string r], .bool o.isSome]) ∧ (∀ e, o = some e → e = ⟨c, r⟩) ∧ Below w.heap.size w w'

set_option maxRecDepth 100000 in
set_option maxHeartbeats 2000000 in
theorem l27Read_any (s : ByteArray) (k : Nat) (w : World) (hs : s.size ≤ 3000000) (hk : k < 100) :
    Calls Tryd.prog 51 #[.string s, .int .i64 (k : Int)] w (GivesRead w (okR k s)) := by
  have z2 := upto_size 35 s
  have zk := numT_size k 2 (by omega) (by decide)
  have z0 : (⟨#[32]⟩ : ByteArray).size = 1 := rfl
  have za : (aheadT k).size ≤ 3 := by unfold aheadT; rw [ByteArray.size_append]; omega
  have HA := Lib.hid (show numT k ++ ⟨#[32]⟩ = aheadT k from rfl)
  have K0 : Below w.heap.size w (w.alloc (.cells #[.string ⟨#[]⟩, .string ⟨#[]⟩] 83)) := (Below.refl _ _).alloc (Nat.le_refl _) _
  have B0 : Blk (w.alloc (.cells #[.string ⟨#[]⟩, .string ⟨#[]⟩] 83)) w.heap.size 83 [.string ⟨#[]⟩, .string ⟨#[]⟩] := Blk.at_ rfl
  have fe : ¬ 9223372036854775807 < (numT k).size + 1 := by omega
  go_enter Tryd.func51, Tryd.ntmps51
  go_wp2_with fail
  refine (l1Num_any k _ (by omega)).mono ?_
  rintro e w1 ⟨rfl, q1⟩
  have K1 := bel_quiet K0 q1
  have B1 := B0.quiet q1
  go_wp2_with fail
  refine (l1Split_first s 35 _ _ rfl hs).mono ?_
  rintro e w2 ⟨g1, n1, c1, rfl, x1, l1, _, lt1, b2⟩
  have K2 := bel_then K1 b2
  have B2 := B1.next b2
  have b2c := B2.cell
  have b2f := B2.frozen
  rw [HA.out]
  have HT1 := Lib.hid (fun h => @okR_short k s h)
  have HT2 := Lib.hid (fun h => @okR_other k s h)
  have HT3 := Lib.hid (fun h0 h => @okR_rest k s h0 h)
  have HT4 := Lib.hid (fun h => @okR_noat k s h)
  have HO := Lib.hid (show okR k s = if recB ⟨upto 64 (past 32 (upto 35 s)), past 64 (past 32 (upto 35 s))⟩ = true ∧ lineT k ⟨upto 64 (past 32 (upto 35 s)), past 64 (past 32 (upto 35 s))⟩ = s ++ ⟨#[10]⟩ then some ⟨upto 64 (past 32 (upto 35 s)), past 64 (past 32 (upto 35 s))⟩ else none from rfl)
  generalize upto 35 s = t at *
  generalize aheadT k = a at *
  by_cases h1 : t.size < a.size
  · have HR := Lib.hid (HT1.out h1)
    go_wp2_with fail
    refine bodyPost_ret (v := .tuple #[.agg #[.string ⟨#[]⟩, .string ⟨#[]⟩], .bool false]) (by simp [results, Tryd.results51, go_sem, b2c]) rfl ?_
    exact ⟨_, _, by rw [HR.out]; rfl, (by rw [HR.out]; exact (fun _ h => by cases h)), (K2.setCell (p := ⟨w.heap.size, 0, none⟩) (Nat.le_refl _) _).setCell (p := ⟨w.heap.size, 1, none⟩) (Nat.le_refl _) _⟩
  · by_cases h2 : t.extract 0 a.size = a
    · have hbe : ((t.extract 0 a.size).toList == a.toList) = true := by rw [str_beq, decide_eq_true h2]
      have hbd : decide (t.extract 0 a.size = a) = true := decide_eq_true h2
      have h0 : a.size ≤ t.size := by omega
      have h3 := HT3.out h0 h2
      rw [h3] at HT4 HO
      have zr : (t.extract a.size t.size).size ≤ 3000000 := by simp; omega
      have z5 := upto_size 64 (t.extract a.size t.size)
      have z6 := past_size 64 (t.extract a.size t.size)
      have H2 := Lib.hid h2
      clear h3 HT1 HT2 HT3 h2
      go_wp2_with fail
      refine (l1Split_first (t.extract a.size t.size) 64 _ _ rfl zr).mono ?_
      rintro e w3 ⟨g2, n2, c2, rfl, x2, l2, _, lt2, b3⟩
      generalize t.extract a.size t.size = u at *
      have K3 := bel_then K2 b3
      have B3 := B2.next b3
      have b3c := B3.cell
      have b3f := B3.frozen
      clear b2c b2f
      cases g : hasC 64 u
      · have HR := Lib.hid (HT4.out g)
        have hu := upto_full.2 g
        have hz : (((upto 64 u).size : Int) == (u.size : Int)) = true := by rw [hu]; simp
        clear hu
        go_wp2_with fail
        refine bodyPost_ret (v := .tuple #[.agg #[.string ⟨#[]⟩, .string ⟨#[]⟩], .bool false]) (by simp [results, Tryd.results51, go_sem, b3c]) rfl ?_
        exact ⟨_, _, by rw [HR.out]; rfl, (by rw [HR.out]; exact (fun _ h => by cases h)), (K3.setCell (p := ⟨w.heap.size, 0, none⟩) (Nat.le_refl _) _).setCell (p := ⟨w.heap.size, 1, none⟩) (Nat.le_refl _) _⟩
      · have hne : (upto 64 u).size ≠ u.size := fun h => by rw [upto_full.1 h] at g; cases g
        have hz : (((upto 64 u).size : Int) == (u.size : Int)) = false := by rw [beq_eq_false_iff_ne]; omega
        have HP := Lib.hid (past_extract g)
        have hlt : (upto 64 u).size + 1 ≤ u.size := by omega
        clear hne g
        go_wp2_with fail
        rw [HP.out]
        generalize upto 64 u = c at *
        generalize past 64 u = r at *
        have HU := Lib.hid (show (⟨c, r⟩ : LogRecord).upto 9223372036854775807 by unfold LogRecord.upto; exact ⟨by show c.size ≤ _; omega, by show r.size ≤ _; omega⟩)
        clear b3c b3f hz HT4 x2 x1 HP
        have K4 : Below w.heap.size w (w3.alloc (.cells #[.string c, .string r] 83)).drew := bel_then K3 (bel_then ((Below.refl _ _).alloc (Nat.le_refl _) _) ((Quiet.one _).below _))
        have B4 : Blk (w3.alloc (.cells #[.string c, .string r] 83)).drew w.heap.size 83 [.string ⟨#[]⟩, .string ⟨#[]⟩] := (B3.alloc _).quiet (Quiet.one _)
        have C4 : Blk (w3.alloc (.cells #[.string c, .string r] 83)).drew w3.heap.size 83 [.string c, .string r] := (Blk.at_ rfl : Blk (w3.alloc (.cells #[.string c, .string r] 83)) w3.heap.size 83 [.string c, .string r]).quiet (Quiet.one _)
        have c4c := C4.cell
        have hgg : w3.heap.size ≠ w.heap.size := fun h => by have := B3.lt; omega
        have fs : ¬ 9223372036854775807 < s.size + 1 := by omega
        cases g2' : recB ⟨c, r⟩
        · have HR := Lib.hid (show okR k s = none by rw [HO.out, g2', if_neg (by simp)])
          have HG2 := Lib.hid g2'
          clear g2'
          refine wp_region_held_drew (S := fun w' => w'.cell? ⟨w3.heap.size, 0, none⟩ = some (.string c) ∧ w'.cell? ⟨w3.heap.size, 1, none⟩ = some (.string r)) (by kernel_rfl) (by (try dsimp only); go_keep) (fun hHeld => ?_)
          refine wpAnyH_take (i := 0) (v := ?_) rfl (by kernel_rfl) (by kernel_rfl) (by kernel_rfl) (fun _ _ _ h => h) (Or.inl ⟨by rfl, ?_⟩) (by assumption) ?_
          rotate_left 1
          · (intro w hSw; (try dsimp only at hSw); go_simp; try with_reducible rfl)
          simp only [Act.put, List.setIfInBounds_toArray, List.set_cons_zero, List.set_cons_succ, List.getElem_toArray, List.getElem_cons_zero]
          refine wpAnyH_take (i := 1) (v := ?_) rfl (by kernel_rfl) (by kernel_rfl) (by kernel_rfl) (fun _ _ _ h => h) (Or.inl ⟨by rfl, ?_⟩) (by assumption) ?_
          rotate_left 1
          · (intro w hSw; (try dsimp only at hSw); go_simp; try with_reducible rfl)
          simp only [Act.put, List.setIfInBounds_toArray, List.set_cons_zero, List.set_cons_succ, List.getElem_toArray, List.getElem_cons_zero, List.getElem_cons_succ]
          refine wpAnyH_ready (rs := [2]) (by kernel_rfl) (by simp) ?_
          refine AllReadyH.cons rfl (fun K hK => ?_) AllReadyH.nil
          go_simp
          refine (l27Good_any ⟨c, r⟩ _ HU.out).mono ?_
          rw [HG2.out]
          rintro e w5 ⟨rfl, b5⟩
          have K5 := bel_then K4 b5
          have B5 := B4.next b5
          have C5 := C4.next b5
          have c5c := C5.cell
          clear c4c
          have b5c := B5.cell
          have b5f := B5.frozen

          go_wp2_with fail
          refine hK.out _ _ (by (try dsimp only); go_keep) (fun hHeld => ?_)
          clear hK K
          refine wpAnyH_take (i := 3) (v := ?_) rfl (by kernel_rfl) (by kernel_rfl) (by kernel_rfl) (fun _ _ _ h => h) (Or.inl ⟨by rfl, ?_⟩) (by assumption) ?_
          rotate_left 1
          · (intro w hSw; (try dsimp only at hSw); go_simp; try with_reducible rfl)
          simp only [Act.put, List.setIfInBounds_toArray, List.set_cons_zero, List.set_cons_succ, List.getElem_toArray, List.getElem_cons_zero, List.getElem_cons_succ]
          refine wpAnyH_take (i := 4) (v := undef) rfl (by kernel_rfl) (by kernel_rfl) (by kernel_rfl) (fun _ _ _ h => h) (Or.inr ⟨by rfl, rfl⟩) (by assumption) ?_
          simp only [Act.put, List.setIfInBounds_toArray, List.set_cons_zero, List.set_cons_succ, List.getElem_toArray, List.getElem_cons_zero, List.getElem_cons_succ]
          refine wpAnyH_take (i := 5) (v := undef) rfl (by kernel_rfl) (by kernel_rfl) (by kernel_rfl) (fun _ _ _ h => h) (Or.inr ⟨by rfl, rfl⟩) (by assumption) ?_
          simp only [Act.put, List.setIfInBounds_toArray, List.set_cons_zero, List.set_cons_succ, List.getElem_toArray, List.getElem_cons_zero, List.getElem_cons_succ]
          refine wpAnyH_take (i := 6) (v := undef) rfl (by kernel_rfl) (by kernel_rfl) (by kernel_rfl) (fun _ _ _ h => h) (Or.inr ⟨by rfl, rfl⟩) (by assumption) ?_
          simp only [Act.put, List.setIfInBounds_toArray, List.set_cons_zero, List.set_cons_succ, List.getElem_toArray, List.getElem_cons_zero, List.getElem_cons_succ]
          refine wpAnyH_take (i := 7) (v := undef) rfl (by kernel_rfl) (by kernel_rfl) (by kernel_rfl) (fun _ _ _ h => h) (Or.inr ⟨by rfl, rfl⟩) (by assumption) ?_
          simp only [Act.put, List.setIfInBounds_toArray, List.set_cons_zero, List.set_cons_succ, List.getElem_toArray, List.getElem_cons_zero, List.getElem_cons_succ]
          refine wpAnyH_take (i := 8) (v := undef) rfl (by kernel_rfl) (by kernel_rfl) (by kernel_rfl) (fun _ _ _ h => h) (Or.inr ⟨by rfl, rfl⟩) (by assumption) ?_
          simp only [Act.put, List.setIfInBounds_toArray, List.set_cons_zero, List.set_cons_succ, List.getElem_toArray, List.getElem_cons_zero, List.getElem_cons_succ]
          refine wpAnyH_take (i := 9) (v := undef) rfl (by kernel_rfl) (by kernel_rfl) (by kernel_rfl) (fun _ _ _ h => h) (Or.inr ⟨by rfl, rfl⟩) (by assumption) ?_
          simp only [Act.put, List.setIfInBounds_toArray, List.set_cons_zero, List.set_cons_succ, List.getElem_toArray, List.getElem_cons_zero, List.getElem_cons_succ]
          refine wpAnyH_take (i := 10) (v := ?_) rfl (by kernel_rfl) (by kernel_rfl) (by kernel_rfl) (fun _ _ _ h => h) (Or.inl ⟨by rfl, ?_⟩) (by assumption) ?_
          rotate_left 1
          · (intro w hSw; (try dsimp only at hSw); go_simp; try with_reducible rfl)
          simp only [Act.put, List.setIfInBounds_toArray, List.set_cons_zero, List.set_cons_succ, List.getElem_toArray, List.getElem_cons_zero, List.getElem_cons_succ]
          refine wpAnyH_ready (rs := [11]) (by kernel_rfl) (by simp) ?_
          refine AllReadyH.cons rfl (fun K hK => ?_) AllReadyH.nil
          go_simp
          refine hK.out _ _ (by (try dsimp only); exact ⟨((C5.far (p := ⟨w.heap.size, 0, none⟩) hgg _).far (p := ⟨w.heap.size, 1, none⟩) hgg _).cell 0, ((C5.far (p := ⟨w.heap.size, 0, none⟩) hgg _).far (p := ⟨w.heap.size, 1, none⟩) hgg _).cell 1⟩) (fun hHeld => ?_)
          clear hK K
          try simp only [Act.put, List.setIfInBounds_toArray, List.set_cons_zero, List.set_cons_succ, List.getElem_toArray, List.getElem_cons_zero, List.getElem_cons_succ]
          refine wpAnyH_take (i := 12) (v := ?_) rfl (by kernel_rfl) (by kernel_rfl) (by kernel_rfl) (fun _ _ _ h => h) (Or.inl ⟨by rfl, ?_⟩) (by assumption) ?_
          rotate_left 1
          · (intro w hSw; (try dsimp only at hSw); go_simp; try with_reducible rfl)
          simp only [Act.put, List.setIfInBounds_toArray, List.set_cons_zero, List.set_cons_succ, List.getElem_toArray, List.getElem_cons_zero, List.getElem_cons_succ]
          refine wpAnyH_done (by kernel_rfl) ?_ _
          go_wp2_with fail
          refine bodyPost_ret (v := .tuple #[.agg #[.string c, .string r], .bool false]) (by simp [results, Tryd.results51, go_sem, b5c]) rfl ?_
          exact ⟨_, _, by rw [HR.out]; rfl, (by rw [HR.out]; exact (fun _ h => by cases h)), (K5.setCell (p := ⟨w.heap.size, 0, none⟩) (Nat.le_refl _) _).setCell (p := ⟨w.heap.size, 1, none⟩) (Nat.le_refl _) _⟩
        · have HG2 := Lib.hid g2'
          clear g2'
          by_cases g3 : lineT k ⟨c, r⟩ = s ++ ⟨#[10]⟩
          · have hbe2 : ((lineT k ⟨c, r⟩).toList == (s ++ ⟨#[10]⟩).toList) = true := by rw [str_beq, decide_eq_true g3]
            have hbd2 : decide (lineT k ⟨c, r⟩ = s ++ ⟨#[10]⟩) = true := decide_eq_true g3
            have HR := Lib.hid (show okR k s = some ⟨c, r⟩ by rw [HO.out, if_pos ⟨HG2.out, g3⟩])
            clear g3
            refine wp_region_held_drew (S := fun w' => w'.cell? ⟨w3.heap.size, 0, none⟩ = some (.string c) ∧ w'.cell? ⟨w3.heap.size, 1, none⟩ = some (.string r)) (by kernel_rfl) (by (try dsimp only); go_keep) (fun hHeld => ?_)
            refine wpAnyH_take (i := 0) (v := ?_) rfl (by kernel_rfl) (by kernel_rfl) (by kernel_rfl) (fun _ _ _ h => h) (Or.inl ⟨by rfl, ?_⟩) (by assumption) ?_
            rotate_left 1
            · (intro w hSw; (try dsimp only at hSw); go_simp; try with_reducible rfl)
            simp only [Act.put, List.setIfInBounds_toArray, List.set_cons_zero, List.set_cons_succ, List.getElem_toArray, List.getElem_cons_zero]
            refine wpAnyH_take (i := 1) (v := ?_) rfl (by kernel_rfl) (by kernel_rfl) (by kernel_rfl) (fun _ _ _ h => h) (Or.inl ⟨by rfl, ?_⟩) (by assumption) ?_
            rotate_left 1
            · (intro w hSw; (try dsimp only at hSw); go_simp; try with_reducible rfl)
            simp only [Act.put, List.setIfInBounds_toArray, List.set_cons_zero, List.set_cons_succ, List.getElem_toArray, List.getElem_cons_zero, List.getElem_cons_succ]
            refine wpAnyH_ready (rs := [2]) (by kernel_rfl) (by simp) ?_
            refine AllReadyH.cons rfl (fun K hK => ?_) AllReadyH.nil
            go_simp
            refine (l27Good_any ⟨c, r⟩ _ HU.out).mono ?_
            rw [HG2.out]
            rintro e w5 ⟨rfl, b5⟩
            have K5 := bel_then K4 b5
            have B5 := B4.next b5
            have C5 := C4.next b5
            have c5c := C5.cell
            clear c4c

            go_wp2_with fail
            refine hK.out _ _ (by (try dsimp only); go_keep) (fun hHeld => ?_)
            clear hK K
            refine wpAnyH_take (i := 3) (v := ?_) rfl (by kernel_rfl) (by kernel_rfl) (by kernel_rfl) (fun _ _ _ h => h) (Or.inl ⟨by rfl, ?_⟩) (by assumption) ?_
            rotate_left 1
            · (intro w hSw; (try dsimp only at hSw); go_simp; try with_reducible rfl)
            simp only [Act.put, List.setIfInBounds_toArray, List.set_cons_zero, List.set_cons_succ, List.getElem_toArray, List.getElem_cons_zero, List.getElem_cons_succ]
            refine wpAnyH_take (i := 4) (v := ?_) rfl (by kernel_rfl) (by kernel_rfl) (by kernel_rfl) (fun _ _ _ h => h) (Or.inl ⟨by rfl, ?_⟩) (by assumption) ?_
            rotate_left 1
            · (intro w hSw; (try dsimp only at hSw); go_simp; try with_reducible rfl)
            simp only [Act.put, List.setIfInBounds_toArray, List.set_cons_zero, List.set_cons_succ, List.getElem_toArray, List.getElem_cons_zero, List.getElem_cons_succ]
            refine wpAnyH_take (i := 5) (v := ?_) rfl (by kernel_rfl) (by kernel_rfl) (by kernel_rfl) (fun _ _ _ h => h) (Or.inl ⟨by rfl, ?_⟩) (by assumption) ?_
            rotate_left 1
            · (intro w hSw; (try dsimp only at hSw); go_simp; try with_reducible rfl)
            simp only [Act.put, List.setIfInBounds_toArray, List.set_cons_zero, List.set_cons_succ, List.getElem_toArray, List.getElem_cons_zero, List.getElem_cons_succ]
            refine wpAnyH_take (i := 7) (v := ?_) rfl (by kernel_rfl) (by kernel_rfl) (by kernel_rfl) (fun _ _ _ h => h) (Or.inl ⟨by rfl, ?_⟩) (by assumption) ?_
            rotate_left 1
            · (intro w hSw; (try dsimp only at hSw); go_simp; try with_reducible rfl)
            simp only [Act.put, List.setIfInBounds_toArray, List.set_cons_zero, List.set_cons_succ, List.getElem_toArray, List.getElem_cons_zero, List.getElem_cons_succ]
            refine wpAnyH_take (i := 8) (v := ?_) rfl (by kernel_rfl) (by kernel_rfl) (by kernel_rfl) (fun _ _ _ h => h) (Or.inl ⟨by rfl, ?_⟩) (by assumption) ?_
            rotate_left 1
            · (intro w hSw; (try dsimp only at hSw); go_simp; try with_reducible rfl)
            simp only [Act.put, List.setIfInBounds_toArray, List.set_cons_zero, List.set_cons_succ, List.getElem_toArray, List.getElem_cons_zero, List.getElem_cons_succ]
            refine wpAnyH_ready (rs := [6]) (by kernel_rfl) (by simp) ?_
            refine AllReadyH.cons rfl (fun K hK => ?_) AllReadyH.nil
            go_simp
            refine (l27Line_any k ⟨c, r⟩ _ (by omega) HG2.out).mono ?_
            rintro e w6 ⟨rfl, b6⟩
            have K6 := bel_then K5 b6
            have B6 := B5.next b6
            have C6 := C5.next b6
            have c6c := C6.cell
            clear c5c
            have b6c := B6.cell
            have b6f := B6.frozen

            go_wp2_with fail
            refine hK.out _ _ (by (try dsimp only); go_keep) (fun hHeld => ?_)
            clear hK K
            refine wpAnyH_take (i := 9) (v := ?_) rfl (by kernel_rfl) (by kernel_rfl) (by kernel_rfl) (fun _ _ _ h => h) (Or.inl ⟨by rfl, ?_⟩) (by assumption) ?_
            rotate_left 1
            · (intro w hSw; (try dsimp only at hSw); go_simp; try with_reducible rfl)
            simp only [Act.put, List.setIfInBounds_toArray, List.set_cons_zero, List.set_cons_succ, List.getElem_toArray, List.getElem_cons_zero, List.getElem_cons_succ]
            refine wpAnyH_take (i := 10) (v := ?_) rfl (by kernel_rfl) (by kernel_rfl) (by kernel_rfl) (fun _ _ _ h => h) (Or.inl ⟨by rfl, ?_⟩) (by assumption) ?_
            rotate_left 1
            · (intro w hSw; (try dsimp only at hSw); go_simp; try with_reducible rfl)
            simp only [Act.put, List.setIfInBounds_toArray, List.set_cons_zero, List.set_cons_succ, List.getElem_toArray, List.getElem_cons_zero, List.getElem_cons_succ]
            refine wpAnyH_ready (rs := [11]) (by kernel_rfl) (by simp) ?_
            refine AllReadyH.cons rfl (fun K hK => ?_) AllReadyH.nil
            go_simp
            refine hK.out _ _ (by (try dsimp only); exact ⟨((C6.far (p := ⟨w.heap.size, 0, none⟩) hgg _).far (p := ⟨w.heap.size, 1, none⟩) hgg _).cell 0, ((C6.far (p := ⟨w.heap.size, 0, none⟩) hgg _).far (p := ⟨w.heap.size, 1, none⟩) hgg _).cell 1⟩) (fun hHeld => ?_)
            clear hK K
            try simp only [Act.put, List.setIfInBounds_toArray, List.set_cons_zero, List.set_cons_succ, List.getElem_toArray, List.getElem_cons_zero, List.getElem_cons_succ]
            refine wpAnyH_take (i := 12) (v := ?_) rfl (by kernel_rfl) (by kernel_rfl) (by kernel_rfl) (fun _ _ _ h => h) (Or.inl ⟨by rfl, ?_⟩) (by assumption) ?_
            rotate_left 1
            · (intro w hSw; (try dsimp only at hSw); go_simp; try with_reducible rfl)
            simp only [Act.put, List.setIfInBounds_toArray, List.set_cons_zero, List.set_cons_succ, List.getElem_toArray, List.getElem_cons_zero, List.getElem_cons_succ]
            refine wpAnyH_done (by kernel_rfl) ?_ _
            go_wp2_with fail
            refine bodyPost_ret (v := .tuple #[.agg #[.string c, .string r], .bool true]) (by simp [results, Tryd.results51, go_sem, b6c]) rfl ?_
            exact ⟨_, _, by rw [HR.out]; rfl, (by rw [HR.out]; exact fun _ h => (Option.some.inj h).symm), (K6.setCell (p := ⟨w.heap.size, 0, none⟩) (Nat.le_refl _) _).setCell (p := ⟨w.heap.size, 1, none⟩) (Nat.le_refl _) _⟩
          · have hbe2 : ((lineT k ⟨c, r⟩).toList == (s ++ ⟨#[10]⟩).toList) = false := by rw [str_beq, decide_eq_false g3]
            have hbd2 : decide (lineT k ⟨c, r⟩ = s ++ ⟨#[10]⟩) = false := decide_eq_false g3
            have HR := Lib.hid (show okR k s = none by rw [HO.out, if_neg (fun h => g3 h.2)])
            clear g3
            refine wp_region_held_drew (S := fun w' => w'.cell? ⟨w3.heap.size, 0, none⟩ = some (.string c) ∧ w'.cell? ⟨w3.heap.size, 1, none⟩ = some (.string r)) (by kernel_rfl) (by (try dsimp only); go_keep) (fun hHeld => ?_)
            refine wpAnyH_take (i := 0) (v := ?_) rfl (by kernel_rfl) (by kernel_rfl) (by kernel_rfl) (fun _ _ _ h => h) (Or.inl ⟨by rfl, ?_⟩) (by assumption) ?_
            rotate_left 1
            · (intro w hSw; (try dsimp only at hSw); go_simp; try with_reducible rfl)
            simp only [Act.put, List.setIfInBounds_toArray, List.set_cons_zero, List.set_cons_succ, List.getElem_toArray, List.getElem_cons_zero]
            refine wpAnyH_take (i := 1) (v := ?_) rfl (by kernel_rfl) (by kernel_rfl) (by kernel_rfl) (fun _ _ _ h => h) (Or.inl ⟨by rfl, ?_⟩) (by assumption) ?_
            rotate_left 1
            · (intro w hSw; (try dsimp only at hSw); go_simp; try with_reducible rfl)
            simp only [Act.put, List.setIfInBounds_toArray, List.set_cons_zero, List.set_cons_succ, List.getElem_toArray, List.getElem_cons_zero, List.getElem_cons_succ]
            refine wpAnyH_ready (rs := [2]) (by kernel_rfl) (by simp) ?_
            refine AllReadyH.cons rfl (fun K hK => ?_) AllReadyH.nil
            go_simp
            refine (l27Good_any ⟨c, r⟩ _ HU.out).mono ?_
            rw [HG2.out]
            rintro e w5 ⟨rfl, b5⟩
            have K5 := bel_then K4 b5
            have B5 := B4.next b5
            have C5 := C4.next b5
            have c5c := C5.cell
            clear c4c

            go_wp2_with fail
            refine hK.out _ _ (by (try dsimp only); go_keep) (fun hHeld => ?_)
            clear hK K
            refine wpAnyH_take (i := 3) (v := ?_) rfl (by kernel_rfl) (by kernel_rfl) (by kernel_rfl) (fun _ _ _ h => h) (Or.inl ⟨by rfl, ?_⟩) (by assumption) ?_
            rotate_left 1
            · (intro w hSw; (try dsimp only at hSw); go_simp; try with_reducible rfl)
            simp only [Act.put, List.setIfInBounds_toArray, List.set_cons_zero, List.set_cons_succ, List.getElem_toArray, List.getElem_cons_zero, List.getElem_cons_succ]
            refine wpAnyH_take (i := 4) (v := ?_) rfl (by kernel_rfl) (by kernel_rfl) (by kernel_rfl) (fun _ _ _ h => h) (Or.inl ⟨by rfl, ?_⟩) (by assumption) ?_
            rotate_left 1
            · (intro w hSw; (try dsimp only at hSw); go_simp; try with_reducible rfl)
            simp only [Act.put, List.setIfInBounds_toArray, List.set_cons_zero, List.set_cons_succ, List.getElem_toArray, List.getElem_cons_zero, List.getElem_cons_succ]
            refine wpAnyH_take (i := 5) (v := ?_) rfl (by kernel_rfl) (by kernel_rfl) (by kernel_rfl) (fun _ _ _ h => h) (Or.inl ⟨by rfl, ?_⟩) (by assumption) ?_
            rotate_left 1
            · (intro w hSw; (try dsimp only at hSw); go_simp; try with_reducible rfl)
            simp only [Act.put, List.setIfInBounds_toArray, List.set_cons_zero, List.set_cons_succ, List.getElem_toArray, List.getElem_cons_zero, List.getElem_cons_succ]
            refine wpAnyH_take (i := 7) (v := ?_) rfl (by kernel_rfl) (by kernel_rfl) (by kernel_rfl) (fun _ _ _ h => h) (Or.inl ⟨by rfl, ?_⟩) (by assumption) ?_
            rotate_left 1
            · (intro w hSw; (try dsimp only at hSw); go_simp; try with_reducible rfl)
            simp only [Act.put, List.setIfInBounds_toArray, List.set_cons_zero, List.set_cons_succ, List.getElem_toArray, List.getElem_cons_zero, List.getElem_cons_succ]
            refine wpAnyH_take (i := 8) (v := ?_) rfl (by kernel_rfl) (by kernel_rfl) (by kernel_rfl) (fun _ _ _ h => h) (Or.inl ⟨by rfl, ?_⟩) (by assumption) ?_
            rotate_left 1
            · (intro w hSw; (try dsimp only at hSw); go_simp; try with_reducible rfl)
            simp only [Act.put, List.setIfInBounds_toArray, List.set_cons_zero, List.set_cons_succ, List.getElem_toArray, List.getElem_cons_zero, List.getElem_cons_succ]
            refine wpAnyH_ready (rs := [6]) (by kernel_rfl) (by simp) ?_
            refine AllReadyH.cons rfl (fun K hK => ?_) AllReadyH.nil
            go_simp
            refine (l27Line_any k ⟨c, r⟩ _ (by omega) HG2.out).mono ?_
            rintro e w6 ⟨rfl, b6⟩
            have K6 := bel_then K5 b6
            have B6 := B5.next b6
            have C6 := C5.next b6
            have c6c := C6.cell
            clear c5c
            have b6c := B6.cell
            have b6f := B6.frozen

            go_wp2_with fail
            refine hK.out _ _ (by (try dsimp only); go_keep) (fun hHeld => ?_)
            clear hK K
            refine wpAnyH_take (i := 9) (v := ?_) rfl (by kernel_rfl) (by kernel_rfl) (by kernel_rfl) (fun _ _ _ h => h) (Or.inl ⟨by rfl, ?_⟩) (by assumption) ?_
            rotate_left 1
            · (intro w hSw; (try dsimp only at hSw); go_simp; try with_reducible rfl)
            simp only [Act.put, List.setIfInBounds_toArray, List.set_cons_zero, List.set_cons_succ, List.getElem_toArray, List.getElem_cons_zero, List.getElem_cons_succ]
            refine wpAnyH_take (i := 10) (v := ?_) rfl (by kernel_rfl) (by kernel_rfl) (by kernel_rfl) (fun _ _ _ h => h) (Or.inl ⟨by rfl, ?_⟩) (by assumption) ?_
            rotate_left 1
            · (intro w hSw; (try dsimp only at hSw); go_simp; try with_reducible rfl)
            simp only [Act.put, List.setIfInBounds_toArray, List.set_cons_zero, List.set_cons_succ, List.getElem_toArray, List.getElem_cons_zero, List.getElem_cons_succ]
            refine wpAnyH_ready (rs := [11]) (by kernel_rfl) (by simp) ?_
            refine AllReadyH.cons rfl (fun K hK => ?_) AllReadyH.nil
            go_simp
            refine hK.out _ _ (by (try dsimp only); exact ⟨((C6.far (p := ⟨w.heap.size, 0, none⟩) hgg _).far (p := ⟨w.heap.size, 1, none⟩) hgg _).cell 0, ((C6.far (p := ⟨w.heap.size, 0, none⟩) hgg _).far (p := ⟨w.heap.size, 1, none⟩) hgg _).cell 1⟩) (fun hHeld => ?_)
            clear hK K
            try simp only [Act.put, List.setIfInBounds_toArray, List.set_cons_zero, List.set_cons_succ, List.getElem_toArray, List.getElem_cons_zero, List.getElem_cons_succ]
            refine wpAnyH_take (i := 12) (v := ?_) rfl (by kernel_rfl) (by kernel_rfl) (by kernel_rfl) (fun _ _ _ h => h) (Or.inl ⟨by rfl, ?_⟩) (by assumption) ?_
            rotate_left 1
            · (intro w hSw; (try dsimp only at hSw); go_simp; try with_reducible rfl)
            simp only [Act.put, List.setIfInBounds_toArray, List.set_cons_zero, List.set_cons_succ, List.getElem_toArray, List.getElem_cons_zero, List.getElem_cons_succ]
            refine wpAnyH_done (by kernel_rfl) ?_ _
            go_wp2_with fail
            refine bodyPost_ret (v := .tuple #[.agg #[.string c, .string r], .bool false]) (by simp [results, Tryd.results51, go_sem, b6c]) rfl ?_
            exact ⟨_, _, by rw [HR.out]; rfl, (by rw [HR.out]; exact (fun _ h => by cases h)), (K6.setCell (p := ⟨w.heap.size, 0, none⟩) (Nat.le_refl _) _).setCell (p := ⟨w.heap.size, 1, none⟩) (Nat.le_refl _) _⟩
    · have hbe : ((t.extract 0 a.size).toList == a.toList) = false := by rw [str_beq, decide_eq_false h2]
      have hbd : decide (t.extract 0 a.size = a) = false := decide_eq_false h2
      have HR := Lib.hid (HT2.out h2)
      clear h2
      go_wp2_with fail
      refine bodyPost_ret (v := .tuple #[.agg #[.string ⟨#[]⟩, .string ⟨#[]⟩], .bool false]) (by simp [results, Tryd.results51, go_sem, b2c]) rfl ?_
      exact ⟨_, _, by rw [HR.out]; rfl, (by rw [HR.out]; exact (fun _ h => by cases h)), (K2.setCell (p := ⟨w.heap.size, 0, none⟩) (Nat.le_refl _) _).setCell (p := ⟨w.heap.size, 1, none⟩) (Nat.le_refl _) _⟩

end Go.Proofs.YtlhebjlibhpanaaDoor
