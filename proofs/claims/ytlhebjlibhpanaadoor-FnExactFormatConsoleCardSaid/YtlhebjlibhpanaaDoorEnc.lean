/- The encoding of a record. -/
import Derived.Test.YtlhebjlibhpanaaDoorSeal
namespace Go.Proofs.YtlhebjlibhpanaaDoor
open Go.RowKit


set_option maxRecDepth 100000 in
set_option maxHeartbeats 1000000 in
theorem encodeRecord_any (k : Nat) (e : LogRecord) (w : World) (hk : k < 100) (he : recB e = true) (hg : Gl w) :
    Calls Tryd.prog 57 #[.int .i64 (k : Int), .agg #[.string e.command, .string e.reply]] w fun x w' => x = .returned (.string (lineT k e)) ∧ Below w.heap.size w w' := by
  obtain ⟨⟨h1, h2⟩, h3, _⟩ := recB_facts he
  have hn := numT_size k 2 (by omega) (by decide)
  have hs := sealT_size (bodyT k e)
  have hb := body_size (k := k) he hk
  have HB := Lib.hid hb
  have HH := Lib.hid (body_no (k := k) he)
  have HL := Lib.hid (show lineT k e = sealT (bodyT k e) ++ ⟨#[10]⟩ from rfl)
  clear he
  go_enter Tryd.func57, Tryd.ntmps57
  go_wp2_with fail
  have K1 : Below w.heap.size w (w.alloc (.cells #[.string e.command, .string e.reply] 83)).drew := bel_then ((Below.refl _ _).alloc (Nat.le_refl _) _) ((Quiet.one _).below _)
  have B1 : Blk (w.alloc (.cells #[.string e.command, .string e.reply] 83)).drew w.heap.size 83 [.string e.command, .string e.reply] := (Blk.at_ rfl : Blk (w.alloc (.cells #[.string e.command, .string e.reply] 83)) w.heap.size 83 [.string e.command, .string e.reply])
  have c1 := B1.cell
  have f1 : ¬ 9223372036854775807 < (numT k).size + 1 := by omega
  have f2 : ¬ 9223372036854775807 < (numT k).size + 1 + e.command.size := by omega
  have f3 : ¬ 9223372036854775807 < (numT k).size + 1 + e.command.size + 1 := by omega
  have f4 : ¬ 9223372036854775807 < (numT k).size + 1 + e.command.size + 1 + e.reply.size := by omega
  refine wp_region_held_drew (S := fun w' => w'.cell? ⟨w.heap.size, 0, none⟩ = some (.string e.command) ∧ w'.cell? ⟨w.heap.size, 1, none⟩ = some (.string e.reply)) (by kernel_rfl) (by (try dsimp only); go_keep) (fun hHeld => ?_)
  refine wpAnyH_take (i := 0) (v := ?_) rfl (by kernel_rfl) (by kernel_rfl) (by kernel_rfl) (fun _ _ _ h => h) (Or.inl ⟨by rfl, ?_⟩) (by assumption) ?_
  rotate_left 1
  · (intro w hSw; (try dsimp only at hSw); go_simp; try with_reducible rfl)
  simp only [Act.put, List.setIfInBounds_toArray, List.set_cons_zero, List.set_cons_succ, List.getElem_toArray, List.getElem_cons_zero]
  refine wpAnyH_take (i := 3) (v := ?_) rfl (by kernel_rfl) (by kernel_rfl) (by kernel_rfl) (fun _ _ _ h => h) (Or.inl ⟨by rfl, ?_⟩) (by assumption) ?_
  rotate_left 1
  · (intro w hSw; (try dsimp only at hSw); go_simp; try with_reducible rfl)
  simp only [Act.put, List.setIfInBounds_toArray, List.set_cons_zero, List.set_cons_succ, List.getElem_toArray, List.getElem_cons_zero, List.getElem_cons_succ]
  refine wpAnyH_take (i := 4) (v := ?_) rfl (by kernel_rfl) (by kernel_rfl) (by kernel_rfl) (fun _ _ _ h => h) (Or.inl ⟨by rfl, ?_⟩) (by assumption) ?_
  rotate_left 1
  · (intro w hSw; (try dsimp only at hSw); go_simp; try with_reducible rfl)
  simp only [Act.put, List.setIfInBounds_toArray, List.set_cons_zero, List.set_cons_succ, List.getElem_toArray, List.getElem_cons_zero, List.getElem_cons_succ]
  refine wpAnyH_take (i := 7) (v := ?_) rfl (by kernel_rfl) (by kernel_rfl) (by kernel_rfl) (fun _ _ _ h => h) (Or.inl ⟨by rfl, ?_⟩) (by assumption) ?_
  rotate_left 1
  · (intro w hSw; (try dsimp only at hSw); go_simp; try with_reducible rfl)
  simp only [Act.put, List.setIfInBounds_toArray, List.set_cons_zero, List.set_cons_succ, List.getElem_toArray, List.getElem_cons_zero, List.getElem_cons_succ]
  refine wpAnyH_take (i := 8) (v := ?_) rfl (by kernel_rfl) (by kernel_rfl) (by kernel_rfl) (fun _ _ _ h => h) (Or.inl ⟨by rfl, ?_⟩) (by assumption) ?_
  rotate_left 1
  · (intro w hSw; (try dsimp only at hSw); go_simp; try with_reducible rfl)
  simp only [Act.put, List.setIfInBounds_toArray, List.set_cons_zero, List.set_cons_succ, List.getElem_toArray, List.getElem_cons_zero, List.getElem_cons_succ]
  refine wpAnyH_ready (rs := [1]) (by kernel_rfl) (by simp) ?_
  refine AllReadyH.cons rfl (fun K hK => ?_) AllReadyH.nil
  go_simp
  refine (Itoa_any k _ (by omega) (hg.next K1)).mono ?_
  rintro e w2 ⟨rfl, b2⟩
  have K2 := bel_then K1 b2
  have B2 := B1.next b2
  have c2 := B2.cell
  clear c1

  go_wp2_with fail
  refine hK.out _ _ (by (try dsimp only); go_keep) (fun hHeld => ?_)
  clear hK K
  refine wpAnyH_take (i := 2) (v := ?_) rfl (by kernel_rfl) (by kernel_rfl) (by kernel_rfl) (fun _ _ _ h => h) (Or.inl ⟨by rfl, ?_⟩) (by assumption) ?_
  rotate_left 1
  · (intro w hSw; (try dsimp only at hSw); go_simp; try with_reducible rfl)
  simp only [Act.put, List.setIfInBounds_toArray, List.set_cons_zero, List.set_cons_succ, List.getElem_toArray, List.getElem_cons_zero, List.getElem_cons_succ]
  refine wpAnyH_take (i := 5) (v := ?_) rfl (by kernel_rfl) (by kernel_rfl) (by kernel_rfl) (fun _ _ _ h => h) (Or.inl ⟨by rfl, ?_⟩) (by assumption) ?_
  rotate_left 1
  · (intro w hSw; (try dsimp only at hSw); go_simp; try with_reducible rfl)
  simp only [Act.put, List.setIfInBounds_toArray, List.set_cons_zero, List.set_cons_succ, List.getElem_toArray, List.getElem_cons_zero, List.getElem_cons_succ]
  refine wpAnyH_take (i := 6) (v := ?_) rfl (by kernel_rfl) (by kernel_rfl) (by kernel_rfl) (fun _ _ _ h => h) (Or.inl ⟨by rfl, ?_⟩) (by assumption) ?_
  rotate_left 1
  · (intro w hSw; (try dsimp only at hSw); go_simp; try with_reducible rfl)
  simp only [Act.put, List.setIfInBounds_toArray, List.set_cons_zero, List.set_cons_succ, List.getElem_toArray, List.getElem_cons_zero, List.getElem_cons_succ]
  refine wpAnyH_take (i := 9) (v := ?_) rfl (by kernel_rfl) (by kernel_rfl) (by kernel_rfl) (fun _ _ _ h => h) (Or.inl ⟨by rfl, ?_⟩) (by assumption) ?_
  rotate_left 1
  · (intro w hSw; (try dsimp only at hSw); go_simp; try with_reducible rfl)
  simp only [Act.put, List.setIfInBounds_toArray, List.set_cons_zero, List.set_cons_succ, List.getElem_toArray, List.getElem_cons_zero, List.getElem_cons_succ]
  refine wpAnyH_ready (rs := [10]) (by kernel_rfl) (by simp) ?_
  refine AllReadyH.cons rfl (fun K hK => ?_) AllReadyH.nil
  go_simp
  refine (AppendChecksum_any _ _ ?_ ?_ (hg.next K2)).mono ?_
  · exact Nat.le_trans (HB.out) (by decide)
  · exact HH.out
  rw [show sealT (numT k ++ ⟨#[32]⟩ ++ e.command ++ ⟨#[64]⟩ ++ e.reply) = sealT (bodyT k e) from rfl]
  rintro e w3 ⟨rfl, b3⟩
  have K3 := bel_then K2 b3
  have B3 := B2.next b3
  have c3 := B3.cell
  clear c2

  go_wp2_with fail
  refine hK.out _ _ (by (try dsimp only); go_keep) (fun hHeld => ?_)
  clear hK K
  refine wpAnyH_take (i := 11) (v := ?_) rfl (by kernel_rfl) (by kernel_rfl) (by kernel_rfl) (fun _ _ _ h => h) (Or.inl ⟨by rfl, ?_⟩) (by assumption) ?_
  rotate_left 1
  · (intro w hSw; (try dsimp only at hSw); go_simp; try with_reducible rfl)
  simp only [Act.put, List.setIfInBounds_toArray, List.set_cons_zero, List.set_cons_succ, List.getElem_toArray, List.getElem_cons_zero, List.getElem_cons_succ]
  refine wpAnyH_take (i := 12) (v := ?_) rfl (by kernel_rfl) (by kernel_rfl) (by kernel_rfl) (fun _ _ _ h => h) (Or.inl ⟨by rfl, ?_⟩) (by assumption) ?_
  rotate_left 1
  · (intro w hSw; (try dsimp only at hSw); go_simp; try with_reducible rfl)
  simp only [Act.put, List.setIfInBounds_toArray, List.set_cons_zero, List.set_cons_succ, List.getElem_toArray, List.getElem_cons_zero, List.getElem_cons_succ]
  refine wpAnyH_take (i := 13) (v := ?_) rfl (by kernel_rfl) (by kernel_rfl) (by kernel_rfl) (fun _ _ _ h => h) (Or.inl ⟨by rfl, ?_⟩) (by assumption) ?_
  rotate_left 1
  · (intro w hSw; (try dsimp only at hSw); go_simp; try with_reducible rfl)
  simp only [Act.put, List.setIfInBounds_toArray, List.set_cons_zero, List.set_cons_succ, List.getElem_toArray, List.getElem_cons_zero, List.getElem_cons_succ]
  refine wpAnyH_take (i := 14) (v := ?_) rfl (by kernel_rfl) (by kernel_rfl) (by kernel_rfl) (fun _ _ _ h => h) (Or.inl ⟨by rfl, ?_⟩) (by assumption) ?_
  rotate_left 1
  · (intro w hSw; (try dsimp only at hSw); go_simp; try with_reducible rfl)
  simp only [Act.put, List.setIfInBounds_toArray, List.set_cons_zero, List.set_cons_succ, List.getElem_toArray, List.getElem_cons_zero, List.getElem_cons_succ]
  refine wpAnyH_take (i := 15) (v := ?_) rfl (by kernel_rfl) (by kernel_rfl) (by kernel_rfl) (fun _ _ _ h => h) (Or.inl ⟨by rfl, ?_⟩) (by assumption) ?_
  rotate_left 1
  · (intro w hSw; (try dsimp only at hSw); go_simp; try with_reducible rfl)
  simp only [Act.put, List.setIfInBounds_toArray, List.set_cons_zero, List.set_cons_succ, List.getElem_toArray, List.getElem_cons_zero, List.getElem_cons_succ]
  refine wpAnyH_done (by kernel_rfl) ?_ _
  go_wp2_with fail
  go_ret
  exact ⟨by rw [HL.out]; rfl, K3⟩

set_option maxRecDepth 100000 in
set_option maxHeartbeats 1000000 in
theorem l27Line_any (k : Nat) (e : LogRecord) (w : World) (hk : k < 100) (he : recB e = true) :
    Calls Tryd.prog 67 #[.int .i64 (k : Int), .agg #[.string e.command, .string e.reply]] w fun x w' => x = .returned (.string (lineT k e)) ∧ Below w.heap.size w w' := by
  obtain ⟨⟨h1, h2⟩, h3, _⟩ := recB_facts he
  have hn := numT_size k 2 (by omega) (by decide)
  have hs := sealT_size (bodyT k e)
  have hb := body_size (k := k) he hk
  have HB := Lib.hid hb
  have HL := Lib.hid (show lineT k e = sealT (bodyT k e) ++ ⟨#[10]⟩ from rfl)
  have fe : ¬ 9223372036854775807 < (sealT (bodyT k e)).size + 1 := by omega
  clear he
  go_enter Tryd.func67, Tryd.ntmps67
  go_wp2_with fail
  have K1 : Below w.heap.size w (w.alloc (.cells #[.string e.command, .string e.reply] 83)).drew := bel_then ((Below.refl _ _).alloc (Nat.le_refl _) _) ((Quiet.one _).below _)
  have B1 : Blk (w.alloc (.cells #[.string e.command, .string e.reply] 83)).drew w.heap.size 83 [.string e.command, .string e.reply] := (Blk.at_ rfl : Blk (w.alloc (.cells #[.string e.command, .string e.reply] 83)) w.heap.size 83 [.string e.command, .string e.reply])
  have c1 := B1.cell
  have f1 : ¬ 9223372036854775807 < (numT k).size + 1 := by omega
  have f2 : ¬ 9223372036854775807 < (numT k).size + 1 + e.command.size := by omega
  have f3 : ¬ 9223372036854775807 < (numT k).size + 1 + e.command.size + 1 := by omega
  have f4 : ¬ 9223372036854775807 < (numT k).size + 1 + e.command.size + 1 + e.reply.size := by omega
  refine wp_region_held_drew (S := fun w' => w'.cell? ⟨w.heap.size, 0, none⟩ = some (.string e.command) ∧ w'.cell? ⟨w.heap.size, 1, none⟩ = some (.string e.reply)) (by kernel_rfl) (by (try dsimp only); go_keep) (fun hHeld => ?_)
  refine wpAnyH_take (i := 0) (v := ?_) rfl (by kernel_rfl) (by kernel_rfl) (by kernel_rfl) (fun _ _ _ h => h) (Or.inl ⟨by rfl, ?_⟩) (by assumption) ?_
  rotate_left 1
  · (intro w hSw; (try dsimp only at hSw); go_simp; try with_reducible rfl)
  simp only [Act.put, List.setIfInBounds_toArray, List.set_cons_zero, List.set_cons_succ, List.getElem_toArray, List.getElem_cons_zero]
  refine wpAnyH_take (i := 3) (v := ?_) rfl (by kernel_rfl) (by kernel_rfl) (by kernel_rfl) (fun _ _ _ h => h) (Or.inl ⟨by rfl, ?_⟩) (by assumption) ?_
  rotate_left 1
  · (intro w hSw; (try dsimp only at hSw); go_simp; try with_reducible rfl)
  simp only [Act.put, List.setIfInBounds_toArray, List.set_cons_zero, List.set_cons_succ, List.getElem_toArray, List.getElem_cons_zero, List.getElem_cons_succ]
  refine wpAnyH_take (i := 4) (v := ?_) rfl (by kernel_rfl) (by kernel_rfl) (by kernel_rfl) (fun _ _ _ h => h) (Or.inl ⟨by rfl, ?_⟩) (by assumption) ?_
  rotate_left 1
  · (intro w hSw; (try dsimp only at hSw); go_simp; try with_reducible rfl)
  simp only [Act.put, List.setIfInBounds_toArray, List.set_cons_zero, List.set_cons_succ, List.getElem_toArray, List.getElem_cons_zero, List.getElem_cons_succ]
  refine wpAnyH_take (i := 7) (v := ?_) rfl (by kernel_rfl) (by kernel_rfl) (by kernel_rfl) (fun _ _ _ h => h) (Or.inl ⟨by rfl, ?_⟩) (by assumption) ?_
  rotate_left 1
  · (intro w hSw; (try dsimp only at hSw); go_simp; try with_reducible rfl)
  simp only [Act.put, List.setIfInBounds_toArray, List.set_cons_zero, List.set_cons_succ, List.getElem_toArray, List.getElem_cons_zero, List.getElem_cons_succ]
  refine wpAnyH_take (i := 8) (v := ?_) rfl (by kernel_rfl) (by kernel_rfl) (by kernel_rfl) (fun _ _ _ h => h) (Or.inl ⟨by rfl, ?_⟩) (by assumption) ?_
  rotate_left 1
  · (intro w hSw; (try dsimp only at hSw); go_simp; try with_reducible rfl)
  simp only [Act.put, List.setIfInBounds_toArray, List.set_cons_zero, List.set_cons_succ, List.getElem_toArray, List.getElem_cons_zero, List.getElem_cons_succ]
  refine wpAnyH_ready (rs := [1]) (by kernel_rfl) (by simp) ?_
  refine AllReadyH.cons rfl (fun K hK => ?_) AllReadyH.nil
  go_simp
  refine (l1Num_any k _ (by omega)).mono ?_
  rintro e w2 ⟨rfl, q2⟩
  have b2 := q2.below w.heap.size
  have K2 := K1.trans b2
  have B2 := B1.quiet q2
  have c2 := B2.cell
  clear c1

  go_wp2_with fail
  refine hK.out _ _ (by (try dsimp only); go_keep) (fun hHeld => ?_)
  clear hK K
  refine wpAnyH_take (i := 2) (v := ?_) rfl (by kernel_rfl) (by kernel_rfl) (by kernel_rfl) (fun _ _ _ h => h) (Or.inl ⟨by rfl, ?_⟩) (by assumption) ?_
  rotate_left 1
  · (intro w hSw; (try dsimp only at hSw); go_simp; try with_reducible rfl)
  simp only [Act.put, List.setIfInBounds_toArray, List.set_cons_zero, List.set_cons_succ, List.getElem_toArray, List.getElem_cons_zero, List.getElem_cons_succ]
  refine wpAnyH_take (i := 5) (v := ?_) rfl (by kernel_rfl) (by kernel_rfl) (by kernel_rfl) (fun _ _ _ h => h) (Or.inl ⟨by rfl, ?_⟩) (by assumption) ?_
  rotate_left 1
  · (intro w hSw; (try dsimp only at hSw); go_simp; try with_reducible rfl)
  simp only [Act.put, List.setIfInBounds_toArray, List.set_cons_zero, List.set_cons_succ, List.getElem_toArray, List.getElem_cons_zero, List.getElem_cons_succ]
  refine wpAnyH_take (i := 6) (v := ?_) rfl (by kernel_rfl) (by kernel_rfl) (by kernel_rfl) (fun _ _ _ h => h) (Or.inl ⟨by rfl, ?_⟩) (by assumption) ?_
  rotate_left 1
  · (intro w hSw; (try dsimp only at hSw); go_simp; try with_reducible rfl)
  simp only [Act.put, List.setIfInBounds_toArray, List.set_cons_zero, List.set_cons_succ, List.getElem_toArray, List.getElem_cons_zero, List.getElem_cons_succ]
  refine wpAnyH_take (i := 9) (v := ?_) rfl (by kernel_rfl) (by kernel_rfl) (by kernel_rfl) (fun _ _ _ h => h) (Or.inl ⟨by rfl, ?_⟩) (by assumption) ?_
  rotate_left 1
  · (intro w hSw; (try dsimp only at hSw); go_simp; try with_reducible rfl)
  simp only [Act.put, List.setIfInBounds_toArray, List.set_cons_zero, List.set_cons_succ, List.getElem_toArray, List.getElem_cons_zero, List.getElem_cons_succ]
  refine wpAnyH_ready (rs := [10]) (by kernel_rfl) (by simp) ?_
  refine AllReadyH.cons rfl (fun K hK => ?_) AllReadyH.nil
  go_simp
  refine (l1Seal_any _ _ ?_).mono ?_
  · exact Nat.le_trans (HB.out) (by decide)
  rw [show sealT (numT k ++ ⟨#[32]⟩ ++ e.command ++ ⟨#[64]⟩ ++ e.reply) = sealT (bodyT k e) from rfl]
  rintro e w3 ⟨rfl, q3⟩
  have b3 := q3.below w.heap.size
  have K3 := K2.trans b3
  have B3 := B2.quiet q3
  have c3 := B3.cell
  clear c2

  go_wp2_with fail
  refine hK.out _ _ (by (try dsimp only); go_keep) (fun hHeld => ?_)
  clear hK K
  refine wpAnyH_take (i := 11) (v := ?_) rfl (by kernel_rfl) (by kernel_rfl) (by kernel_rfl) (fun _ _ _ h => h) (Or.inl ⟨by rfl, ?_⟩) (by assumption) ?_
  rotate_left 1
  · (intro w hSw; (try dsimp only at hSw); go_simp; try with_reducible rfl)
  simp only [Act.put, List.setIfInBounds_toArray, List.set_cons_zero, List.set_cons_succ, List.getElem_toArray, List.getElem_cons_zero, List.getElem_cons_succ]
  refine wpAnyH_take (i := 12) (v := ?_) rfl (by kernel_rfl) (by kernel_rfl) (by kernel_rfl) (fun _ _ _ h => h) (Or.inl ⟨by rfl, ?_⟩) (by assumption) ?_
  rotate_left 1
  · (intro w hSw; (try dsimp only at hSw); go_simp; try with_reducible rfl)
  simp only [Act.put, List.setIfInBounds_toArray, List.set_cons_zero, List.set_cons_succ, List.getElem_toArray, List.getElem_cons_zero, List.getElem_cons_succ]
  refine wpAnyH_done (by kernel_rfl) ?_ _
  go_wp2_with fail
  go_ret
  exact ⟨by rw [HL.out]; rfl, K3⟩

def encRec (k : Int) (e : LogRecord) : ByteArray × Bool := if inB k 0 59 && recB e then (lineT k.toNat e, true) else (⟨#[]⟩, false)
/-- A text and a word. -/
def GivesText (w : World) (R : ByteArray × Bool) (e : Ending) (w' : World) : Prop := e = .returned (.tuple #[.string R.1, .bool R.2]) ∧ Below w.heap.size w w'

end Go.Proofs.YtlhebjlibhpanaaDoor
