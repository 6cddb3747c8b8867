/- Joined texts of this proof: DeskG, Wait, Rank, NewD, DeskW, DrwDk, CurCd, ShelfJZ. -/
import Derived.Deep.CutBlock
import Derived.Shelf.Small.Bits
import Derived.Shelf.Small.Wraps
import Derived.Shelf.Strconv.Itoa0
import Derived.Shelf.Sort.Plain
import Derived.Shelf.Slices.Turned
import Derived.Ground.Names2Prog
import Derived.Shelf.Slices.CompactI
import Derived.Shelf.Slices.SearchI
import Derived.Shelf.Slices.Cells
import Derived.Shelf.Slices.In.SortNone
import Derived.Test.YtkimlajfhepfgaaGreatChecked
import Derived.Test.YtkimlajfhepfgaaGreatP02
import Derived.Test.YtkimlajfhepfgaaGreatP01
namespace Go.Proofs.YtkimlajfhepfgaaGreat
open Go.RowKit

set_option maxRecDepth 100000 in
set_option maxHeartbeats 4000000 in
theorem l25Good_any (h : DeskH) (d : DeskV) (w : World) (hs : SeesDesk w 0 h d) (hn : DeskFit 1048576 h d) (hcap : h.n3 ≤ h.c3) :
    Calls Tryz.prog 35 #[.agg #[.slice h.A0 h.n0 h.c0, .slice h.A1 h.n1 h.c1, .slice h.A2 h.n2 h.c2, .slice h.A3 h.n3 h.c3, .slice h.A4 h.n4 h.c4]] w fun e w' => e = .returned (.bool (deskB d)) ∧ Below w.heap.size w w' := by
  obtain ⟨A0, n0, c0, A1, n1, c1, A2, n2, c2, A3, n3, c3, A4, n4, c4⟩ := h
  obtain ⟨s0, s1, s2, s3, s4⟩ := hs
  obtain ⟨ft0, ft1, ft2, fx2, ft3, ft4, fx4⟩ := hn
  dsimp only at *
  have l1 := s1.icount
  have l2 := s2.count
  have l3 := s3.count (by decide) (fun _ => rfl)
  have l4 := s4.count
  have KB : Below w.heap.size w (w.alloc (.cells #[.slice A0 n0 c0, .slice A1 n1 c1, .slice A2 n2 c2, .slice A3 n3 c3, .slice A4 n4 c4] 28)) := (Below.refl _ _).alloc (Nat.le_refl _) _
  have PB : Blk (w.alloc (.cells #[.slice A0 n0 c0, .slice A1 n1 c1, .slice A2 n2 c2, .slice A3 n3 c3, .slice A4 n4 c4] 28)) w.heap.size 28 [.slice A0 n0 c0, .slice A1 n1 c1, .slice A2 n2 c2, .slice A3 n3 c3, .slice A4 n4 c4] := Blk.at_ rfl
  go_enter Tryz.func35, Tryz.ntmps35
  go_wp2_with fail
  generalize (w.alloc (.cells #[.slice A0 n0 c0, .slice A1 n1 c1, .slice A2 n2 c2, .slice A3 n3 c3, .slice A4 n4 c4] 28)) = w0 at *
  have pc := PB.cell
  refine (l12Codes_any _ _ _ d.codes _ (s0.next KB) ft0).mono ?_
  cases gcodes : codesB d.codes
  · have HF := Lib.hid (show deskB d = false from topB_not (by simp [topB, gcodes]))
    rintro e w' ⟨rfl, rfl⟩
    go_wp2_with fail
    go_ret
    exact ⟨ret_bool HF.out.symm, KB⟩
  · rintro e w' ⟨rfl, rfl⟩
    go_wp2_with fail
    refine (l1Rising_any _ _ _ d.known 1 9999 _ (s1.next KB) ft1).mono ?_
    cases gris : risingB 1 9999 d.known
    · have HF := Lib.hid (show deskB d = false from topB_not (by simp [topB, gris]))
      rintro e wn ⟨rfl, qn⟩
      replace KB := bel_quiet KB qn
      replace PB := PB.quiet qn
      clear pc qn
      have pc := PB.cell
      go_wp2_with fail
      go_ret
      exact ⟨ret_bool HF.out.symm, KB⟩
    · rintro e wn ⟨rfl, qn⟩
      replace KB := bel_quiet KB qn
      replace PB := PB.quiet qn
      clear pc qn
      have pc := PB.cell
      by_cases glen : n1 ≤ 8
      · by_cases gtot : n2 + n3 + n4 ≤ 10
        · have HC := Lib.hid (show deskB d = (d.queue.all finB && d.trouble.all finB && allTo n3 (rowAt d)) by simp [deskB, topB, l1, l2, l3, l4, gcodes, glen, gris, gtot])
          clear gcodes gris pc
          have pc := PB.cell
          go_wp2_with fail
          clear pc glen gtot
          go_loopw [3] (fun i wr => ∃ k : Nat, k ≤ n3 ∧ i = .int .i64 k ∧ Hid (allTo k (rowAt d) = true) ∧ Blk wr w.heap.size 28 [.slice A0 n0 c0, .slice A1 n1 c1, .slice A2 n2 c2, .slice A3 n3 c3, .slice A4 n4 c4] ∧ Below w.heap.size w wr) (fun i _ => n3 - (intOf i).toNat)
          case atStart => exact ⟨0, Nat.zero_le _, rfl, Lib.hid rfl, PB, KB⟩
          case round =>
            obtain ⟨k, hk, rfl, HA, PB, hb⟩ := hrel
            have pc := PB.cell
            by_cases hlt : k < n3
            · have s3' := SeesFlat.take s3 (by decide) (fun _ => rfl) k (by omega)
              obtain ⟨b, off, rfl, hkx, x0, x1, x2⟩ := (s3.next hb).elem3 (fun _ => rfl) hlt
              replace s3 := s3'
              clear s3'
              have hkc : k ≤ c3 := by omega
              have HO := Lib.hid (rowAt_at hkx)
              obtain ⟨r, hr⟩ : ∃ r, d.done[k] = r := ⟨_, rfl⟩
              rw [hr] at HO x0 x1 x2
              clear hr
              have hblt : b < wr.heap.size := World.block_lt_of_cell? wr _ x0
              have hbm := PB.lt
              go_wp2_with fail
              have RB0 : Blk (wr.alloc (.cells #[.int .i64 r.number, .int .i64 r.missing, .int .i64 r.time] 41)) wr.heap.size 41 [.int .i64 r.number, .int .i64 r.missing, .int .i64 r.time] := Blk.at_ rfl
              have PB0 := PB.alloc (.cells #[.int .i64 r.number, .int .i64 r.missing, .int .i64 r.time] 41)
              have K2 : Below w.heap.size w (wr.alloc (.cells #[.int .i64 r.number, .int .i64 r.missing, .int .i64 r.time] 41)) := hb.alloc hb.size _
              generalize wr.heap.size = ga at *
              generalize wr.alloc (.cells #[.int .i64 r.number, .int .i64 r.missing, .int .i64 r.time] 41) = w2 at *
              clear x0 x1 x2 pc PB
              have q3 := Quiet.one w2
              have K3 := bel_quiet K2 q3
              have PB3 := PB0.quiet q3
              have RB3 := RB0.quiet q3
              have pc3 := PB3.cell
              have rc3 := RB3.cell
              clear K2 PB0 RB0 q3 hb hblt hbm
              obtain ⟨w3, hw3⟩ : ∃ w3, w2.drew = w3 := ⟨_, rfl⟩
              rw [hw3] at K3 PB3 RB3 pc3 rc3
              subst hw3
              cases g1 : hasI d.known r.number
              · have HR := Lib.hid (show deskB d = false by rw [HC.out, Bool.and_eq_false_iff]; right; exact allTo_false hlt (HO.out.trans (by simp [rowB, g1])))
                refine wp_region_held_drew (S := fun w' => w'.cell? ⟨w.heap.size, 1, none⟩ = some (.slice A1 n1 c1) ∧ w'.cell? ⟨w.heap.size, 3, none⟩ = some (.slice (some ⟨b, off, none⟩) n3 c3) ∧ w'.cell? ⟨ga, 0, none⟩ = some (.int .i64 r.number) ∧ w'.cell? ⟨ga, 1, none⟩ = some (.int .i64 r.missing) ∧ w'.cell? ⟨ga, 2, none⟩ = some (.int .i64 r.time)) (by kernel_rfl) (by (try dsimp only); go_keep) (fun hHeld => ?_)
                refine wpAnyH_take (i := 0) (v := ?_) rfl (by kernel_rfl) (by kernel_rfl) (by kernel_rfl) (fun _ _ _ h => h) (Or.inl ⟨by rfl, ?_⟩) (by assumption) ?_
                rotate_left 1
                · (intro w hSw; (try dsimp only at hSw); go_simp; try with_reducible rfl)
                simp only [Act.put, pA, pB, pC, pD, pE]
                refine wpAnyH_take (i := 1) (v := ?_) rfl (by kernel_rfl) (by kernel_rfl) (by kernel_rfl) (fun _ _ _ h => h) (Or.inl ⟨by rfl, ?_⟩) (by assumption) ?_
                rotate_left 1
                · (intro w hSw; (try dsimp only at hSw); go_simp; try with_reducible rfl)
                simp only [Act.put, pA, pB, pC, pD, pE, pF]
                refine wpAnyH_take (i := 2) (v := ?_) rfl (by kernel_rfl) (by kernel_rfl) (by kernel_rfl) (fun _ _ _ h => h) (Or.inl ⟨by rfl, ?_⟩) (by assumption) ?_
                rotate_left 1
                · (intro w hSw; (try dsimp only at hSw); go_simp; try with_reducible rfl)
                simp only [Act.put, pA, pB, pC, pD, pE, pF]
                refine wpAnyH_take (i := 3) (v := ?_) rfl (by kernel_rfl) (by kernel_rfl) (by kernel_rfl) (fun _ _ _ h => h) (Or.inl ⟨by rfl, ?_⟩) (by assumption) ?_
                rotate_left 1
                · (intro w hSw; (try dsimp only at hSw); go_simp; try with_reducible rfl)
                simp only [Act.put, pA, pB, pC, pD, pE, pF]
                refine wpAnyH_ready (rs := [4]) (by kernel_rfl) (by simp) ?_
                refine AllReadyH.cons rfl (fun K hK => ?_) AllReadyH.nil
                go_simp
                refine (l1Has_any _ _ _ d.known r.number _ (s1.next K3) (by omega)).mono ?_
                rw [g1]
                rintro e w4 ⟨rfl, q4⟩
                have b4 := q4.below w2.drew.heap.size
                have K4 := bel_then K3 b4
                have PB4 := PB3.next b4
                have RB4 := RB3.next b4
                have pc4 := PB4.cell
                have rc4 := RB4.cell
                clear pc3 rc3

                go_wp2_with fail
                refine hK.out _ _ (by (try dsimp only); go_keep) (fun hHeld => ?_)
                clear hK K
                refine wpAnyH_take (i := 5) (v := ?_) rfl (by kernel_rfl) (by kernel_rfl) (by kernel_rfl) (fun _ _ _ h => h) (Or.inl ⟨by rfl, ?_⟩) (by assumption) ?_
                rotate_left 1
                · (intro w hSw; (try dsimp only at hSw); go_simp; try with_reducible rfl)
                simp only [Act.put, pA, pB, pC, pD, pE, pF]
                refine wpAnyH_take (i := 6) (v := ?_) rfl (by kernel_rfl) (by kernel_rfl) (by kernel_rfl) (fun _ _ _ h => h) (Or.inl ⟨by rfl, ?_⟩) (by assumption) ?_
                rotate_left 1
                · (intro w hSw; (try dsimp only at hSw); go_simp; try with_reducible rfl)
                simp only [Act.put, pA, pB, pC, pD, pE, pF]
                refine wpAnyH_take (i := 7) (v := undef) rfl (by kernel_rfl) (by kernel_rfl) (by kernel_rfl) (fun _ _ _ h => h) (Or.inr ⟨by rfl, rfl⟩) (by assumption) ?_
                simp only [Act.put, pA, pB, pC, pD, pE, pF]
                refine wpAnyH_take (i := 8) (v := undef) rfl (by kernel_rfl) (by kernel_rfl) (by kernel_rfl) (fun _ _ _ h => h) (Or.inr ⟨by rfl, rfl⟩) (by assumption) ?_
                simp only [Act.put, pA, pB, pC, pD, pE, pF]
                refine wpAnyH_take (i := 9) (v := undef) rfl (by kernel_rfl) (by kernel_rfl) (by kernel_rfl) (fun _ _ _ h => h) (Or.inr ⟨by rfl, rfl⟩) (by assumption) ?_
                simp only [Act.put, pA, pB, pC, pD, pE, pF]
                refine wpAnyH_take (i := 10) (v := undef) rfl (by kernel_rfl) (by kernel_rfl) (by kernel_rfl) (fun _ _ _ h => h) (Or.inr ⟨by rfl, rfl⟩) (by assumption) ?_
                simp only [Act.put, pA, pB, pC, pD, pE, pF]
                refine wpAnyH_take (i := 11) (v := undef) rfl (by kernel_rfl) (by kernel_rfl) (by kernel_rfl) (fun _ _ _ h => h) (Or.inr ⟨by rfl, rfl⟩) (by assumption) ?_
                simp only [Act.put, pA, pB, pC, pD, pE, pF]
                refine wpAnyH_take (i := 12) (v := undef) rfl (by kernel_rfl) (by kernel_rfl) (by kernel_rfl) (fun _ _ _ h => h) (Or.inr ⟨by rfl, rfl⟩) (by assumption) ?_
                simp only [Act.put, pA, pB, pC, pD, pE, pF]
                refine wpAnyH_take (i := 13) (v := undef) rfl (by kernel_rfl) (by kernel_rfl) (by kernel_rfl) (fun _ _ _ h => h) (Or.inr ⟨by rfl, rfl⟩) (by assumption) ?_
                simp only [Act.put, pA, pB, pC, pD, pE, pF]
                refine wpAnyH_take (i := 14) (v := ?_) rfl (by kernel_rfl) (by kernel_rfl) (by kernel_rfl) (fun _ _ _ h => h) (Or.inl ⟨by rfl, ?_⟩) (by assumption) ?_
                rotate_left 1
                · (intro w hSw; (try dsimp only at hSw); go_simp; try with_reducible rfl)
                simp only [Act.put, pA, pB, pC, pD, pE, pF]
                refine wpAnyH_take (i := 15) (v := ?_) rfl (by kernel_rfl) (by kernel_rfl) (by kernel_rfl) (fun _ _ _ h => h) (Or.inl ⟨by rfl, ?_⟩) (by assumption) ?_
                rotate_left 1
                · (intro w hSw; (try dsimp only at hSw); go_simp; try with_reducible rfl)
                simp only [Act.put, pA, pB, pC, pD, pE, pF]
                refine wpAnyH_take (i := 16) (v := undef) rfl (by kernel_rfl) (by kernel_rfl) (by kernel_rfl) (fun _ _ _ h => h) (Or.inr ⟨by rfl, rfl⟩) (by assumption) ?_
                simp only [Act.put, pA, pB, pC, pD, pE, pF]
                refine wpAnyH_take (i := 17) (v := undef) rfl (by kernel_rfl) (by kernel_rfl) (by kernel_rfl) (fun _ _ _ h => h) (Or.inr ⟨by rfl, rfl⟩) (by assumption) ?_
                simp only [Act.put, pA, pB, pC, pD, pE, pF]
                refine wpAnyH_take (i := 18) (v := undef) rfl (by kernel_rfl) (by kernel_rfl) (by kernel_rfl) (fun _ _ _ h => h) (Or.inr ⟨by rfl, rfl⟩) (by assumption) ?_
                simp only [Act.put, pA, pB, pC, pD, pE, pF]
                refine wpAnyH_take (i := 19) (v := undef) rfl (by kernel_rfl) (by kernel_rfl) (by kernel_rfl) (fun _ _ _ h => h) (Or.inr ⟨by rfl, rfl⟩) (by assumption) ?_
                simp only [Act.put, pA, pB, pC, pD, pE, pF]
                refine wpAnyH_take (i := 20) (v := ?_) rfl (by kernel_rfl) (by kernel_rfl) (by kernel_rfl) (fun _ _ _ h => h) (Or.inl ⟨by rfl, ?_⟩) (by assumption) ?_
                rotate_left 1
                · (intro w hSw; (try dsimp only at hSw); go_simp; try with_reducible rfl)
                simp only [Act.put, pA, pB, pC, pD, pE, pF]
                refine wpAnyH_take (i := 21) (v := ?_) rfl (by kernel_rfl) (by kernel_rfl) (by kernel_rfl) (fun _ _ _ h => h) (Or.inl ⟨by rfl, ?_⟩) (by assumption) ?_
                rotate_left 1
                · (intro w hSw; (try dsimp only at hSw); go_simp; try with_reducible rfl)
                simp only [Act.put, pA, pB, pC, pD, pE, pF]
                refine wpAnyH_take (i := 22) (v := undef) rfl (by kernel_rfl) (by kernel_rfl) (by kernel_rfl) (fun _ _ _ h => h) (Or.inr ⟨by rfl, rfl⟩) (by assumption) ?_
                simp only [Act.put, pA, pB, pC, pD, pE, pF]
                refine wpAnyH_take (i := 23) (v := undef) rfl (by kernel_rfl) (by kernel_rfl) (by kernel_rfl) (fun _ _ _ h => h) (Or.inr ⟨by rfl, rfl⟩) (by assumption) ?_
                simp only [Act.put, pA, pB, pC, pD, pE, pF]
                refine wpAnyH_take (i := 24) (v := undef) rfl (by kernel_rfl) (by kernel_rfl) (by kernel_rfl) (fun _ _ _ h => h) (Or.inr ⟨by rfl, rfl⟩) (by assumption) ?_
                simp only [Act.put, pA, pB, pC, pD, pE, pF]
                refine wpAnyH_take (i := 25) (v := undef) rfl (by kernel_rfl) (by kernel_rfl) (by kernel_rfl) (fun _ _ _ h => h) (Or.inr ⟨by rfl, rfl⟩) (by assumption) ?_
                simp only [Act.put, pA, pB, pC, pD, pE, pF]
                refine wpAnyH_take (i := 26) (v := ?_) rfl (by kernel_rfl) (by kernel_rfl) (by kernel_rfl) (fun _ _ _ h => h) (Or.inl ⟨by rfl, ?_⟩) (by assumption) ?_
                rotate_left 1
                · (intro w hSw; (try dsimp only at hSw); go_simp; try with_reducible rfl)
                simp only [Act.put, pA, pB, pC, pD, pE, pF]
                refine wpAnyH_done (by kernel_rfl) ?_ _
                go_wp2_with fail
                go_ret
                exact ⟨ret_bool HR.out.symm, K4⟩
              · cases g2 : doneB (d.done.take k) r.number
                · cases g3 : inB r.missing 0 12
                  · have HR := Lib.hid (show deskB d = false by rw [HC.out, Bool.and_eq_false_iff]; right; exact allTo_false hlt (HO.out.trans (by simp [rowB, g1, g2, g3])))
                    refine wp_region_held_drew (S := fun w' => w'.cell? ⟨w.heap.size, 1, none⟩ = some (.slice A1 n1 c1) ∧ w'.cell? ⟨w.heap.size, 3, none⟩ = some (.slice (some ⟨b, off, none⟩) n3 c3) ∧ w'.cell? ⟨ga, 0, none⟩ = some (.int .i64 r.number) ∧ w'.cell? ⟨ga, 1, none⟩ = some (.int .i64 r.missing) ∧ w'.cell? ⟨ga, 2, none⟩ = some (.int .i64 r.time)) (by kernel_rfl) (by (try dsimp only); go_keep) (fun hHeld => ?_)
                    refine wpAnyH_take (i := 0) (v := ?_) rfl (by kernel_rfl) (by kernel_rfl) (by kernel_rfl) (fun _ _ _ h => h) (Or.inl ⟨by rfl, ?_⟩) (by assumption) ?_
                    rotate_left 1
                    · (intro w hSw; (try dsimp only at hSw); go_simp; try with_reducible rfl)
                    simp only [Act.put, pA, pB, pC, pD, pE]
                    refine wpAnyH_take (i := 1) (v := ?_) rfl (by kernel_rfl) (by kernel_rfl) (by kernel_rfl) (fun _ _ _ h => h) (Or.inl ⟨by rfl, ?_⟩) (by assumption) ?_
                    rotate_left 1
                    · (intro w hSw; (try dsimp only at hSw); go_simp; try with_reducible rfl)
                    simp only [Act.put, pA, pB, pC, pD, pE, pF]
                    refine wpAnyH_take (i := 2) (v := ?_) rfl (by kernel_rfl) (by kernel_rfl) (by kernel_rfl) (fun _ _ _ h => h) (Or.inl ⟨by rfl, ?_⟩) (by assumption) ?_
                    rotate_left 1
                    · (intro w hSw; (try dsimp only at hSw); go_simp; try with_reducible rfl)
                    simp only [Act.put, pA, pB, pC, pD, pE, pF]
                    refine wpAnyH_take (i := 3) (v := ?_) rfl (by kernel_rfl) (by kernel_rfl) (by kernel_rfl) (fun _ _ _ h => h) (Or.inl ⟨by rfl, ?_⟩) (by assumption) ?_
                    rotate_left 1
                    · (intro w hSw; (try dsimp only at hSw); go_simp; try with_reducible rfl)
                    simp only [Act.put, pA, pB, pC, pD, pE, pF]
                    refine wpAnyH_ready (rs := [4]) (by kernel_rfl) (by simp) ?_
                    refine AllReadyH.cons rfl (fun K hK => ?_) AllReadyH.nil
                    go_simp
                    refine (l1Has_any _ _ _ d.known r.number _ (s1.next K3) (by omega)).mono ?_
                    rw [g1]
                    rintro e w4 ⟨rfl, q4⟩
                    have b4 := q4.below w2.drew.heap.size
                    have K4 := bel_then K3 b4
                    have PB4 := PB3.next b4
                    have RB4 := RB3.next b4
                    have pc4 := PB4.cell
                    have rc4 := RB4.cell
                    clear pc3 rc3

                    go_wp2_with fail
                    refine hK.out _ _ (by (try dsimp only); go_keep) (fun hHeld => ?_)
                    clear hK K
                    refine wpAnyH_take (i := 5) (v := ?_) rfl (by kernel_rfl) (by kernel_rfl) (by kernel_rfl) (fun _ _ _ h => h) (Or.inl ⟨by rfl, ?_⟩) (by assumption) ?_
                    rotate_left 1
                    · (intro w hSw; (try dsimp only at hSw); go_simp; try with_reducible rfl)
                    simp only [Act.put, pA, pB, pC, pD, pE, pF]
                    refine wpAnyH_take (i := 6) (v := ?_) rfl (by kernel_rfl) (by kernel_rfl) (by kernel_rfl) (fun _ _ _ h => h) (Or.inl ⟨by rfl, ?_⟩) (by assumption) ?_
                    rotate_left 1
                    · (intro w hSw; (try dsimp only at hSw); go_simp; try with_reducible rfl)
                    simp only [Act.put, pA, pB, pC, pD, pE, pF]
                    refine wpAnyH_take (i := 7) (v := ?_) rfl (by kernel_rfl) (by kernel_rfl) (by kernel_rfl) (fun _ _ _ h => h) (Or.inl ⟨by rfl, ?_⟩) (by assumption) ?_
                    rotate_left 1
                    · (intro w hSw; (try dsimp only at hSw); go_simp; try with_reducible rfl)
                    simp only [Act.put, pA, pB, pC, pD, pE, pF]
                    refine wpAnyH_take (i := 8) (v := ?_) rfl (by kernel_rfl) (by kernel_rfl) (by kernel_rfl) (fun _ _ _ h => h) (Or.inl ⟨by rfl, ?_⟩) (by assumption) ?_
                    rotate_left 1
                    · (intro w hSw; (try dsimp only at hSw); go_simp; try with_reducible rfl)
                    simp only [Act.put, pA, pB, pC, pD, pE, pF]
                    refine wpAnyH_take (i := 9) (v := ?_) rfl (by kernel_rfl) (by kernel_rfl) (by kernel_rfl) (fun _ _ _ h => h) (Or.inl ⟨by rfl, ?_⟩) (by assumption) ?_
                    rotate_left 1
                    · (intro w hSw; (try dsimp only at hSw); go_simp; try with_reducible rfl)
                    simp only [Act.put, pA, pB, pC, pD, pE, pF]
                    refine wpAnyH_take (i := 10) (v := ?_) rfl (by kernel_rfl) (by kernel_rfl) (by kernel_rfl) (fun _ _ _ h => h) (Or.inl ⟨by rfl, ?_⟩) (by assumption) ?_
                    rotate_left 1
                    · (intro w hSw; (try dsimp only at hSw); go_simp; try with_reducible rfl)
                    simp only [Act.put, pA, pB, pC, pD, pE, pF]
                    refine wpAnyH_take (i := 11) (v := ?_) rfl (by kernel_rfl) (by kernel_rfl) (by kernel_rfl) (fun _ _ _ h => h) (Or.inl ⟨by rfl, ?_⟩) (by assumption) ?_
                    rotate_left 1
                    · (intro w hSw; (try dsimp only at hSw); go_simp; try with_reducible rfl)
                    simp only [Act.put, pA, pB, pC, pD, pE, pF]
                    refine wpAnyH_take (i := 12) (v := ?_) rfl (by kernel_rfl) (by kernel_rfl) (by kernel_rfl) (fun _ _ _ h => h) (Or.inl ⟨by rfl, ?_⟩) (by assumption) ?_
                    rotate_left 1
                    · (intro w hSw; (try dsimp only at hSw); go_simp; try with_reducible rfl)
                    simp only [Act.put, pA, pB, pC, pD, pE, pF]
                    refine wpAnyH_ready (rs := [13]) (by kernel_rfl) (by simp) ?_
                    refine AllReadyH.cons rfl (fun K hK => ?_) AllReadyH.nil
                    go_simp
                    refine (l25Done_any _ _ c3 (d.done.take k) r.number _ (s3.next K4) (by omega)).mono ?_
                    rw [g2]
                    rintro e w' ⟨rfl, rfl⟩

                    go_wp2_with fail
                    refine hK.out _ _ (by (try dsimp only); go_keep) (fun hHeld => ?_)
                    clear hK K
                    refine wpAnyH_take (i := 14) (v := ?_) rfl (by kernel_rfl) (by kernel_rfl) (by kernel_rfl) (fun _ _ _ h => h) (Or.inl ⟨by rfl, ?_⟩) (by assumption) ?_
                    rotate_left 1
                    · (intro w hSw; (try dsimp only at hSw); go_simp; try with_reducible rfl)
                    simp only [Act.put, pA, pB, pC, pD, pE, pF]
                    refine wpAnyH_take (i := 15) (v := ?_) rfl (by kernel_rfl) (by kernel_rfl) (by kernel_rfl) (fun _ _ _ h => h) (Or.inl ⟨by rfl, ?_⟩) (by assumption) ?_
                    rotate_left 1
                    · (intro w hSw; (try dsimp only at hSw); go_simp; try with_reducible rfl)
                    simp only [Act.put, pA, pB, pC, pD, pE, pF]
                    refine wpAnyH_take (i := 16) (v := ?_) rfl (by kernel_rfl) (by kernel_rfl) (by kernel_rfl) (fun _ _ _ h => h) (Or.inl ⟨by rfl, ?_⟩) (by assumption) ?_
                    rotate_left 1
                    · (intro w hSw; (try dsimp only at hSw); go_simp; try with_reducible rfl)
                    simp only [Act.put, pA, pB, pC, pD, pE, pF]
                    refine wpAnyH_take (i := 17) (v := ?_) rfl (by kernel_rfl) (by kernel_rfl) (by kernel_rfl) (fun _ _ _ h => h) (Or.inl ⟨by rfl, ?_⟩) (by assumption) ?_
                    rotate_left 1
                    · (intro w hSw; (try dsimp only at hSw); go_simp; try with_reducible rfl)
                    simp only [Act.put, pA, pB, pC, pD, pE, pF]
                    refine wpAnyH_ready (rs := [18]) (by kernel_rfl) (by simp) ?_
                    refine AllReadyH.cons rfl (fun K hK => ?_) AllReadyH.nil
                    go_simp
                    refine (l1In_any _ _ _ _).mono ?_
                    rw [g3]
                    rintro e w' ⟨rfl, rfl⟩

                    go_wp2_with fail
                    refine hK.out _ _ (by (try dsimp only); go_keep) (fun hHeld => ?_)
                    clear hK K
                    refine wpAnyH_take (i := 19) (v := ?_) rfl (by kernel_rfl) (by kernel_rfl) (by kernel_rfl) (fun _ _ _ h => h) (Or.inl ⟨by rfl, ?_⟩) (by assumption) ?_
                    rotate_left 1
                    · (intro w hSw; (try dsimp only at hSw); go_simp; try with_reducible rfl)
                    simp only [Act.put, pA, pB, pC, pD, pE, pF]
                    refine wpAnyH_take (i := 20) (v := ?_) rfl (by kernel_rfl) (by kernel_rfl) (by kernel_rfl) (fun _ _ _ h => h) (Or.inl ⟨by rfl, ?_⟩) (by assumption) ?_
                    rotate_left 1
                    · (intro w hSw; (try dsimp only at hSw); go_simp; try with_reducible rfl)
                    simp only [Act.put, pA, pB, pC, pD, pE, pF]
                    refine wpAnyH_take (i := 21) (v := ?_) rfl (by kernel_rfl) (by kernel_rfl) (by kernel_rfl) (fun _ _ _ h => h) (Or.inl ⟨by rfl, ?_⟩) (by assumption) ?_
                    rotate_left 1
                    · (intro w hSw; (try dsimp only at hSw); go_simp; try with_reducible rfl)
                    simp only [Act.put, pA, pB, pC, pD, pE, pF]
                    refine wpAnyH_take (i := 22) (v := undef) rfl (by kernel_rfl) (by kernel_rfl) (by kernel_rfl) (fun _ _ _ h => h) (Or.inr ⟨by rfl, rfl⟩) (by assumption) ?_
                    simp only [Act.put, pA, pB, pC, pD, pE, pF]
                    refine wpAnyH_take (i := 23) (v := undef) rfl (by kernel_rfl) (by kernel_rfl) (by kernel_rfl) (fun _ _ _ h => h) (Or.inr ⟨by rfl, rfl⟩) (by assumption) ?_
                    simp only [Act.put, pA, pB, pC, pD, pE, pF]
                    refine wpAnyH_take (i := 24) (v := undef) rfl (by kernel_rfl) (by kernel_rfl) (by kernel_rfl) (fun _ _ _ h => h) (Or.inr ⟨by rfl, rfl⟩) (by assumption) ?_
                    simp only [Act.put, pA, pB, pC, pD, pE, pF]
                    refine wpAnyH_take (i := 25) (v := undef) rfl (by kernel_rfl) (by kernel_rfl) (by kernel_rfl) (fun _ _ _ h => h) (Or.inr ⟨by rfl, rfl⟩) (by assumption) ?_
                    simp only [Act.put, pA, pB, pC, pD, pE, pF]
                    refine wpAnyH_take (i := 26) (v := ?_) rfl (by kernel_rfl) (by kernel_rfl) (by kernel_rfl) (fun _ _ _ h => h) (Or.inl ⟨by rfl, ?_⟩) (by assumption) ?_
                    rotate_left 1
                    · (intro w hSw; (try dsimp only at hSw); go_simp; try with_reducible rfl)
                    simp only [Act.put, pA, pB, pC, pD, pE, pF]
                    refine wpAnyH_done (by kernel_rfl) ?_ _
                    go_wp2_with fail
                    go_ret
                    exact ⟨ret_bool HR.out.symm, K4⟩
                  · cases g4 : inB r.time 0 36000
                    · have HR := Lib.hid (show deskB d = false by rw [HC.out, Bool.and_eq_false_iff]; right; exact allTo_false hlt (HO.out.trans (by simp [rowB, g1, g2, g3, g4])))
                      refine wp_region_held_drew (S := fun w' => w'.cell? ⟨w.heap.size, 1, none⟩ = some (.slice A1 n1 c1) ∧ w'.cell? ⟨w.heap.size, 3, none⟩ = some (.slice (some ⟨b, off, none⟩) n3 c3) ∧ w'.cell? ⟨ga, 0, none⟩ = some (.int .i64 r.number) ∧ w'.cell? ⟨ga, 1, none⟩ = some (.int .i64 r.missing) ∧ w'.cell? ⟨ga, 2, none⟩ = some (.int .i64 r.time)) (by kernel_rfl) (by (try dsimp only); go_keep) (fun hHeld => ?_)
                      refine wpAnyH_take (i := 0) (v := ?_) rfl (by kernel_rfl) (by kernel_rfl) (by kernel_rfl) (fun _ _ _ h => h) (Or.inl ⟨by rfl, ?_⟩) (by assumption) ?_
                      rotate_left 1
                      · (intro w hSw; (try dsimp only at hSw); go_simp; try with_reducible rfl)
                      simp only [Act.put, pA, pB, pC, pD, pE]
                      refine wpAnyH_take (i := 1) (v := ?_) rfl (by kernel_rfl) (by kernel_rfl) (by kernel_rfl) (fun _ _ _ h => h) (Or.inl ⟨by rfl, ?_⟩) (by assumption) ?_
                      rotate_left 1
                      · (intro w hSw; (try dsimp only at hSw); go_simp; try with_reducible rfl)
                      simp only [Act.put, pA, pB, pC, pD, pE, pF]
                      refine wpAnyH_take (i := 2) (v := ?_) rfl (by kernel_rfl) (by kernel_rfl) (by kernel_rfl) (fun _ _ _ h => h) (Or.inl ⟨by rfl, ?_⟩) (by assumption) ?_
                      rotate_left 1
                      · (intro w hSw; (try dsimp only at hSw); go_simp; try with_reducible rfl)
                      simp only [Act.put, pA, pB, pC, pD, pE, pF]
                      refine wpAnyH_take (i := 3) (v := ?_) rfl (by kernel_rfl) (by kernel_rfl) (by kernel_rfl) (fun _ _ _ h => h) (Or.inl ⟨by rfl, ?_⟩) (by assumption) ?_
                      rotate_left 1
                      · (intro w hSw; (try dsimp only at hSw); go_simp; try with_reducible rfl)
                      simp only [Act.put, pA, pB, pC, pD, pE, pF]
                      refine wpAnyH_ready (rs := [4]) (by kernel_rfl) (by simp) ?_
                      refine AllReadyH.cons rfl (fun K hK => ?_) AllReadyH.nil
                      go_simp
                      refine (l1Has_any _ _ _ d.known r.number _ (s1.next K3) (by omega)).mono ?_
                      rw [g1]
                      rintro e w4 ⟨rfl, q4⟩
                      have b4 := q4.below w2.drew.heap.size
                      have K4 := bel_then K3 b4
                      have PB4 := PB3.next b4
                      have RB4 := RB3.next b4
                      have pc4 := PB4.cell
                      have rc4 := RB4.cell
                      clear pc3 rc3

                      go_wp2_with fail
                      refine hK.out _ _ (by (try dsimp only); go_keep) (fun hHeld => ?_)
                      clear hK K
                      refine wpAnyH_take (i := 5) (v := ?_) rfl (by kernel_rfl) (by kernel_rfl) (by kernel_rfl) (fun _ _ _ h => h) (Or.inl ⟨by rfl, ?_⟩) (by assumption) ?_
                      rotate_left 1
                      · (intro w hSw; (try dsimp only at hSw); go_simp; try with_reducible rfl)
                      simp only [Act.put, pA, pB, pC, pD, pE, pF]
                      refine wpAnyH_take (i := 6) (v := ?_) rfl (by kernel_rfl) (by kernel_rfl) (by kernel_rfl) (fun _ _ _ h => h) (Or.inl ⟨by rfl, ?_⟩) (by assumption) ?_
                      rotate_left 1
                      · (intro w hSw; (try dsimp only at hSw); go_simp; try with_reducible rfl)
                      simp only [Act.put, pA, pB, pC, pD, pE, pF]
                      refine wpAnyH_take (i := 7) (v := ?_) rfl (by kernel_rfl) (by kernel_rfl) (by kernel_rfl) (fun _ _ _ h => h) (Or.inl ⟨by rfl, ?_⟩) (by assumption) ?_
                      rotate_left 1
                      · (intro w hSw; (try dsimp only at hSw); go_simp; try with_reducible rfl)
                      simp only [Act.put, pA, pB, pC, pD, pE, pF]
                      refine wpAnyH_take (i := 8) (v := ?_) rfl (by kernel_rfl) (by kernel_rfl) (by kernel_rfl) (fun _ _ _ h => h) (Or.inl ⟨by rfl, ?_⟩) (by assumption) ?_
                      rotate_left 1
                      · (intro w hSw; (try dsimp only at hSw); go_simp; try with_reducible rfl)
                      simp only [Act.put, pA, pB, pC, pD, pE, pF]
                      refine wpAnyH_take (i := 9) (v := ?_) rfl (by kernel_rfl) (by kernel_rfl) (by kernel_rfl) (fun _ _ _ h => h) (Or.inl ⟨by rfl, ?_⟩) (by assumption) ?_
                      rotate_left 1
                      · (intro w hSw; (try dsimp only at hSw); go_simp; try with_reducible rfl)
                      simp only [Act.put, pA, pB, pC, pD, pE, pF]
                      refine wpAnyH_take (i := 10) (v := ?_) rfl (by kernel_rfl) (by kernel_rfl) (by kernel_rfl) (fun _ _ _ h => h) (Or.inl ⟨by rfl, ?_⟩) (by assumption) ?_
                      rotate_left 1
                      · (intro w hSw; (try dsimp only at hSw); go_simp; try with_reducible rfl)
                      simp only [Act.put, pA, pB, pC, pD, pE, pF]
                      refine wpAnyH_take (i := 11) (v := ?_) rfl (by kernel_rfl) (by kernel_rfl) (by kernel_rfl) (fun _ _ _ h => h) (Or.inl ⟨by rfl, ?_⟩) (by assumption) ?_
                      rotate_left 1
                      · (intro w hSw; (try dsimp only at hSw); go_simp; try with_reducible rfl)
                      simp only [Act.put, pA, pB, pC, pD, pE, pF]
                      refine wpAnyH_take (i := 12) (v := ?_) rfl (by kernel_rfl) (by kernel_rfl) (by kernel_rfl) (fun _ _ _ h => h) (Or.inl ⟨by rfl, ?_⟩) (by assumption) ?_
                      rotate_left 1
                      · (intro w hSw; (try dsimp only at hSw); go_simp; try with_reducible rfl)
                      simp only [Act.put, pA, pB, pC, pD, pE, pF]
                      refine wpAnyH_ready (rs := [13]) (by kernel_rfl) (by simp) ?_
                      refine AllReadyH.cons rfl (fun K hK => ?_) AllReadyH.nil
                      go_simp
                      refine (l25Done_any _ _ c3 (d.done.take k) r.number _ (s3.next K4) (by omega)).mono ?_
                      rw [g2]
                      rintro e w' ⟨rfl, rfl⟩

                      go_wp2_with fail
                      refine hK.out _ _ (by (try dsimp only); go_keep) (fun hHeld => ?_)
                      clear hK K
                      refine wpAnyH_take (i := 14) (v := ?_) rfl (by kernel_rfl) (by kernel_rfl) (by kernel_rfl) (fun _ _ _ h => h) (Or.inl ⟨by rfl, ?_⟩) (by assumption) ?_
                      rotate_left 1
                      · (intro w hSw; (try dsimp only at hSw); go_simp; try with_reducible rfl)
                      simp only [Act.put, pA, pB, pC, pD, pE, pF]
                      refine wpAnyH_take (i := 15) (v := ?_) rfl (by kernel_rfl) (by kernel_rfl) (by kernel_rfl) (fun _ _ _ h => h) (Or.inl ⟨by rfl, ?_⟩) (by assumption) ?_
                      rotate_left 1
                      · (intro w hSw; (try dsimp only at hSw); go_simp; try with_reducible rfl)
                      simp only [Act.put, pA, pB, pC, pD, pE, pF]
                      refine wpAnyH_take (i := 16) (v := ?_) rfl (by kernel_rfl) (by kernel_rfl) (by kernel_rfl) (fun _ _ _ h => h) (Or.inl ⟨by rfl, ?_⟩) (by assumption) ?_
                      rotate_left 1
                      · (intro w hSw; (try dsimp only at hSw); go_simp; try with_reducible rfl)
                      simp only [Act.put, pA, pB, pC, pD, pE, pF]
                      refine wpAnyH_take (i := 17) (v := ?_) rfl (by kernel_rfl) (by kernel_rfl) (by kernel_rfl) (fun _ _ _ h => h) (Or.inl ⟨by rfl, ?_⟩) (by assumption) ?_
                      rotate_left 1
                      · (intro w hSw; (try dsimp only at hSw); go_simp; try with_reducible rfl)
                      simp only [Act.put, pA, pB, pC, pD, pE, pF]
                      refine wpAnyH_ready (rs := [18]) (by kernel_rfl) (by simp) ?_
                      refine AllReadyH.cons rfl (fun K hK => ?_) AllReadyH.nil
                      go_simp
                      refine (l1In_any _ _ _ _).mono ?_
                      rw [g3]
                      rintro e w' ⟨rfl, rfl⟩

                      go_wp2_with fail
                      refine hK.out _ _ (by (try dsimp only); go_keep) (fun hHeld => ?_)
                      clear hK K
                      refine wpAnyH_take (i := 19) (v := ?_) rfl (by kernel_rfl) (by kernel_rfl) (by kernel_rfl) (fun _ _ _ h => h) (Or.inl ⟨by rfl, ?_⟩) (by assumption) ?_
                      rotate_left 1
                      · (intro w hSw; (try dsimp only at hSw); go_simp; try with_reducible rfl)
                      simp only [Act.put, pA, pB, pC, pD, pE, pF]
                      refine wpAnyH_take (i := 20) (v := ?_) rfl (by kernel_rfl) (by kernel_rfl) (by kernel_rfl) (fun _ _ _ h => h) (Or.inl ⟨by rfl, ?_⟩) (by assumption) ?_
                      rotate_left 1
                      · (intro w hSw; (try dsimp only at hSw); go_simp; try with_reducible rfl)
                      simp only [Act.put, pA, pB, pC, pD, pE, pF]
                      refine wpAnyH_take (i := 21) (v := ?_) rfl (by kernel_rfl) (by kernel_rfl) (by kernel_rfl) (fun _ _ _ h => h) (Or.inl ⟨by rfl, ?_⟩) (by assumption) ?_
                      rotate_left 1
                      · (intro w hSw; (try dsimp only at hSw); go_simp; try with_reducible rfl)
                      simp only [Act.put, pA, pB, pC, pD, pE, pF]
                      refine wpAnyH_take (i := 22) (v := ?_) rfl (by kernel_rfl) (by kernel_rfl) (by kernel_rfl) (fun _ _ _ h => h) (Or.inl ⟨by rfl, ?_⟩) (by assumption) ?_
                      rotate_left 1
                      · (intro w hSw; (try dsimp only at hSw); go_simp; try with_reducible rfl)
                      simp only [Act.put, pA, pB, pC, pD, pE, pF]
                      refine wpAnyH_take (i := 23) (v := ?_) rfl (by kernel_rfl) (by kernel_rfl) (by kernel_rfl) (fun _ _ _ h => h) (Or.inl ⟨by rfl, ?_⟩) (by assumption) ?_
                      rotate_left 1
                      · (intro w hSw; (try dsimp only at hSw); go_simp; try with_reducible rfl)
                      simp only [Act.put, pA, pB, pC, pD, pE, pF]
                      refine wpAnyH_ready (rs := [24]) (by kernel_rfl) (by simp) ?_
                      refine AllReadyH.cons rfl (fun K hK => ?_) AllReadyH.nil
                      go_simp
                      refine (l12Time_any _ _).mono ?_
                      rw [g4]
                      rintro e w' ⟨rfl, rfl⟩

                      go_wp2_with fail
                      refine hK.out _ _ (by (try dsimp only); go_keep) (fun hHeld => ?_)
                      clear hK K
                      refine wpAnyH_take (i := 25) (v := ?_) rfl (by kernel_rfl) (by kernel_rfl) (by kernel_rfl) (fun _ _ _ h => h) (Or.inl ⟨by rfl, ?_⟩) (by assumption) ?_
                      rotate_left 1
                      · (intro w hSw; (try dsimp only at hSw); go_simp; try with_reducible rfl)
                      simp only [Act.put, pA, pB, pC, pD, pE, pF]
                      refine wpAnyH_take (i := 26) (v := ?_) rfl (by kernel_rfl) (by kernel_rfl) (by kernel_rfl) (fun _ _ _ h => h) (Or.inl ⟨by rfl, ?_⟩) (by assumption) ?_
                      rotate_left 1
                      · (intro w hSw; (try dsimp only at hSw); go_simp; try with_reducible rfl)
                      simp only [Act.put, pA, pB, pC, pD, pE, pF]
                      refine wpAnyH_done (by kernel_rfl) ?_ _
                      go_wp2_with fail
                      go_ret
                      exact ⟨ret_bool HR.out.symm, K4⟩
                    · have HA2 := Lib.hid (allTo_succ HA.out (HO.out.trans (by simp [rowB, g1, g2, g3, g4])))
                      refine wp_region_held_drew (S := fun w' => w'.cell? ⟨w.heap.size, 1, none⟩ = some (.slice A1 n1 c1) ∧ w'.cell? ⟨w.heap.size, 3, none⟩ = some (.slice (some ⟨b, off, none⟩) n3 c3) ∧ w'.cell? ⟨ga, 0, none⟩ = some (.int .i64 r.number) ∧ w'.cell? ⟨ga, 1, none⟩ = some (.int .i64 r.missing) ∧ w'.cell? ⟨ga, 2, none⟩ = some (.int .i64 r.time)) (by kernel_rfl) (by (try dsimp only); go_keep) (fun hHeld => ?_)
                      refine wpAnyH_take (i := 0) (v := ?_) rfl (by kernel_rfl) (by kernel_rfl) (by kernel_rfl) (fun _ _ _ h => h) (Or.inl ⟨by rfl, ?_⟩) (by assumption) ?_
                      rotate_left 1
                      · (intro w hSw; (try dsimp only at hSw); go_simp; try with_reducible rfl)
                      simp only [Act.put, pA, pB, pC, pD, pE]
                      refine wpAnyH_take (i := 1) (v := ?_) rfl (by kernel_rfl) (by kernel_rfl) (by kernel_rfl) (fun _ _ _ h => h) (Or.inl ⟨by rfl, ?_⟩) (by assumption) ?_
                      rotate_left 1
                      · (intro w hSw; (try dsimp only at hSw); go_simp; try with_reducible rfl)
                      simp only [Act.put, pA, pB, pC, pD, pE, pF]
                      refine wpAnyH_take (i := 2) (v := ?_) rfl (by kernel_rfl) (by kernel_rfl) (by kernel_rfl) (fun _ _ _ h => h) (Or.inl ⟨by rfl, ?_⟩) (by assumption) ?_
                      rotate_left 1
                      · (intro w hSw; (try dsimp only at hSw); go_simp; try with_reducible rfl)
                      simp only [Act.put, pA, pB, pC, pD, pE, pF]
                      refine wpAnyH_take (i := 3) (v := ?_) rfl (by kernel_rfl) (by kernel_rfl) (by kernel_rfl) (fun _ _ _ h => h) (Or.inl ⟨by rfl, ?_⟩) (by assumption) ?_
                      rotate_left 1
                      · (intro w hSw; (try dsimp only at hSw); go_simp; try with_reducible rfl)
                      simp only [Act.put, pA, pB, pC, pD, pE, pF]
                      refine wpAnyH_ready (rs := [4]) (by kernel_rfl) (by simp) ?_
                      refine AllReadyH.cons rfl (fun K hK => ?_) AllReadyH.nil
                      go_simp
                      refine (l1Has_any _ _ _ d.known r.number _ (s1.next K3) (by omega)).mono ?_
                      rw [g1]
                      rintro e w4 ⟨rfl, q4⟩
                      have b4 := q4.below w2.drew.heap.size
                      have K4 := bel_then K3 b4
                      have PB4 := PB3.next b4
                      have RB4 := RB3.next b4
                      have pc4 := PB4.cell
                      have rc4 := RB4.cell
                      clear pc3 rc3

                      go_wp2_with fail
                      refine hK.out _ _ (by (try dsimp only); go_keep) (fun hHeld => ?_)
                      clear hK K
                      refine wpAnyH_take (i := 5) (v := ?_) rfl (by kernel_rfl) (by kernel_rfl) (by kernel_rfl) (fun _ _ _ h => h) (Or.inl ⟨by rfl, ?_⟩) (by assumption) ?_
                      rotate_left 1
                      · (intro w hSw; (try dsimp only at hSw); go_simp; try with_reducible rfl)
                      simp only [Act.put, pA, pB, pC, pD, pE, pF]
                      refine wpAnyH_take (i := 6) (v := ?_) rfl (by kernel_rfl) (by kernel_rfl) (by kernel_rfl) (fun _ _ _ h => h) (Or.inl ⟨by rfl, ?_⟩) (by assumption) ?_
                      rotate_left 1
                      · (intro w hSw; (try dsimp only at hSw); go_simp; try with_reducible rfl)
                      simp only [Act.put, pA, pB, pC, pD, pE, pF]
                      refine wpAnyH_take (i := 7) (v := ?_) rfl (by kernel_rfl) (by kernel_rfl) (by kernel_rfl) (fun _ _ _ h => h) (Or.inl ⟨by rfl, ?_⟩) (by assumption) ?_
                      rotate_left 1
                      · (intro w hSw; (try dsimp only at hSw); go_simp; try with_reducible rfl)
                      simp only [Act.put, pA, pB, pC, pD, pE, pF]
                      refine wpAnyH_take (i := 8) (v := ?_) rfl (by kernel_rfl) (by kernel_rfl) (by kernel_rfl) (fun _ _ _ h => h) (Or.inl ⟨by rfl, ?_⟩) (by assumption) ?_
                      rotate_left 1
                      · (intro w hSw; (try dsimp only at hSw); go_simp; try with_reducible rfl)
                      simp only [Act.put, pA, pB, pC, pD, pE, pF]
                      refine wpAnyH_take (i := 9) (v := ?_) rfl (by kernel_rfl) (by kernel_rfl) (by kernel_rfl) (fun _ _ _ h => h) (Or.inl ⟨by rfl, ?_⟩) (by assumption) ?_
                      rotate_left 1
                      · (intro w hSw; (try dsimp only at hSw); go_simp; try with_reducible rfl)
                      simp only [Act.put, pA, pB, pC, pD, pE, pF]
                      refine wpAnyH_take (i := 10) (v := ?_) rfl (by kernel_rfl) (by kernel_rfl) (by kernel_rfl) (fun _ _ _ h => h) (Or.inl ⟨by rfl, ?_⟩) (by assumption) ?_
                      rotate_left 1
                      · (intro w hSw; (try dsimp only at hSw); go_simp; try with_reducible rfl)
                      simp only [Act.put, pA, pB, pC, pD, pE, pF]
                      refine wpAnyH_take (i := 11) (v := ?_) rfl (by kernel_rfl) (by kernel_rfl) (by kernel_rfl) (fun _ _ _ h => h) (Or.inl ⟨by rfl, ?_⟩) (by assumption) ?_
                      rotate_left 1
                      · (intro w hSw; (try dsimp only at hSw); go_simp; try with_reducible rfl)
                      simp only [Act.put, pA, pB, pC, pD, pE, pF]
                      refine wpAnyH_take (i := 12) (v := ?_) rfl (by kernel_rfl) (by kernel_rfl) (by kernel_rfl) (fun _ _ _ h => h) (Or.inl ⟨by rfl, ?_⟩) (by assumption) ?_
                      rotate_left 1
                      · (intro w hSw; (try dsimp only at hSw); go_simp; try with_reducible rfl)
                      simp only [Act.put, pA, pB, pC, pD, pE, pF]
                      refine wpAnyH_ready (rs := [13]) (by kernel_rfl) (by simp) ?_
                      refine AllReadyH.cons rfl (fun K hK => ?_) AllReadyH.nil
                      go_simp
                      refine (l25Done_any _ _ c3 (d.done.take k) r.number _ (s3.next K4) (by omega)).mono ?_
                      rw [g2]
                      rintro e w' ⟨rfl, rfl⟩

                      go_wp2_with fail
                      refine hK.out _ _ (by (try dsimp only); go_keep) (fun hHeld => ?_)
                      clear hK K
                      refine wpAnyH_take (i := 14) (v := ?_) rfl (by kernel_rfl) (by kernel_rfl) (by kernel_rfl) (fun _ _ _ h => h) (Or.inl ⟨by rfl, ?_⟩) (by assumption) ?_
                      rotate_left 1
                      · (intro w hSw; (try dsimp only at hSw); go_simp; try with_reducible rfl)
                      simp only [Act.put, pA, pB, pC, pD, pE, pF]
                      refine wpAnyH_take (i := 15) (v := ?_) rfl (by kernel_rfl) (by kernel_rfl) (by kernel_rfl) (fun _ _ _ h => h) (Or.inl ⟨by rfl, ?_⟩) (by assumption) ?_
                      rotate_left 1
                      · (intro w hSw; (try dsimp only at hSw); go_simp; try with_reducible rfl)
                      simp only [Act.put, pA, pB, pC, pD, pE, pF]
                      refine wpAnyH_take (i := 16) (v := ?_) rfl (by kernel_rfl) (by kernel_rfl) (by kernel_rfl) (fun _ _ _ h => h) (Or.inl ⟨by rfl, ?_⟩) (by assumption) ?_
                      rotate_left 1
                      · (intro w hSw; (try dsimp only at hSw); go_simp; try with_reducible rfl)
                      simp only [Act.put, pA, pB, pC, pD, pE, pF]
                      refine wpAnyH_take (i := 17) (v := ?_) rfl (by kernel_rfl) (by kernel_rfl) (by kernel_rfl) (fun _ _ _ h => h) (Or.inl ⟨by rfl, ?_⟩) (by assumption) ?_
                      rotate_left 1
                      · (intro w hSw; (try dsimp only at hSw); go_simp; try with_reducible rfl)
                      simp only [Act.put, pA, pB, pC, pD, pE, pF]
                      refine wpAnyH_ready (rs := [18]) (by kernel_rfl) (by simp) ?_
                      refine AllReadyH.cons rfl (fun K hK => ?_) AllReadyH.nil
                      go_simp
                      refine (l1In_any _ _ _ _).mono ?_
                      rw [g3]
                      rintro e w' ⟨rfl, rfl⟩

                      go_wp2_with fail
                      refine hK.out _ _ (by (try dsimp only); go_keep) (fun hHeld => ?_)
                      clear hK K
                      refine wpAnyH_take (i := 19) (v := ?_) rfl (by kernel_rfl) (by kernel_rfl) (by kernel_rfl) (fun _ _ _ h => h) (Or.inl ⟨by rfl, ?_⟩) (by assumption) ?_
                      rotate_left 1
                      · (intro w hSw; (try dsimp only at hSw); go_simp; try with_reducible rfl)
                      simp only [Act.put, pA, pB, pC, pD, pE, pF]
                      refine wpAnyH_take (i := 20) (v := ?_) rfl (by kernel_rfl) (by kernel_rfl) (by kernel_rfl) (fun _ _ _ h => h) (Or.inl ⟨by rfl, ?_⟩) (by assumption) ?_
                      rotate_left 1
                      · (intro w hSw; (try dsimp only at hSw); go_simp; try with_reducible rfl)
                      simp only [Act.put, pA, pB, pC, pD, pE, pF]
                      refine wpAnyH_take (i := 21) (v := ?_) rfl (by kernel_rfl) (by kernel_rfl) (by kernel_rfl) (fun _ _ _ h => h) (Or.inl ⟨by rfl, ?_⟩) (by assumption) ?_
                      rotate_left 1
                      · (intro w hSw; (try dsimp only at hSw); go_simp; try with_reducible rfl)
                      simp only [Act.put, pA, pB, pC, pD, pE, pF]
                      refine wpAnyH_take (i := 22) (v := ?_) rfl (by kernel_rfl) (by kernel_rfl) (by kernel_rfl) (fun _ _ _ h => h) (Or.inl ⟨by rfl, ?_⟩) (by assumption) ?_
                      rotate_left 1
                      · (intro w hSw; (try dsimp only at hSw); go_simp; try with_reducible rfl)
                      simp only [Act.put, pA, pB, pC, pD, pE, pF]
                      refine wpAnyH_take (i := 23) (v := ?_) rfl (by kernel_rfl) (by kernel_rfl) (by kernel_rfl) (fun _ _ _ h => h) (Or.inl ⟨by rfl, ?_⟩) (by assumption) ?_
                      rotate_left 1
                      · (intro w hSw; (try dsimp only at hSw); go_simp; try with_reducible rfl)
                      simp only [Act.put, pA, pB, pC, pD, pE, pF]
                      refine wpAnyH_ready (rs := [24]) (by kernel_rfl) (by simp) ?_
                      refine AllReadyH.cons rfl (fun K hK => ?_) AllReadyH.nil
                      go_simp
                      refine (l12Time_any _ _).mono ?_
                      rw [g4]
                      rintro e w' ⟨rfl, rfl⟩

                      go_wp2_with fail
                      refine hK.out _ _ (by (try dsimp only); go_keep) (fun hHeld => ?_)
                      clear hK K
                      refine wpAnyH_take (i := 25) (v := ?_) rfl (by kernel_rfl) (by kernel_rfl) (by kernel_rfl) (fun _ _ _ h => h) (Or.inl ⟨by rfl, ?_⟩) (by assumption) ?_
                      rotate_left 1
                      · (intro w hSw; (try dsimp only at hSw); go_simp; try with_reducible rfl)
                      simp only [Act.put, pA, pB, pC, pD, pE, pF]
                      refine wpAnyH_take (i := 26) (v := ?_) rfl (by kernel_rfl) (by kernel_rfl) (by kernel_rfl) (fun _ _ _ h => h) (Or.inl ⟨by rfl, ?_⟩) (by assumption) ?_
                      rotate_left 1
                      · (intro w hSw; (try dsimp only at hSw); go_simp; try with_reducible rfl)
                      simp only [Act.put, pA, pB, pC, pD, pE, pF]
                      refine wpAnyH_done (by kernel_rfl) ?_ _
                      go_wp2_with fail
                      go_roundw
                      case rel => exact ⟨k + 1, by omega, by go_num, HA2, PB4, K4⟩
                      case measure => simp [intOf]; omega
                · have HR := Lib.hid (show deskB d = false by rw [HC.out, Bool.and_eq_false_iff]; right; exact allTo_false hlt (HO.out.trans (by simp [rowB, g1, g2])))
                  refine wp_region_held_drew (S := fun w' => w'.cell? ⟨w.heap.size, 1, none⟩ = some (.slice A1 n1 c1) ∧ w'.cell? ⟨w.heap.size, 3, none⟩ = some (.slice (some ⟨b, off, none⟩) n3 c3) ∧ w'.cell? ⟨ga, 0, none⟩ = some (.int .i64 r.number) ∧ w'.cell? ⟨ga, 1, none⟩ = some (.int .i64 r.missing) ∧ w'.cell? ⟨ga, 2, none⟩ = some (.int .i64 r.time)) (by kernel_rfl) (by (try dsimp only); go_keep) (fun hHeld => ?_)
                  refine wpAnyH_take (i := 0) (v := ?_) rfl (by kernel_rfl) (by kernel_rfl) (by kernel_rfl) (fun _ _ _ h => h) (Or.inl ⟨by rfl, ?_⟩) (by assumption) ?_
                  rotate_left 1
                  · (intro w hSw; (try dsimp only at hSw); go_simp; try with_reducible rfl)
                  simp only [Act.put, pA, pB, pC, pD, pE]
                  refine wpAnyH_take (i := 1) (v := ?_) rfl (by kernel_rfl) (by kernel_rfl) (by kernel_rfl) (fun _ _ _ h => h) (Or.inl ⟨by rfl, ?_⟩) (by assumption) ?_
                  rotate_left 1
                  · (intro w hSw; (try dsimp only at hSw); go_simp; try with_reducible rfl)
                  simp only [Act.put, pA, pB, pC, pD, pE, pF]
                  refine wpAnyH_take (i := 2) (v := ?_) rfl (by kernel_rfl) (by kernel_rfl) (by kernel_rfl) (fun _ _ _ h => h) (Or.inl ⟨by rfl, ?_⟩) (by assumption) ?_
                  rotate_left 1
                  · (intro w hSw; (try dsimp only at hSw); go_simp; try with_reducible rfl)
                  simp only [Act.put, pA, pB, pC, pD, pE, pF]
                  refine wpAnyH_take (i := 3) (v := ?_) rfl (by kernel_rfl) (by kernel_rfl) (by kernel_rfl) (fun _ _ _ h => h) (Or.inl ⟨by rfl, ?_⟩) (by assumption) ?_
                  rotate_left 1
                  · (intro w hSw; (try dsimp only at hSw); go_simp; try with_reducible rfl)
                  simp only [Act.put, pA, pB, pC, pD, pE, pF]
                  refine wpAnyH_ready (rs := [4]) (by kernel_rfl) (by simp) ?_
                  refine AllReadyH.cons rfl (fun K hK => ?_) AllReadyH.nil
                  go_simp
                  refine (l1Has_any _ _ _ d.known r.number _ (s1.next K3) (by omega)).mono ?_
                  rw [g1]
                  rintro e w4 ⟨rfl, q4⟩
                  have b4 := q4.below w2.drew.heap.size
                  have K4 := bel_then K3 b4
                  have PB4 := PB3.next b4
                  have RB4 := RB3.next b4
                  have pc4 := PB4.cell
                  have rc4 := RB4.cell
                  clear pc3 rc3

                  go_wp2_with fail
                  refine hK.out _ _ (by (try dsimp only); go_keep) (fun hHeld => ?_)
                  clear hK K
                  refine wpAnyH_take (i := 5) (v := ?_) rfl (by kernel_rfl) (by kernel_rfl) (by kernel_rfl) (fun _ _ _ h => h) (Or.inl ⟨by rfl, ?_⟩) (by assumption) ?_
                  rotate_left 1
                  · (intro w hSw; (try dsimp only at hSw); go_simp; try with_reducible rfl)
                  simp only [Act.put, pA, pB, pC, pD, pE, pF]
                  refine wpAnyH_take (i := 6) (v := ?_) rfl (by kernel_rfl) (by kernel_rfl) (by kernel_rfl) (fun _ _ _ h => h) (Or.inl ⟨by rfl, ?_⟩) (by assumption) ?_
                  rotate_left 1
                  · (intro w hSw; (try dsimp only at hSw); go_simp; try with_reducible rfl)
                  simp only [Act.put, pA, pB, pC, pD, pE, pF]
                  refine wpAnyH_take (i := 7) (v := ?_) rfl (by kernel_rfl) (by kernel_rfl) (by kernel_rfl) (fun _ _ _ h => h) (Or.inl ⟨by rfl, ?_⟩) (by assumption) ?_
                  rotate_left 1
                  · (intro w hSw; (try dsimp only at hSw); go_simp; try with_reducible rfl)
                  simp only [Act.put, pA, pB, pC, pD, pE, pF]
                  refine wpAnyH_take (i := 8) (v := ?_) rfl (by kernel_rfl) (by kernel_rfl) (by kernel_rfl) (fun _ _ _ h => h) (Or.inl ⟨by rfl, ?_⟩) (by assumption) ?_
                  rotate_left 1
                  · (intro w hSw; (try dsimp only at hSw); go_simp; try with_reducible rfl)
                  simp only [Act.put, pA, pB, pC, pD, pE, pF]
                  refine wpAnyH_take (i := 9) (v := ?_) rfl (by kernel_rfl) (by kernel_rfl) (by kernel_rfl) (fun _ _ _ h => h) (Or.inl ⟨by rfl, ?_⟩) (by assumption) ?_
                  rotate_left 1
                  · (intro w hSw; (try dsimp only at hSw); go_simp; try with_reducible rfl)
                  simp only [Act.put, pA, pB, pC, pD, pE, pF]
                  refine wpAnyH_take (i := 10) (v := ?_) rfl (by kernel_rfl) (by kernel_rfl) (by kernel_rfl) (fun _ _ _ h => h) (Or.inl ⟨by rfl, ?_⟩) (by assumption) ?_
                  rotate_left 1
                  · (intro w hSw; (try dsimp only at hSw); go_simp; try with_reducible rfl)
                  simp only [Act.put, pA, pB, pC, pD, pE, pF]
                  refine wpAnyH_take (i := 11) (v := ?_) rfl (by kernel_rfl) (by kernel_rfl) (by kernel_rfl) (fun _ _ _ h => h) (Or.inl ⟨by rfl, ?_⟩) (by assumption) ?_
                  rotate_left 1
                  · (intro w hSw; (try dsimp only at hSw); go_simp; try with_reducible rfl)
                  simp only [Act.put, pA, pB, pC, pD, pE, pF]
                  refine wpAnyH_take (i := 12) (v := ?_) rfl (by kernel_rfl) (by kernel_rfl) (by kernel_rfl) (fun _ _ _ h => h) (Or.inl ⟨by rfl, ?_⟩) (by assumption) ?_
                  rotate_left 1
                  · (intro w hSw; (try dsimp only at hSw); go_simp; try with_reducible rfl)
                  simp only [Act.put, pA, pB, pC, pD, pE, pF]
                  refine wpAnyH_ready (rs := [13]) (by kernel_rfl) (by simp) ?_
                  refine AllReadyH.cons rfl (fun K hK => ?_) AllReadyH.nil
                  go_simp
                  refine (l25Done_any _ _ c3 (d.done.take k) r.number _ (s3.next K4) (by omega)).mono ?_
                  rw [g2]
                  rintro e w' ⟨rfl, rfl⟩

                  go_wp2_with fail
                  refine hK.out _ _ (by (try dsimp only); go_keep) (fun hHeld => ?_)
                  clear hK K
                  refine wpAnyH_take (i := 14) (v := ?_) rfl (by kernel_rfl) (by kernel_rfl) (by kernel_rfl) (fun _ _ _ h => h) (Or.inl ⟨by rfl, ?_⟩) (by assumption) ?_
                  rotate_left 1
                  · (intro w hSw; (try dsimp only at hSw); go_simp; try with_reducible rfl)
                  simp only [Act.put, pA, pB, pC, pD, pE, pF]
                  refine wpAnyH_take (i := 15) (v := ?_) rfl (by kernel_rfl) (by kernel_rfl) (by kernel_rfl) (fun _ _ _ h => h) (Or.inl ⟨by rfl, ?_⟩) (by assumption) ?_
                  rotate_left 1
                  · (intro w hSw; (try dsimp only at hSw); go_simp; try with_reducible rfl)
                  simp only [Act.put, pA, pB, pC, pD, pE, pF]
                  refine wpAnyH_take (i := 16) (v := undef) rfl (by kernel_rfl) (by kernel_rfl) (by kernel_rfl) (fun _ _ _ h => h) (Or.inr ⟨by rfl, rfl⟩) (by assumption) ?_
                  simp only [Act.put, pA, pB, pC, pD, pE, pF]
                  refine wpAnyH_take (i := 17) (v := undef) rfl (by kernel_rfl) (by kernel_rfl) (by kernel_rfl) (fun _ _ _ h => h) (Or.inr ⟨by rfl, rfl⟩) (by assumption) ?_
                  simp only [Act.put, pA, pB, pC, pD, pE, pF]
                  refine wpAnyH_take (i := 18) (v := undef) rfl (by kernel_rfl) (by kernel_rfl) (by kernel_rfl) (fun _ _ _ h => h) (Or.inr ⟨by rfl, rfl⟩) (by assumption) ?_
                  simp only [Act.put, pA, pB, pC, pD, pE, pF]
                  refine wpAnyH_take (i := 19) (v := undef) rfl (by kernel_rfl) (by kernel_rfl) (by kernel_rfl) (fun _ _ _ h => h) (Or.inr ⟨by rfl, rfl⟩) (by assumption) ?_
                  simp only [Act.put, pA, pB, pC, pD, pE, pF]
                  refine wpAnyH_take (i := 20) (v := ?_) rfl (by kernel_rfl) (by kernel_rfl) (by kernel_rfl) (fun _ _ _ h => h) (Or.inl ⟨by rfl, ?_⟩) (by assumption) ?_
                  rotate_left 1
                  · (intro w hSw; (try dsimp only at hSw); go_simp; try with_reducible rfl)
                  simp only [Act.put, pA, pB, pC, pD, pE, pF]
                  refine wpAnyH_take (i := 21) (v := ?_) rfl (by kernel_rfl) (by kernel_rfl) (by kernel_rfl) (fun _ _ _ h => h) (Or.inl ⟨by rfl, ?_⟩) (by assumption) ?_
                  rotate_left 1
                  · (intro w hSw; (try dsimp only at hSw); go_simp; try with_reducible rfl)
                  simp only [Act.put, pA, pB, pC, pD, pE, pF]
                  refine wpAnyH_take (i := 22) (v := undef) rfl (by kernel_rfl) (by kernel_rfl) (by kernel_rfl) (fun _ _ _ h => h) (Or.inr ⟨by rfl, rfl⟩) (by assumption) ?_
                  simp only [Act.put, pA, pB, pC, pD, pE, pF]
                  refine wpAnyH_take (i := 23) (v := undef) rfl (by kernel_rfl) (by kernel_rfl) (by kernel_rfl) (fun _ _ _ h => h) (Or.inr ⟨by rfl, rfl⟩) (by assumption) ?_
                  simp only [Act.put, pA, pB, pC, pD, pE, pF]
                  refine wpAnyH_take (i := 24) (v := undef) rfl (by kernel_rfl) (by kernel_rfl) (by kernel_rfl) (fun _ _ _ h => h) (Or.inr ⟨by rfl, rfl⟩) (by assumption) ?_
                  simp only [Act.put, pA, pB, pC, pD, pE, pF]
                  refine wpAnyH_take (i := 25) (v := undef) rfl (by kernel_rfl) (by kernel_rfl) (by kernel_rfl) (fun _ _ _ h => h) (Or.inr ⟨by rfl, rfl⟩) (by assumption) ?_
                  simp only [Act.put, pA, pB, pC, pD, pE, pF]
                  refine wpAnyH_take (i := 26) (v := ?_) rfl (by kernel_rfl) (by kernel_rfl) (by kernel_rfl) (fun _ _ _ h => h) (Or.inl ⟨by rfl, ?_⟩) (by assumption) ?_
                  rotate_left 1
                  · (intro w hSw; (try dsimp only at hSw); go_simp; try with_reducible rfl)
                  simp only [Act.put, pA, pB, pC, pD, pE, pF]
                  refine wpAnyH_done (by kernel_rfl) ?_ _
                  go_wp2_with fail
                  go_ret
                  exact ⟨ret_bool HR.out.symm, K4⟩
            · obtain rfl : k = n3 := by omega
              have HD := Lib.hid (show deskB d = (d.queue.all finB && d.trouble.all finB) by rw [HC.out, HA.out, Bool.and_true])
              clear HA
              go_wp2_with fail
              refine (l25Cards_any _ _ _ d.queue _ (s2.next hb) ft2 fx2).mono ?_
              cases gq : d.queue.all finB
              · rintro e wn ⟨rfl, bn⟩
                have HF := Lib.hid (show deskB d = false by rw [HD.out, gq]; rfl)
                go_wp2_with fail
                go_ret
                exact ⟨ret_bool HF.out.symm, bel_then hb bn⟩
              · rintro e wn ⟨rfl, bn⟩
                have HF := Lib.hid (show deskB d = d.trouble.all finB by rw [HD.out, gq]; rfl)
                replace hb := bel_then hb bn
                have pc' := (PB.next bn).cell
                clear pc
                go_wp2_with fail
                refine (l25Cards_any _ _ _ d.trouble _ (s4.next hb) ft4 fx4).mono ?_
                rintro e wm ⟨rfl, bm⟩
                go_wp2_with fail
                go_ret
                exact ⟨ret_bool HF.out.symm, bel_then hb bm⟩
        · have HF := Lib.hid (show deskB d = false from topB_not (by simp [topB, l1, l2, l3, l4, gtot]))
          go_wp2_with fail
          go_ret
          exact ⟨ret_bool HF.out.symm, KB⟩
      · have HF := Lib.hid (show deskB d = false from topB_not (by simp [topB, l1, l2, l3, l4, glen]))
        go_wp2_with fail
        go_ret
        exact ⟨ret_bool HF.out.symm, KB⟩

theorem specIsDesk_any (h : DeskH) (d : DeskV) (w : World) (hs : SeesDesk w 0 h d) (hn : DeskFit 1048576 h d) (hcap : h.n3 ≤ h.c3) :
    Calls Tryz.prog 11 #[.agg #[.slice h.A0 h.n0 h.c0, .slice h.A1 h.n1 h.c1, .slice h.A2 h.n2 h.c2, .slice h.A3 h.n3 h.c3, .slice h.A4 h.n4 h.c4]] w fun e w' => e = .returned (.bool (deskB d)) ∧ Below w.heap.size w w' := by
  have K0 : Below w.heap.size w (w.alloc (.cells #[.slice h.A0 h.n0 h.c0, .slice h.A1 h.n1 h.c1, .slice h.A2 h.n2 h.c2, .slice h.A3 h.n3 h.c3, .slice h.A4 h.n4 h.c4] 28)) := (Below.refl _ _).alloc (Nat.le_refl _) _
  go_enter Tryz.func11, Tryz.ntmps11
  go_wp2_with fail
  refine (l25Good_any h d _ (hs.next K0) hn hcap).mono ?_
  rintro e w1 ⟨rfl, b1⟩
  go_wp2_with fail
  go_ret
  exact ⟨rfl, bel_then K0 b1⟩

end Go.Proofs.YtkimlajfhepfgaaGreat

namespace Go.Proofs.YtkimlajfhepfgaaGreat
open Go.RowKit

theorem deskB_top {d : DeskV} (h : deskB d = true) : d.known.length ≤ 8 ∧ d.queue.length + d.done.length + d.trouble.length ≤ 10 := by
  unfold deskB topB at h
  simp only [Bool.and_eq_true, decide_eq_true_eq] at h
  exact ⟨h.1.1.1.1.1.2, h.1.2⟩
end Go.Proofs.YtkimlajfhepfgaaGreat

namespace Go.Proofs.YtkimlajfhepfgaaGreat
open Go.RowKit

theorem row_all (xs : List DeskRow) : (xs.flatMap DeskRow.enc).all Value.oneCell' = true := by
  rw [List.all_eq_true]
  intro v hv
  obtain ⟨x, _, h⟩ := List.mem_flatMap.1 hv
  simp only [DeskRow.enc, List.mem_cons, List.not_mem_nil, or_false] at h
  rcases h with rfl | rfl | rfl <;> rfl
theorem SeesFlat.drop {α : Type} {enc : α → List Value} {w : World} {lo s n b : Nat} {xs : List α} (h : Sees w lo s (some ⟨b, 0, none⟩) n (xs.flatMap enc)) (hs : 0 < s) (henc : ∀ x, (enc x).length = s) (k : Nat) (hk : k ≤ n) : Sees w lo s (some ⟨b, k * s, none⟩) (n - k) ((xs.drop k).flatMap enc) := by
  have hl := h.count hs henc
  refine ⟨by rw [flatMap_len _ (fun x _ => henc x), List.length_drop, hl], fun h0 => ?_⟩
  obtain ⟨b', off', e, h1, h2, h3⟩ := h.at' (by omega)
  obtain ⟨rfl, rfl⟩ : b = b' ∧ 0 = off' := by simpa using e
  refine ⟨b, k * s, rfl, h1, h2, fun j u hu => ?_⟩
  have hj : j < (n - k) * s := by
    have := (List.getElem?_eq_some_iff.1 hu).1
    rwa [flatMap_len _ (fun x _ => henc x), List.length_drop, hl] at this
  have h4 := h3 (k * s + j) u (by
    have e1 : xs.flatMap enc = (xs.take k).flatMap enc ++ (xs.drop k).flatMap enc := by rw [← List.flatMap_append, List.take_append_drop]
    rw [e1, List.getElem?_append_right (by rw [flatMap_len _ (fun x _ => henc x), List.length_take]; have : min k xs.length = k := by omega
                                           rw [this]; omega), flatMap_len _ (fun x _ => henc x), List.length_take, show min k xs.length = k by omega, Nat.add_sub_cancel_left, hu])
  rwa [Nat.zero_add] at h4
end Go.Proofs.YtkimlajfhepfgaaGreat

namespace Go.Proofs.YtkimlajfhepfgaaGreat
open Go.RowKit

/-- A desk in memory of the call's own. -/
def GivesDesk (w : World) (d : DeskV) (e : Ending) (w' : World) : Prop :=
  ∃ H : DeskH, e = .returned (.agg #[.slice H.A0 H.n0 H.c0, .slice H.A1 H.n1 H.c1, .slice H.A2 H.n2 H.c2, .slice H.A3 H.n3 H.c3, .slice H.A4 H.n4 H.c4]) ∧ MineDesk w' (In w.heap.size w'.heap.size) H d ∧ DeskFit 1048576 H d ∧ H.n3 ≤ H.c3 ∧ Below w.heap.size w w'
theorem own_cap {w : World} {base t s n c : Nat} {A : Option Addr} {cs : List Value} (h : w.ownsRow base t s (.slice A n c) n cs) : n ≤ c := by
  rcases own_open h with ⟨_, rfl, rfl, _⟩ | ⟨_, _, _, _, _, _, h1, _, _⟩
  · exact Nat.le_refl _
  · exact h1
theorem MineDesk.of5 {w : World} {S T0 T1 T2 T3 T4 : Nat → Prop} {h : DeskH} {d : DeskV} (m0 : Mine w T0 3 1 h.A0 h.n0 h.c0 (ints d.codes)) (m1 : Mine w T1 3 1 h.A1 h.n1 h.c1 (ints d.known))
    (m2 : MineO cardSh w T2 31 109 h.A2 h.n2 d.queue) (m3 : Mine w T3 41 3 h.A3 h.n3 h.c3 (d.done.flatMap DeskRow.enc)) (m4 : MineO cardSh w T4 31 109 h.A4 h.n4 d.trouble)
    (s0 : ∀ b, T0 b → S b) (s1 : ∀ b, T1 b → S b) (s2 : ∀ b, T2 b → S b) (s3 : ∀ b, T3 b → S b) (s4 : ∀ b, T4 b → S b)
    (d01 : ∀ b, T0 b → T1 b → False) (d02 : ∀ b, T0 b → T2 b → False) (d03 : ∀ b, T0 b → T3 b → False) (d04 : ∀ b, T0 b → T4 b → False) (d12 : ∀ b, T1 b → T2 b → False) (d13 : ∀ b, T1 b → T3 b → False) (d14 : ∀ b, T1 b → T4 b → False) (d23 : ∀ b, T2 b → T3 b → False) (d24 : ∀ b, T2 b → T4 b → False) (d34 : ∀ b, T3 b → T4 b → False) : MineDesk w S h d := by
  classical
  refine ⟨fun b => if T0 b then 0 else if T1 b then 1 else if T2 b then 2 else if T3 b then 3 else 4, ⟨m0.wide fun b hb => ⟨s0 b hb, ?_⟩, m1.wide fun b hb => ⟨s1 b hb, ?_⟩, m2.wide fun b hb => ⟨s2 b hb, ?_⟩, m3.wide fun b hb => ⟨s3 b hb, ?_⟩, m4.wide fun b hb => ⟨s4 b hb, ?_⟩⟩⟩
  · simp only [if_pos hb]
  · simp only [if_neg (fun h => d01 b h hb), if_pos hb]
  · simp only [if_neg (fun h => d02 b h hb), if_neg (fun h => d12 b h hb), if_pos hb]
  · simp only [if_neg (fun h => d03 b h hb), if_neg (fun h => d13 b h hb), if_neg (fun h => d23 b h hb), if_pos hb]
  · simp only [if_neg (fun h => d04 b h hb), if_neg (fun h => d14 b h hb), if_neg (fun h => d24 b h hb), if_neg (fun h => d34 b h hb)]

end Go.Proofs.YtkimlajfhepfgaaGreat

namespace Go.Proofs.YtkimlajfhepfgaaGreat
open Go.RowKit

structure MineCW (w : World) (S : Nat → Prop) (col : Nat → Nat) (h : DeskH) (d : DeskV) : Prop where
  f0 : Mine w (Hue S col 0) 3 1 h.A0 h.n0 h.c0 (ints d.codes)
  f1 : Mine w (Hue S col 1) 3 1 h.A1 h.n1 h.c1 (ints d.known)
  f2 : MineO cardSh w (Hue S col 2) 31 109 h.A2 h.n2 d.queue
  f3 : Mine w (Hue S col 3) 41 3 h.A3 h.n3 h.c3 (d.done.flatMap DeskRow.enc)
  f4 : MineN cardSh w (Hue S col 4) 31 109 h.A4 h.n4 h.c4 d.trouble
/-- A desk of the call's own that is worked on. -/
def MineW (w : World) (S : Nat → Prop) (h : DeskH) (d : DeskV) : Prop := ∃ col, MineCW w S col h d
theorem MineW.desk {w : World} {S : Nat → Prop} {h : DeskH} {d : DeskV} (m : MineW w S h d) : MineDesk w S h d := by
  obtain ⟨col, m⟩ := m
  exact ⟨col, ⟨m.f0, m.f1, m.f2, m.f3, .of m.f4⟩⟩
theorem MineW.next {w w' : World} {S : Nat → Prop} {h : DeskH} {d : DeskV} (m : MineW w S h d) (hb : Below w.heap.size w w') : MineW w' S h d := by
  obtain ⟨col, m⟩ := m
  exact ⟨col, ⟨m.f0.next hb, m.f1.next hb, m.f2.next hb, m.f3.next hb, m.f4.next hb⟩⟩
theorem MineW.only {w w' : World} {S U : Nat → Prop} {h : DeskH} {d : DeskV} (m : MineW w S h d) (ho : Only U w w') (hS : ∀ b, S b → U b → False) : MineW w' S h d := by
  obtain ⟨col, m⟩ := m
  exact ⟨col, ⟨m.f0.only ho fun b h1 => hS b h1.1, m.f1.only ho fun b h1 => hS b h1.1, m.f2.only ho fun b h1 => hS b h1.1, m.f3.only ho fun b h1 => hS b h1.1, m.f4.only ho fun b h1 => hS b h1.1⟩⟩
theorem MineW.wide {w : World} {S T : Nat → Prop} {h : DeskH} {d : DeskV} (m : MineW w S h d) (hS : ∀ b, S b → T b) : MineW w T h d := by
  obtain ⟨col, m⟩ := m
  exact ⟨col, ⟨m.f0.wide (Hue.wide hS), m.f1.wide (Hue.wide hS), m.f2.wide (Hue.wide hS), m.f3.wide (Hue.wide hS), m.f4.wide (Hue.wide hS)⟩⟩
theorem MineW.of5 {w : World} {S T0 T1 T2 T3 T4 : Nat → Prop} {h : DeskH} {d : DeskV} (m0 : Mine w T0 3 1 h.A0 h.n0 h.c0 (ints d.codes)) (m1 : Mine w T1 3 1 h.A1 h.n1 h.c1 (ints d.known))
    (m2 : MineO cardSh w T2 31 109 h.A2 h.n2 d.queue) (m3 : Mine w T3 41 3 h.A3 h.n3 h.c3 (d.done.flatMap DeskRow.enc)) (m4 : MineN cardSh w T4 31 109 h.A4 h.n4 h.c4 d.trouble)
    (s0 : ∀ b, T0 b → S b) (s1 : ∀ b, T1 b → S b) (s2 : ∀ b, T2 b → S b) (s3 : ∀ b, T3 b → S b) (s4 : ∀ b, T4 b → S b)
    (d01 : ∀ b, T0 b → T1 b → False) (d02 : ∀ b, T0 b → T2 b → False) (d03 : ∀ b, T0 b → T3 b → False) (d04 : ∀ b, T0 b → T4 b → False) (d12 : ∀ b, T1 b → T2 b → False) (d13 : ∀ b, T1 b → T3 b → False) (d14 : ∀ b, T1 b → T4 b → False) (d23 : ∀ b, T2 b → T3 b → False) (d24 : ∀ b, T2 b → T4 b → False) (d34 : ∀ b, T3 b → T4 b → False) : MineW w S h d := by
  classical
  refine ⟨fun b => if T0 b then 0 else if T1 b then 1 else if T2 b then 2 else if T3 b then 3 else 4, ⟨m0.wide fun b hb => ⟨s0 b hb, ?_⟩, m1.wide fun b hb => ⟨s1 b hb, ?_⟩, m2.wide fun b hb => ⟨s2 b hb, ?_⟩, m3.wide fun b hb => ⟨s3 b hb, ?_⟩, m4.wide fun b hb => ⟨s4 b hb, ?_⟩⟩⟩
  · simp only [if_pos hb]
  · simp only [if_neg (fun h => d01 b h hb), if_pos hb]
  · simp only [if_neg (fun h => d02 b h hb), if_neg (fun h => d12 b h hb), if_pos hb]
  · simp only [if_neg (fun h => d03 b h hb), if_neg (fun h => d13 b h hb), if_neg (fun h => d23 b h hb), if_pos hb]
  · simp only [if_neg (fun h => d04 b h hb), if_neg (fun h => d14 b h hb), if_neg (fun h => d24 b h hb), if_neg (fun h => d34 b h hb)]
theorem mineN_cap {α : Type} {sh : Sh α} {w : World} {S : Nat → Prop} {t ti n c : Nat} {A : Option Addr} {xs : List α} (h : MineN sh w S t ti A n c xs) : n ≤ c := by
  obtain ⟨rs, _, h⟩ := h
  exact own_cap h.outer.own
def GivesDeskW (w : World) (d : DeskV) (e : Ending) (w' : World) : Prop :=
  ∃ H : DeskH, e = .returned (.agg #[.slice H.A0 H.n0 H.c0, .slice H.A1 H.n1 H.c1, .slice H.A2 H.n2 H.c2, .slice H.A3 H.n3 H.c3, .slice H.A4 H.n4 H.c4]) ∧ MineW w' (In w.heap.size w'.heap.size) H d ∧ DeskFit 1048576 H d ∧ H.n3 ≤ H.c3 ∧ H.n2 ≤ H.c2 ∧ Below w.heap.size w w'
/-- A desk of the call's own, its queue from the head of its block. -/
def MineD (w : World) (S : Nat → Prop) (h : DeskH) (d : DeskV) : Prop := ∃ col, MineCW w S col h d ∧ MineN cardSh w (Hue S col 2) 31 109 h.A2 h.n2 h.c2 d.queue
theorem MineD.toW {w : World} {S : Nat → Prop} {h : DeskH} {d : DeskV} (m : MineD w S h d) : MineW w S h d := by
  obtain ⟨col, m, -⟩ := m
  exact ⟨col, m⟩
theorem MineD.of5 {w : World} {S T0 T1 T2 T3 T4 : Nat → Prop} {h : DeskH} {d : DeskV} (m0 : Mine w T0 3 1 h.A0 h.n0 h.c0 (ints d.codes)) (m1 : Mine w T1 3 1 h.A1 h.n1 h.c1 (ints d.known))
    (m2 : MineN cardSh w T2 31 109 h.A2 h.n2 h.c2 d.queue) (m3 : Mine w T3 41 3 h.A3 h.n3 h.c3 (d.done.flatMap DeskRow.enc)) (m4 : MineN cardSh w T4 31 109 h.A4 h.n4 h.c4 d.trouble)
    (s0 : ∀ b, T0 b → S b) (s1 : ∀ b, T1 b → S b) (s2 : ∀ b, T2 b → S b) (s3 : ∀ b, T3 b → S b) (s4 : ∀ b, T4 b → S b)
    (d01 : ∀ b, T0 b → T1 b → False) (d02 : ∀ b, T0 b → T2 b → False) (d03 : ∀ b, T0 b → T3 b → False) (d04 : ∀ b, T0 b → T4 b → False) (d12 : ∀ b, T1 b → T2 b → False) (d13 : ∀ b, T1 b → T3 b → False) (d14 : ∀ b, T1 b → T4 b → False) (d23 : ∀ b, T2 b → T3 b → False) (d24 : ∀ b, T2 b → T4 b → False) (d34 : ∀ b, T3 b → T4 b → False) : MineD w S h d := by
  classical
  refine ⟨fun b => if T0 b then 0 else if T1 b then 1 else if T2 b then 2 else if T3 b then 3 else 4, ⟨m0.wide fun b hb => ⟨s0 b hb, ?_⟩, m1.wide fun b hb => ⟨s1 b hb, ?_⟩, (MineO.of m2).wide fun b hb => ⟨s2 b hb, ?_⟩, m3.wide fun b hb => ⟨s3 b hb, ?_⟩, m4.wide fun b hb => ⟨s4 b hb, ?_⟩⟩, m2.wide fun b hb => ⟨s2 b hb, ?_⟩⟩
  · simp only [if_pos hb]
  · simp only [if_neg (fun h => d01 b h hb), if_pos hb]
  · simp only [if_neg (fun h => d02 b h hb), if_neg (fun h => d12 b h hb), if_pos hb]
  · simp only [if_neg (fun h => d03 b h hb), if_neg (fun h => d13 b h hb), if_neg (fun h => d23 b h hb), if_pos hb]
  · simp only [if_neg (fun h => d04 b h hb), if_neg (fun h => d14 b h hb), if_neg (fun h => d24 b h hb), if_neg (fun h => d34 b h hb)]
  · simp only [if_neg (fun h => d02 b h hb), if_neg (fun h => d12 b h hb), if_pos hb]
def GivesDeskN (w : World) (d : DeskV) (e : Ending) (w' : World) : Prop :=
  ∃ H : DeskH, e = .returned (.agg #[.slice H.A0 H.n0 H.c0, .slice H.A1 H.n1 H.c1, .slice H.A2 H.n2 H.c2, .slice H.A3 H.n3 H.c3, .slice H.A4 H.n4 H.c4]) ∧ MineD w' (In w.heap.size w'.heap.size) H d ∧ DeskFit 1048576 H d ∧ H.n3 ≤ H.c3 ∧ H.n2 ≤ H.c2 ∧ Below w.heap.size w w'
theorem GivesDeskN.toW {w : World} {d : DeskV} {e : Ending} {w' : World} (h : GivesDeskN w d e w') : GivesDeskW w d e w' := by
  obtain ⟨H, h1, m, h2, h3, h4, h5⟩ := h
  exact ⟨H, h1, m.toW, h2, h3, h4, h5⟩

end Go.Proofs.YtkimlajfhepfgaaGreat

namespace Go.Proofs.YtkimlajfhepfgaaGreat
open Go.RowKit

section
variable {α : Type} {sh : Sh α} {w w' : World} {S : Nat → Prop} {lo g t ti s n c : Nat} {A : Option Addr} {cs : List Value} {xs : List α} {h : DeskH} {d : DeskV}
theorem Mine.seesB (m : Mine w S t s A n c cs) (hS : ∀ b, S b → lo ≤ b) : Sees w lo s A n cs :=
  ⟨m.sees.len, fun hn => by
    obtain ⟨b, off, e, _, hb', hl⟩ := m.sees.at' hn
    exact ⟨b, off, e, hS b (m.top b (by rw [e]; rfl)), hb', hl⟩⟩
theorem MineO.seesB (m : MineO sh w S t ti A n xs) (hS : ∀ b, S b → lo ≤ b) : SeesN sh w lo A n xs := by
  obtain ⟨rs, h1, h2, h3, h4⟩ := m
  refine ⟨rs, h1, ⟨by rw [heads_len, h3], fun h0 => ?_⟩, fun r hr => (h2.each r hr).seesB hS⟩
  rcases h4 with h4 | ⟨g, off, cs, rfl, hg, hB, hle, htk, _⟩
  · omega
  · refine ⟨g, off, rfl, hS g hg, hB.lt, fun j u hu => ?_⟩
    rw [hB.cellp j _ rfl]
    rw [← htk, List.getElem?_take] at hu
    split at hu
    · exact hu
    · cases hu
theorem MineDesk.seesB (m : MineDesk w S h d) (hS : ∀ b, S b → lo ≤ b) : SeesDesk w lo h d := by
  obtain ⟨col, m⟩ := m
  exact ⟨m.f0.seesB fun b hb => hS b hb.1, m.f1.seesB fun b hb => hS b hb.1, m.f2.seesB fun b hb => hS b hb.1, m.f3.seesB fun b hb => hS b hb.1, m.f4.seesB fun b hb => hS b hb.1⟩
theorem Sees.draw (x : Sees w lo s A n cs) (ho : Only (fun b => b = g) w w') (hg : g < lo) : Sees w' lo s A n cs :=
  ⟨x.len, fun hn => by
    obtain ⟨b, off, e, hb, hb', hl⟩ := x.at' hn
    exact ⟨b, off, e, hb, Nat.lt_of_lt_of_le hb' ho.size, hl.kept fun j => World.cell?_of_block (ho.block b hb' (fun (e : b = g) => by omega))⟩⟩
theorem SeesN.draw (x : SeesN sh w lo A n xs) (ho : Only (fun b => b = g) w w') (hg : g < lo) : SeesN sh w' lo A n xs := by
  obtain ⟨rs, h1, h2, h3⟩ := x
  exact ⟨rs, h1, h2.draw ho hg, fun r hr => (h3 r hr).draw ho hg⟩
theorem SeesDesk.draw (x : SeesDesk w lo h d) (ho : Only (fun b => b = g) w w') (hg : g < lo) : SeesDesk w' lo h d := ⟨x.f0.draw ho hg, x.f1.draw ho hg, x.f2.draw ho hg, x.f3.draw ho hg, x.f4.draw ho hg⟩
theorem SeesN.less {lo' : Nat} (x : SeesN sh w lo A n xs) (hl : lo' ≤ lo) : SeesN sh w lo' A n xs := by
  obtain ⟨rs, h1, h2, h3⟩ := x
  exact ⟨rs, h1, h2.less hl, fun r hr => (h3 r hr).less hl⟩
theorem SeesDesk.less {lo' : Nat} (x : SeesDesk w lo h d) (hl : lo' ≤ lo) : SeesDesk w lo' h d := ⟨x.f0.less hl, x.f1.less hl, x.f2.less hl, x.f3.less hl, x.f4.less hl⟩
/-- The cursor is as it was where blocks behind it alone have been written. -/
theorem Cur.past {B k : Nat} (hc : Cur w g k) (hb : Below B w w') (hg : g < B) : Cur w' g k := by
  obtain ⟨A, m, c, p, s, h1, h2, h3, h4⟩ := hc.ex
  refine ⟨A, m, c, p, s, (hb.block g hg).trans h1, h2, h3, fun h0 => ?_⟩
  obtain ⟨b, off, e, hbg, hcell⟩ := h4 h0
  refine ⟨b, off, e, hbg, fun j hj => ?_⟩
  obtain ⟨u, h5, h6⟩ := hcell j hj
  exact ⟨u, (hb.cell (p := ⟨b, off + j, none⟩) (by show b < B; omega)).trans h5, h6⟩
end
/-- A card, drawn: its punches in memory of the call's own. -/
def DrawnCard (w : World) (g n : Nat) (e : Ending) (w' : World) : Prop := ∃ (A : Option Addr) (k c : Nat) (x : Card), e = .returned (.agg #[.int .i64 x.number, .int .i64 x.start, .int .i64 x.finish, .slice A k c]) ∧ w'.ownsRow w.heap.size 109 2 (.slice A k c) k (x.punches.flatMap Punch.enc) ∧ k ≤ 12 ∧ Cur w' g n ∧ Only (fun b => b = g) w w'

end Go.Proofs.YtkimlajfhepfgaaGreat

namespace Go.Proofs.YtkimlajfhepfgaaGreat
open Go.RowKit

/-- A card under way: in block gc, its punches in memory of the call's own. -/
structure CardD (w wr : World) (g gc m : Nat) (num st fin : Int) (P : Option Addr) (kp cp : Nat) (ps : List Punch) : Prop where
  box : Blk wr gc 31 [.int .i64 num, .int .i64 st, .int .i64 fin, .slice P kp cp]
  res : Blk wr w.heap.size 31 [.int .i64 0, .int .i64 0, .int .i64 0, .slice none 0 0]
  own : wr.ownsRow w.heap.size 109 2 (.slice P kp cp) kp (ps.flatMap Punch.enc)
  far : ∀ b, OwnB P b → w.heap.size < b ∧ b ≠ gc
  cur : Cur wr g m
  only : Only (fun b => b = g) w wr
  nums : g < w.heap.size ∧ w.heap.size < gc
section
variable {w wr wv w4 : World} {g gc m m' : Nat} {num st fin : Int} {P P2 : Option Addr} {kp cp cp2 : Nat} {ps : List Punch}
theorem CardD.more (h : CardD w wr g gc m num st fin P kp cp ps) (hm : m ≤ m') : CardD w wr g gc m' num st fin P kp cp ps := { h with cur := h.cur.more hm }
theorem CardD.below (h : CardD w wr g gc m num st fin P kp cp ps) (hb : Below wr.heap.size wr wv) : CardD w wv g gc m num st fin P kp cp ps :=
  ⟨h.box.next hb, h.res.next hb, own_below h.own hb, h.far, h.cur.next hb, h.only.then_ hb, h.nums⟩
theorem CardD.drawn (h : CardD w wr g gc m num st fin P kp cp ps) (hc : Cur wv g m') (ho : Only (fun b => b = g) wr wv) : CardD w wv g gc m' num st fin P kp cp ps := by
  have hn := h.nums
  exact ⟨h.box.only ho (fun (e : _ = _) => by omega), h.res.only ho (fun (e : _ = _) => by omega), own_only h.own ho (fun b hb (e : b = g) => by have := (h.far b hb).1; omega), h.far, hc, h.only.trans ho, hn⟩
theorem CardD.set (h : CardD w wr g gc m num st fin P kp cp ps) (i : Nat) (u : Value) {num' st' fin' : Int} (he : [.int .i64 num, .int .i64 st, .int .i64 fin, .slice P kp cp].set i u = [.int .i64 num', .int .i64 st', .int .i64 fin', .slice P kp cp]) : CardD w (wr.setCell ⟨gc, i, none⟩ u) g gc m num' st' fin' P kp cp ps := by
  have hS : Only (fun b => b = gc) wr (wr.setCell ⟨gc, i, none⟩ u) := only_set (Only.refl _ _) i _
  have hn := h.nums
  refine ⟨by have := h.box.set_ i u; rwa [he] at this, h.res.only hS (fun (e : _ = _) => by omega), own_only h.own hS (fun b hb (e : _ = _) => (h.far b hb).2 e), h.far, h.cur.keep hS (fun (e : _ = _) => by omega) (fun b (e : _ = _) => by omega), only_new h.only (by show w.heap.size ≤ gc; omega) _, hn⟩
theorem CardD.push (h : CardD w wr g gc m num st fin P kp cp ps) {x : Punch} (o4 : w4.ownsRow w.heap.size 109 2 (.slice P2 (kp + 1) cp2) (kp + 1) (ps.flatMap Punch.enc ++ x.enc)) (h4 : Only (OwnB P) wr w4) (q4 : ∀ b, OwnB P2 b → OwnB P b ∨ wr.heap.size ≤ b) :
    CardD w (w4.setCell ⟨gc, 3, none⟩ (.slice P2 (kp + 1) cp2)) g gc m num st fin P2 (kp + 1) cp2 (ps ++ [x]) := by
  have hn := h.nums
  have hl := h.box.lt
  have far2 : ∀ b, OwnB P2 b → w.heap.size < b ∧ b ≠ gc := fun b hb => by
    rcases q4 b hb with h5 | h5
    · exact h.far b h5
    · exact ⟨by omega, by omega⟩
  have b1 := h.box.only h4 (fun hb => (h.far _ hb).2 rfl)
  have hS : Only (fun b => b = gc) w4 (w4.setCell ⟨gc, 3, none⟩ (.slice P2 (kp + 1) cp2)) := only_set (Only.refl _ _) 3 _
  have c4 := h.cur.keep h4 (fun hb => by have := (h.far _ hb).1; omega) (fun b hb => by have := (h.far _ hb).1; omega)
  have o1 := h.only
  have w4o : Only (fun b => b = g) w w4 := ⟨h4.os.trans o1.os, h4.tape.trans o1.tape, h4.output.trans o1.output, Nat.le_trans o1.size h4.size, fun i hi hS => (h4.block i (Nat.lt_of_lt_of_le hi o1.size) (fun hb => by have := (h.far _ hb).1; omega)).trans (o1.block i hi hS)⟩
  exact ⟨b1.set_ 3 _, (h.res.only h4 (fun hb => by have := (h.far _ hb).1; omega)).only hS (fun (e : _ = _) => by omega), own_only (by rw [List.flatMap_append, List.flatMap_singleton]; exact o4) hS (fun b hb (e : _ = _) => (far2 b hb).2 e), far2, c4.keep hS (fun (e : _ = _) => by omega) (fun b (e : _ = _) => by omega), only_new w4o (by show w.heap.size ≤ gc; omega) _, hn⟩
theorem CardD.done (h : CardD w wr g gc m num st fin P kp cp ps) (hk : kp ≤ 12) (hm : m ≤ m') : DrawnCard w g m' (.returned (.agg #[.int .i64 num, .int .i64 st, .int .i64 fin, .slice P kp cp])) ((((wr.setCell ⟨w.heap.size, 0, none⟩ (.int .i64 num)).setCell ⟨w.heap.size, 1, none⟩ (.int .i64 st)).setCell ⟨w.heap.size, 2, none⟩ (.int .i64 fin)).setCell ⟨w.heap.size, 3, none⟩ (.slice P kp cp)) := by
  have hn := h.nums
  have hS : Only (fun b => b = w.heap.size) wr ((((wr.setCell ⟨w.heap.size, 0, none⟩ (.int .i64 num)).setCell ⟨w.heap.size, 1, none⟩ (.int .i64 st)).setCell ⟨w.heap.size, 2, none⟩ (.int .i64 fin)).setCell ⟨w.heap.size, 3, none⟩ (.slice P kp cp)) := only_set (only_set (only_set (only_set (Only.refl _ _) 0 _) 1 _) 2 _) 3 _
  exact ⟨P, kp, cp, ⟨num, st, fin, ps⟩, rfl, own_only h.own hS (fun b hb (e : _ = _) => by have := (h.far b hb).1; omega), hk, (h.cur.more hm).keep hS (fun (e : _ = _) => by omega) (fun b (e : _ = _) => by omega), only_new (only_new (only_new (only_new h.only (Nat.le_refl _) _) (Nat.le_refl _) _) (Nat.le_refl _) _) (Nat.le_refl _) _⟩
end

set_option maxRecDepth 100000 in
set_option maxHeartbeats 8000000 in
theorem card_any (g n lo k c : Nat) (B : Option Addr) (cs : List Int) (w : World) (h : Cur w g n) (hn : n ≤ 700000) (hx : Sees w lo 1 B k (ints cs)) (hlo : g < lo) (hk : k ≤ 14) :
    Calls Tryz.prog 105 #[.pointer (some ⟨g, 0, none⟩), .slice B k c] w (DrawnCard w g (n + 100)) := by
  have U0 : Below w.heap.size w (w.alloc (.cells #[.int .i64 0, .int .i64 0, .int .i64 0, .slice none 0 0] 31)) := (Below.refl _ _).alloc (Nat.le_refl _) _
  have R0 : Blk (w.alloc (.cells #[.int .i64 0, .int .i64 0, .int .i64 0, .slice none 0 0] 31)) w.heap.size 31 [.int .i64 0, .int .i64 0, .int .i64 0, .slice none 0 0] := Blk.at_ rfl
  have z0 : (w.alloc (.cells #[.int .i64 0, .int .i64 0, .int .i64 0, .slice none 0 0] 31)).heap.size = w.heap.size + 1 := by simp
  have hg := h.lt
  have hc0 := h.next U0
  have o0 : Only (fun b => b = g) w (w.alloc (.cells #[.int .i64 0, .int .i64 0, .int .i64 0, .slice none 0 0] 31)) := .of_below U0
  go_enter Tryz.func105, Tryz.ntmps105
  go_wp2_with fail
  generalize (w.alloc (.cells #[.int .i64 0, .int .i64 0, .int .i64 0, .slice none 0 0] 31)) = w0 at *
  have U1 : Below w0.heap.size w0 (w0.alloc (.cells #[.int .i64 1, .int .i64 17, .int .i64 9999] 3)) := (Below.refl _ _).alloc (Nat.le_refl _) _
  have BQ : Blk (w0.alloc (.cells #[.int .i64 1, .int .i64 17, .int .i64 9999] 3)) (w.heap.size + 1) 3 (ints [1, 17, 9999]) := Blk.at_ z0
  have hl0 := hc0.lt
  refine (among_any g _ (w.heap.size + 1) 3 3 [1, 17, 9999] _ BQ (by omega) (hc0.next U1) (by omega) rfl (by decide) (by decide)).mono ?_
  rintro e w1 ⟨num, rfl, -, c1, o1⟩
  replace R0 := (R0.next U1).only o1 (fun (e : _ = _) => by omega)
  replace o0 := (o0.then_ U1).trans o1
  clear U1 BQ hl0 hc0 h z0
  have U1 : Below w1.heap.size w1 (w1.alloc (.cells #[.int .i64 0, .int .i64 600, .int .i64 3600] 3)) := (Below.refl _ _).alloc (Nat.le_refl _) _
  have BQ : Blk (w1.alloc (.cells #[.int .i64 0, .int .i64 600, .int .i64 3600] 3)) w1.heap.size 3 (ints [0, 600, 3600]) := Blk.at_ rfl
  have hl0 := c1.lt
  go_wp2_with fail
  refine (among_any g _ w1.heap.size 3 3 [0, 600, 3600] _ BQ (by omega) (c1.next U1) (by omega) rfl (by decide) (by decide)).mono ?_
  rintro e w2 ⟨st, rfl, hst, c2, o2⟩
  replace R0 := (R0.next U1).only o2 (fun (e : _ = _) => by omega)
  replace o0 := (o0.then_ U1).trans o2
  have hst2 : 0 ≤ st ∧ st ≤ 3600 := by simp at hst; omega
  clear U1 BQ hl0 c1 o1 o2 hst
  have hz2 := R0.lt
  have hz3 := c2.lt
  have UE : Below w2.heap.size w2 (w2.alloc (.cells #[] 109)) := (Below.refl _ _).alloc (Nat.le_refl _) _
  have UB : Below (w2.alloc (.cells #[] 109)).heap.size (w2.alloc (.cells #[] 109)) ((w2.alloc (.cells #[] 109)).alloc (.cells #[.int .i64 num, .int .i64 st, .int .i64 0, .slice (some ⟨w2.heap.size, 0, none⟩) 0 0] 31)) := (Below.refl _ _).alloc (Nat.le_refl _) _
  have D : CardD w ((w2.alloc (.cells #[] 109)).alloc (.cells #[.int .i64 num, .int .i64 st, .int .i64 0, .slice (some ⟨w2.heap.size, 0, none⟩) 0 0] 31)) g (w2.heap.size + 1) (n + 4) num st 0 (some ⟨w2.heap.size, 0, none⟩) 0 0 [] :=
    ⟨Blk.at_ (by simp), (R0.next UE).next UB, own_base (own_below (own_empty w2 109 2) UB) (by omega), fun b hb => by
      obtain rfl : w2.heap.size = b := by simpa [OwnB, Value.ownBlock] using hb
      exact ⟨by omega, by omega⟩, (c2.next UE).next UB, (o0.then_ UE).then_ UB, by omega, by omega⟩
  clear UE UB R0 c2 o0 hz2 hz3 U0
  have bc := D.box.cell
  have bf := D.box.frozen
  go_upto_block 0 with fail
  generalize ((w2.alloc (.cells #[] 109)).alloc (.cells #[.int .i64 num, .int .i64 st, .int .i64 0, .slice (some ⟨w2.heap.size, 0, none⟩) 0 0] 31)) = wz at *
  generalize hgc : w2.heap.size + 1 = gc at *
  clear hgc
  clear bc bf hg
  go_cut [6] from 18 to 80 (fun s6 wr => ∃ (a : Int) (P : Option Addr) (kp cp : Nat) (ps : List Punch), s6 = .int .i64 a ∧ (0 ≤ a ∧ a ≤ 9000) ∧ kp ≤ 12 ∧ CardD w wr g gc (n + 4 + 6 * 14) num st 0 P kp cp ps)
  case first =>
    go_wp2_with fail
    go_loopw [6, 7] (fun s6 s7 wr => ∃ (a : Int) (j : Nat) (P : Option Addr) (kp cp : Nat) (ps : List Punch), s6 = .int .i64 a ∧ s7 = .int .i64 (j : Int) ∧ (0 ≤ a ∧ a ≤ 3600 + 260 * (j : Int)) ∧ j ≤ k ∧ kp ≤ 12 ∧ CardD w wr g gc (n + 4 + 6 * j) num st 0 P kp cp ps) (fun _ i _ => k - (intOf i).toNat)
    case atStart => exact ⟨st, 0, _, 0, 0, [], rfl, rfl, ⟨by omega, by omega⟩, Nat.zero_le _, by omega, D⟩
    case round =>
      clear D
      obtain ⟨a, j, P, kp, cp, ps, rfl, rfl, ⟨ha0, ha1⟩, hjk, hkp, D⟩ := hrel
      have bc := D.box.cell
      by_cases hlt : j < k
      · by_cases hlp : kp < 12
        · have hlt1 : (j : Int) < (k : Int) := by omega
          have hlp1 : (kp : Int) < 12 := by omega
          have UA : Below wr.heap.size wr (wr.alloc (.cells #[.int .i64 0, .int .i64 30, .int .i64 60, .int .i64 100, .int .i64 250] 3)) := (Below.refl _ _).alloc (Nat.le_refl _) _
          have BL : Blk (wr.alloc (.cells #[.int .i64 0, .int .i64 30, .int .i64 60, .int .i64 100, .int .i64 250] 3)) wr.heap.size 3 (ints [0, 30, 60, 100, 250]) := Blk.at_ rfl
          have DA := D.below UA
          have hgl := D.cur.lt
          go_wp2_with fail
          refine (among_any g _ wr.heap.size 5 3 [0, 30, 60, 100, 250] _ BL (by omega) DA.cur (by omega) rfl (by decide) (by decide)).mono ?_
          rintro e w3 ⟨x, rfl, hxm, c2_, o2_⟩
          have D3 := DA.drawn c2_ o2_
          clear UA BL DA c2_ o2_ hgl
          have hx2 : 0 ≤ x ∧ x ≤ 250 := by simp at hxm; omega
          clear hxm bc D
          obtain ⟨a3, ha3⟩ : ∃ a3, a + x = a3 := ⟨_, rfl⟩
          have hwr : IntKind.i64.wrap (a + x) = a3 := by rw [IntWalk.i64_in _ (by omega)]; exact ha3
          have ha30 : 0 ≤ a3 := by omega
          have ha31 : a3 ≤ 3600 + 260 * (j : Int) + 250 := by omega
          go_wp2_with fail
          try rw [ha3]
          refine (pick_any 8 g _ _ D3.cur (by omega) (by decide) (by decide)).mono ?_
          rintro e w4 ⟨r, rfl, hr, c4, o4⟩
          have D4 := D3.drawn c4 o4
          clear D3 c4 o4 ha0 ha1 hx2 ha3 hwr
          have hr7 : r ≤ 7 := hr
          clear hr
          go_upto_block 2 with fail
          go_cut [6] from 37 to 65 (fun s6 wr => ∃ (a : Int) (P : Option Addr) (kp cp : Nat) (ps : List Punch), s6 = .int .i64 a ∧ (0 ≤ a ∧ a ≤ 3600 + 260 * (j : Int) + 260) ∧ kp ≤ 12 ∧ CardD w wr g gc (n + 4 + 6 * j + 6) num st 0 P kp cp ps)
          case first =>
            by_cases r0 : r = 0
            · subst r0
              go_wp2_with fail
              go_roundw
              case rel => exact ⟨a3, j + 1, P, kp, cp, ps, rfl, by go_num, ⟨by omega, by omega⟩, by omega, by omega, D4.more (by omega)⟩
              case measure => simp [intOf]; omega
            have e0 : ((r : Int) == 0) = false := beq_eq_false_iff_ne.2 (by omega)
            by_cases r1 : r = 1
            · subst r1
              go_wp2_with fail
              have Dq := D4.below ((Quiet.one w4).below _)
              have U4 : Below w4.heap.size w4 (w4.alloc (.cells #[.int .i64 31, .int .i64 50, .int .i64 77] 3)).drew := bel_then ((Below.refl _ _).alloc (Nat.le_refl _) _) ((Quiet.one _).below _)
              have BL : Blk (w4.alloc (.cells #[.int .i64 31, .int .i64 50, .int .i64 77] 3)).drew w4.heap.size 3 (ints [31, 50, 77]) := (show Blk (w4.alloc (.cells #[.int .i64 31, .int .i64 50, .int .i64 77] 3)) w4.heap.size 3 (ints [31, 50, 77]) from Blk.at_ rfl).next ((Quiet.one _).below _)
              have D1 := D4.below U4
              have hgl := D4.cur.lt
              have pg := Dq.box.cell
              have pg1 := D1.box.cell
              refine wp_region_held_drew (S := fun w' => True) (by kernel_rfl) (by trivial) (fun hHeld => ?_)
              refine wpAnyH_take (i := 0) (v := ?_) rfl (by kernel_rfl) (by kernel_rfl) (by kernel_rfl) (fun _ _ _ h => h) (Or.inl ⟨by rfl, ?_⟩) (by assumption) ?_
              rotate_left 1
              · (intro w hSw; (try dsimp only at hSw); go_simp; try with_reducible rfl)
              simp only [Act.put, pA, pB, pC, pD, pE]
              refine wpAnyH_take (i := 2) (v := ?_) rfl (by kernel_rfl) (by kernel_rfl) (by kernel_rfl) (fun _ _ _ h => h) (Or.inl ⟨by rfl, ?_⟩) (by assumption) ?_
              rotate_left 1
              · (intro w hSw; (try dsimp only at hSw); go_simp; try with_reducible rfl)
              simp only [Act.put, pA, pB, pC, pD, pE, pF]
              refine wpAnyH_take (i := 5) (v := ?_) rfl (by kernel_rfl) (by kernel_rfl) (by kernel_rfl) (fun _ _ _ h => h) (Or.inl ⟨by rfl, ?_⟩) (by assumption) ?_
              rotate_left 1
              · (intro w hSw; (try dsimp only at hSw); go_simp; try with_reducible rfl)
              simp only [Act.put, pA, pB, pC, pD, pE, pF]
              refine wpAnyH_ready (rs := [1, 3]) (by kernel_rfl) (by simp) ?_
              refine AllReadyH.cons rfl (fun K hK => ?_) ?_
              · go_simp
                refine hK.out _ _ (by trivial) (fun hHeld => ?_)
                clear hK K
                try simp only [Act.put, pA, pB, pC, pD, pE, pF]
                refine wpAnyH_ready (rs := [3]) (by kernel_rfl) (by simp) ?_
                refine AllReadyH.cons rfl (fun K hK => ?_) AllReadyH.nil
                go_simp
                refine hK.out _ _ (by trivial) (fun hHeld => ?_)
                clear hK K
                try simp only [Act.put, pA, pB, pC, pD, pE, pF]
                refine wpAnyH_ready (rs := [4]) (by kernel_rfl) (by simp) ?_
                refine AllReadyH.cons rfl (fun K hK => ?_) AllReadyH.nil
                go_simp
                refine (among_any g _ w4.heap.size 3 3 [31, 50, 77] _ BL (by omega) D1.cur (by omega) rfl (by decide) (by decide)).mono ?_
                rintro e w3 ⟨cv, rfl, -, c3, o3⟩
                have D3 := D1.drawn c3 o3
                have pg3 := D3.box.cell
                have U5 : Below w3.heap.size w3 (w3.alloc (.cells #[.int .i64 cv, .int .i64 a3] 109)) := (Below.refl _ _).alloc (Nat.le_refl _) _
                have BP : Blk (w3.alloc (.cells #[.int .i64 cv, .int .i64 a3] 109)) w3.heap.size 109 [.int .i64 cv, .int .i64 a3] := Blk.at_ rfl
                have D5 := D3.below U5
                have pg5 := D5.box.cell
                have hsw := D5.res.lt
                go_wp2_with fail
                refine hK.out _ _ (by trivial) (fun hHeld => ?_)
                clear hK K
                refine wpAnyH_take (i := 6) (v := ?_) rfl (by kernel_rfl) (by kernel_rfl) (by kernel_rfl) (fun _ _ _ h => h) (Or.inl ⟨by rfl, ?_⟩) (by assumption) ?_
                rotate_left 1
                · (intro w hSw; (try dsimp only at hSw); go_simp; try with_reducible rfl)
                simp only [Act.put, pA, pB, pC, pD, pE, pF]
                refine wpAnyH_ready (rs := [7]) (by kernel_rfl) (by simp) ?_
                refine AllReadyH.cons rfl (fun K hK => ?_) AllReadyH.nil
                go_simp
                refine hK.out _ _ (by trivial) (fun hHeld => ?_)
                clear hK K
                try simp only [Act.put, pA, pB, pC, pD, pE, pF]
                refine wpAnyH_ready (rs := [8]) (by kernel_rfl) (by simp) ?_
                refine AllReadyH.cons rfl (fun K hK => ?_) AllReadyH.nil
                refine step_cat rfl _ _ _ (by rfl) Tryz.underlying29 info_impl_Punch rfl (by decide) (by rfl) D5.own (by rfl) (m := 1) (BP.sees (s := 2) (Nat.zero_le _) rfl) (by rfl) (by omega) (by omega) (by decide) (Nat.le_of_lt hsw) ?_
                intro A6 c6 w6 o6 h6 b6 q6
                have Bg6 := D5.box.only h6 (fun hb => (D5.far _ hb).2 rfl)
                have pg6 := Bg6.cell
                have fg6 := Bg6.frozen
                have D6 := D5.push (x := ⟨cv, a3⟩) o6 h6 q6
                refine hK.out _ _ (by trivial) (fun hHeld => ?_)
                clear hK K
                try simp only [Act.put, pA, pB, pC, pD, pE, pF]
                refine wpAnyH_take (i := 9) (v := ?_) rfl (by kernel_rfl) (by kernel_rfl) (by kernel_rfl) (fun _ _ _ h => h) (Or.inl ⟨by rfl, ?_⟩) (by assumption) ?_
                rotate_left 1
                · (intro w hSw; (try dsimp only at hSw); go_simp; try with_reducible rfl)
                simp only [Act.put, pA, pB, pC, pD, pE, pF]
                refine wpAnyH_ready (rs := [10]) (by kernel_rfl) (by simp) ?_
                refine AllReadyH.cons rfl (fun K hK => ?_) AllReadyH.nil
                go_simp
                refine hK.out _ _ (by trivial) (fun hHeld => ?_)
                clear hK K
                try simp only [Act.put, pA, pB, pC, pD, pE, pF]
                refine wpAnyH_done (by kernel_rfl) ?_ _
                go_wp2_with fail
                go_meet
                exact ⟨_, A6, kp + 1, c6, _, by go_num, ⟨by omega, by omega⟩, by omega, D6.more (by omega)⟩
              refine AllReadyH.cons rfl (fun K hK => ?_) AllReadyH.nil
              · go_simp
                refine hK.out _ _ (by trivial) (fun hHeld => ?_)
                clear hK K
                try simp only [Act.put, pA, pB, pC, pD, pE, pF]
                refine wpAnyH_ready (rs := [1, 4]) (by kernel_rfl) (by simp) ?_
                refine AllReadyH.cons rfl (fun K hK => ?_) ?_
                · go_simp
                  refine hK.out _ _ (by trivial) (fun hHeld => ?_)
                  clear hK K
                  try simp only [Act.put, pA, pB, pC, pD, pE, pF]
                  refine wpAnyH_ready (rs := [4]) (by kernel_rfl) (by simp) ?_
                  refine AllReadyH.cons rfl (fun K hK => ?_) AllReadyH.nil
                  go_simp
                  refine (among_any g _ w4.heap.size 3 3 [31, 50, 77] _ BL (by omega) D1.cur (by omega) rfl (by decide) (by decide)).mono ?_
                  rintro e w3 ⟨cv, rfl, -, c3, o3⟩
                  have D3 := D1.drawn c3 o3
                  have pg3 := D3.box.cell
                  have U5 : Below w3.heap.size w3 (w3.alloc (.cells #[.int .i64 cv, .int .i64 a3] 109)) := (Below.refl _ _).alloc (Nat.le_refl _) _
                  have BP : Blk (w3.alloc (.cells #[.int .i64 cv, .int .i64 a3] 109)) w3.heap.size 109 [.int .i64 cv, .int .i64 a3] := Blk.at_ rfl
                  have D5 := D3.below U5
                  have pg5 := D5.box.cell
                  have hsw := D5.res.lt
                  go_wp2_with fail
                  refine hK.out _ _ (by trivial) (fun hHeld => ?_)
                  clear hK K
                  refine wpAnyH_take (i := 6) (v := ?_) rfl (by kernel_rfl) (by kernel_rfl) (by kernel_rfl) (fun _ _ _ h => h) (Or.inl ⟨by rfl, ?_⟩) (by assumption) ?_
                  rotate_left 1
                  · (intro w hSw; (try dsimp only at hSw); go_simp; try with_reducible rfl)
                  simp only [Act.put, pA, pB, pC, pD, pE, pF]
                  refine wpAnyH_ready (rs := [7]) (by kernel_rfl) (by simp) ?_
                  refine AllReadyH.cons rfl (fun K hK => ?_) AllReadyH.nil
                  go_simp
                  refine hK.out _ _ (by trivial) (fun hHeld => ?_)
                  clear hK K
                  try simp only [Act.put, pA, pB, pC, pD, pE, pF]
                  refine wpAnyH_ready (rs := [8]) (by kernel_rfl) (by simp) ?_
                  refine AllReadyH.cons rfl (fun K hK => ?_) AllReadyH.nil
                  refine step_cat rfl _ _ _ (by rfl) Tryz.underlying29 info_impl_Punch rfl (by decide) (by rfl) D5.own (by rfl) (m := 1) (BP.sees (s := 2) (Nat.zero_le _) rfl) (by rfl) (by omega) (by omega) (by decide) (Nat.le_of_lt hsw) ?_
                  intro A6 c6 w6 o6 h6 b6 q6
                  have Bg6 := D5.box.only h6 (fun hb => (D5.far _ hb).2 rfl)
                  have pg6 := Bg6.cell
                  have fg6 := Bg6.frozen
                  have D6 := D5.push (x := ⟨cv, a3⟩) o6 h6 q6
                  refine hK.out _ _ (by trivial) (fun hHeld => ?_)
                  clear hK K
                  try simp only [Act.put, pA, pB, pC, pD, pE, pF]
                  refine wpAnyH_take (i := 9) (v := ?_) rfl (by kernel_rfl) (by kernel_rfl) (by kernel_rfl) (fun _ _ _ h => h) (Or.inl ⟨by rfl, ?_⟩) (by assumption) ?_
                  rotate_left 1
                  · (intro w hSw; (try dsimp only at hSw); go_simp; try with_reducible rfl)
                  simp only [Act.put, pA, pB, pC, pD, pE, pF]
                  refine wpAnyH_ready (rs := [10]) (by kernel_rfl) (by simp) ?_
                  refine AllReadyH.cons rfl (fun K hK => ?_) AllReadyH.nil
                  go_simp
                  refine hK.out _ _ (by trivial) (fun hHeld => ?_)
                  clear hK K
                  try simp only [Act.put, pA, pB, pC, pD, pE, pF]
                  refine wpAnyH_done (by kernel_rfl) ?_ _
                  go_wp2_with fail
                  go_meet
                  exact ⟨_, A6, kp + 1, c6, _, by go_num, ⟨by omega, by omega⟩, by omega, D6.more (by omega)⟩
                refine AllReadyH.cons rfl (fun K hK => ?_) AllReadyH.nil
                · go_simp
                  refine (among_any g _ w4.heap.size 3 3 [31, 50, 77] _ BL (by omega) D1.cur (by omega) rfl (by decide) (by decide)).mono ?_
                  rintro e w3 ⟨cv, rfl, -, c3, o3⟩
                  have D3 := D1.drawn c3 o3
                  have pg3 := D3.box.cell
                  have U5 : Below w3.heap.size w3 (w3.alloc (.cells #[.int .i64 cv, .int .i64 a3] 109)) := (Below.refl _ _).alloc (Nat.le_refl _) _
                  have BP : Blk (w3.alloc (.cells #[.int .i64 cv, .int .i64 a3] 109)) w3.heap.size 109 [.int .i64 cv, .int .i64 a3] := Blk.at_ rfl
                  have D5 := D3.below U5
                  have pg5 := D5.box.cell
                  have hsw := D5.res.lt
                  go_wp2_with fail
                  refine hK.out _ _ (by trivial) (fun hHeld => ?_)
                  clear hK K
                  refine wpAnyH_take (i := 6) (v := ?_) rfl (by kernel_rfl) (by kernel_rfl) (by kernel_rfl) (fun _ _ _ h => h) (Or.inl ⟨by rfl, ?_⟩) (by assumption) ?_
                  rotate_left 1
                  · (intro w hSw; (try dsimp only at hSw); go_simp; try with_reducible rfl)
                  simp only [Act.put, pA, pB, pC, pD, pE, pF]
                  refine wpAnyH_ready (rs := [1, 7]) (by kernel_rfl) (by simp) ?_
                  refine AllReadyH.cons rfl (fun K hK => ?_) ?_
                  · go_simp
                    refine hK.out _ _ (by trivial) (fun hHeld => ?_)
                    clear hK K
                    try simp only [Act.put, pA, pB, pC, pD, pE, pF]
                    refine wpAnyH_ready (rs := [7]) (by kernel_rfl) (by simp) ?_
                    refine AllReadyH.cons rfl (fun K hK => ?_) AllReadyH.nil
                    go_simp
                    refine hK.out _ _ (by trivial) (fun hHeld => ?_)
                    clear hK K
                    try simp only [Act.put, pA, pB, pC, pD, pE, pF]
                    refine wpAnyH_ready (rs := [8]) (by kernel_rfl) (by simp) ?_
                    refine AllReadyH.cons rfl (fun K hK => ?_) AllReadyH.nil
                    refine step_cat rfl _ _ _ (by rfl) Tryz.underlying29 info_impl_Punch rfl (by decide) (by rfl) D5.own (by rfl) (m := 1) (BP.sees (s := 2) (Nat.zero_le _) rfl) (by rfl) (by omega) (by omega) (by decide) (Nat.le_of_lt hsw) ?_
                    intro A6 c6 w6 o6 h6 b6 q6
                    have Bg6 := D5.box.only h6 (fun hb => (D5.far _ hb).2 rfl)
                    have pg6 := Bg6.cell
                    have fg6 := Bg6.frozen
                    have D6 := D5.push (x := ⟨cv, a3⟩) o6 h6 q6
                    refine hK.out _ _ (by trivial) (fun hHeld => ?_)
                    clear hK K
                    try simp only [Act.put, pA, pB, pC, pD, pE, pF]
                    refine wpAnyH_take (i := 9) (v := ?_) rfl (by kernel_rfl) (by kernel_rfl) (by kernel_rfl) (fun _ _ _ h => h) (Or.inl ⟨by rfl, ?_⟩) (by assumption) ?_
                    rotate_left 1
                    · (intro w hSw; (try dsimp only at hSw); go_simp; try with_reducible rfl)
                    simp only [Act.put, pA, pB, pC, pD, pE, pF]
                    refine wpAnyH_ready (rs := [10]) (by kernel_rfl) (by simp) ?_
                    refine AllReadyH.cons rfl (fun K hK => ?_) AllReadyH.nil
                    go_simp
                    refine hK.out _ _ (by trivial) (fun hHeld => ?_)
                    clear hK K
                    try simp only [Act.put, pA, pB, pC, pD, pE, pF]
                    refine wpAnyH_done (by kernel_rfl) ?_ _
                    go_wp2_with fail
                    go_meet
                    exact ⟨_, A6, kp + 1, c6, _, by go_num, ⟨by omega, by omega⟩, by omega, D6.more (by omega)⟩
                  refine AllReadyH.cons rfl (fun K hK => ?_) AllReadyH.nil
                  · go_simp
                    refine hK.out _ _ (by trivial) (fun hHeld => ?_)
                    clear hK K
                    try simp only [Act.put, pA, pB, pC, pD, pE, pF]
                    refine wpAnyH_ready (rs := [1]) (by kernel_rfl) (by simp) ?_
                    refine AllReadyH.cons rfl (fun K hK => ?_) AllReadyH.nil
                    go_simp
                    refine hK.out _ _ (by trivial) (fun hHeld => ?_)
                    clear hK K
                    try simp only [Act.put, pA, pB, pC, pD, pE, pF]
                    refine wpAnyH_ready (rs := [8]) (by kernel_rfl) (by simp) ?_
                    refine AllReadyH.cons rfl (fun K hK => ?_) AllReadyH.nil
                    refine step_cat rfl _ _ _ (by rfl) Tryz.underlying29 info_impl_Punch rfl (by decide) (by rfl) D5.own (by rfl) (m := 1) (BP.sees (s := 2) (Nat.zero_le _) rfl) (by rfl) (by omega) (by omega) (by decide) (Nat.le_of_lt hsw) ?_
                    intro A6 c6 w6 o6 h6 b6 q6
                    have Bg6 := D5.box.only h6 (fun hb => (D5.far _ hb).2 rfl)
                    have pg6 := Bg6.cell
                    have fg6 := Bg6.frozen
                    have D6 := D5.push (x := ⟨cv, a3⟩) o6 h6 q6
                    refine hK.out _ _ (by trivial) (fun hHeld => ?_)
                    clear hK K
                    try simp only [Act.put, pA, pB, pC, pD, pE, pF]
                    refine wpAnyH_take (i := 9) (v := ?_) rfl (by kernel_rfl) (by kernel_rfl) (by kernel_rfl) (fun _ _ _ h => h) (Or.inl ⟨by rfl, ?_⟩) (by assumption) ?_
                    rotate_left 1
                    · (intro w hSw; (try dsimp only at hSw); go_simp; try with_reducible rfl)
                    simp only [Act.put, pA, pB, pC, pD, pE, pF]
                    refine wpAnyH_ready (rs := [10]) (by kernel_rfl) (by simp) ?_
                    refine AllReadyH.cons rfl (fun K hK => ?_) AllReadyH.nil
                    go_simp
                    refine hK.out _ _ (by trivial) (fun hHeld => ?_)
                    clear hK K
                    try simp only [Act.put, pA, pB, pC, pD, pE, pF]
                    refine wpAnyH_done (by kernel_rfl) ?_ _
                    go_wp2_with fail
                    go_meet
                    exact ⟨_, A6, kp + 1, c6, _, by go_num, ⟨by omega, by omega⟩, by omega, D6.more (by omega)⟩
            have e1 : ((r : Int) == 1) = false := beq_eq_false_iff_ne.2 (by omega)
            by_cases r2 : r = 2
            · subst r2
              obtain ⟨b, off, rfl, hxk, hcv⟩ := (hx.draw D4.only hlo).int hlt
              obtain ⟨cv, hcve⟩ : ∃ cv, cs[j] = cv := ⟨_, rfl⟩
              rw [hcve] at hcv
              have hbz : b < w4.heap.size := by
                rcases Nat.lt_or_ge b w4.heap.size with h5 | h5
                · exact h5
                · simp [World.cell?, Array.getElem?_eq_none h5] at hcv
              have hbw : b < w.heap.size := by
                obtain ⟨b2, o2, e2, -, h5, -⟩ := hx.at' (by omega)
                injection e2 with e2
                injection e2 with e3
                omega
              go_wp2_with fail
              have U4 : Below w4.heap.size w4 (w4.alloc (.cells #[.int .i64 cv, .int .i64 a3] 109)).drew := bel_then ((Below.refl _ _).alloc (Nat.le_refl _) _) ((Quiet.one _).below _)
              have BP : Blk (w4.alloc (.cells #[.int .i64 cv, .int .i64 a3] 109)).drew w4.heap.size 109 [.int .i64 cv, .int .i64 a3] := (show Blk (w4.alloc (.cells #[.int .i64 cv, .int .i64 a3] 109)) w4.heap.size 109 [.int .i64 cv, .int .i64 a3] from Blk.at_ rfl).next ((Quiet.one _).below _)
              have Dq := D4.below ((Quiet.one w4).below _)
              have DB := D4.below U4
              have hsw := DB.res.lt
              have pg := Dq.box.cell
              have pgA := DB.box.cell
              have hcq : w4.drew.cell? ⟨b, off + j, none⟩ = some (.int .i64 cv) := hcv
              have hcA : (w4.alloc (.cells #[.int .i64 cv, .int .i64 a3] 109)).drew.cell? ⟨b, off + j, none⟩ = some (.int .i64 cv) := (U4.cell (p := ⟨b, off + j, none⟩) hbz).trans hcv
              have hbP : ∀ u, OwnB P u → b ≠ u := fun u hu => by have := (D4.far u hu).1; omega
              refine wp_region_held_drew (S := fun w' => w'.cell? ⟨b, off + j, none⟩ = some (.int .i64 cv)) (by kernel_rfl) (by (try dsimp only); first | exact hcq | exact hcA | exact hc6) (fun hHeld => ?_)
              refine wpAnyH_take (i := 0) (v := ?_) rfl (by kernel_rfl) (by kernel_rfl) (by kernel_rfl) (fun _ _ _ h => h) (Or.inl ⟨by rfl, ?_⟩) (by assumption) ?_
              rotate_left 1
              · (intro w hSw; (try dsimp only at hSw); go_simp; try with_reducible rfl)
              simp only [Act.put, pA, pB, pC, pD, pE]
              refine wpAnyH_take (i := 2) (v := ?_) rfl (by kernel_rfl) (by kernel_rfl) (by kernel_rfl) (fun _ _ _ h => h) (Or.inl ⟨by rfl, ?_⟩) (by assumption) ?_
              rotate_left 1
              · (intro w hSw; (try dsimp only at hSw); go_simp; try with_reducible rfl)
              simp only [Act.put, pA, pB, pC, pD, pE, pF]
              refine wpAnyH_take (i := 3) (v := ?_) rfl (by kernel_rfl) (by kernel_rfl) (by kernel_rfl) (fun _ _ _ h => h) (Or.inl ⟨by rfl, ?_⟩) (by assumption) ?_
              rotate_left 1
              · (intro w hSw; (try dsimp only at hSw); go_simp; try with_reducible rfl)
              simp only [Act.put, pA, pB, pC, pD, pE, pF]
              refine wpAnyH_take (i := 4) (v := ?_) rfl (by kernel_rfl) (by kernel_rfl) (by kernel_rfl) (fun _ _ _ h => h) (Or.inl ⟨by rfl, ?_⟩) (by assumption) ?_
              rotate_left 1
              · (intro w hSw; (try dsimp only at hSw); go_simp; try with_reducible rfl)
              simp only [Act.put, pA, pB, pC, pD, pE, pF]
              refine wpAnyH_take (i := 5) (v := ?_) rfl (by kernel_rfl) (by kernel_rfl) (by kernel_rfl) (fun _ _ _ h => h) (Or.inl ⟨by rfl, ?_⟩) (by assumption) ?_
              rotate_left 1
              · (intro w hSw; (try dsimp only at hSw); go_simp; try with_reducible rfl)
              simp only [Act.put, pA, pB, pC, pD, pE, pF]
              refine wpAnyH_take (i := 6) (v := ?_) rfl (by kernel_rfl) (by kernel_rfl) (by kernel_rfl) (fun _ _ _ h => h) (Or.inl ⟨by rfl, ?_⟩) (by assumption) ?_
              rotate_left 1
              · (intro w hSw; (try dsimp only at hSw); go_simp; try with_reducible rfl)
              simp only [Act.put, pA, pB, pC, pD, pE, pF]
              refine wpAnyH_take (i := 7) (v := ?_) rfl (by kernel_rfl) (by kernel_rfl) (by kernel_rfl) (fun _ _ _ h => h) (Or.inl ⟨by rfl, ?_⟩) (by assumption) ?_
              rotate_left 1
              · (intro w hSw; (try dsimp only at hSw); go_simp; try with_reducible rfl)
              simp only [Act.put, pA, pB, pC, pD, pE, pF]
              refine wpAnyH_ready (rs := [1, 8]) (by kernel_rfl) (by simp) ?_
              refine AllReadyH.cons rfl (fun K hK => ?_) ?_
              · go_simp
                refine hK.out _ _ (by (try dsimp only); first | exact hcq | exact hcA | exact hc6) (fun hHeld => ?_)
                clear hK K
                try simp only [Act.put, pA, pB, pC, pD, pE, pF]
                refine wpAnyH_ready (rs := [8]) (by kernel_rfl) (by simp) ?_
                refine AllReadyH.cons rfl (fun K hK => ?_) AllReadyH.nil
                go_simp
                refine hK.out _ _ (by (try dsimp only); first | exact hcq | exact hcA | exact hc6) (fun hHeld => ?_)
                clear hK K
                try simp only [Act.put, pA, pB, pC, pD, pE, pF]
                refine wpAnyH_ready (rs := [9]) (by kernel_rfl) (by simp) ?_
                refine AllReadyH.cons rfl (fun K hK => ?_) AllReadyH.nil
                refine step_cat rfl _ _ _ (by rfl) Tryz.underlying29 info_impl_Punch rfl (by decide) (by rfl) DB.own (by rfl) (m := 1) (BP.sees (s := 2) (Nat.zero_le _) rfl) (by rfl) (by omega) (by omega) (by decide) (Nat.le_of_lt hsw) ?_
                intro A6 c6 w6 o6 h6 b6 q6
                have Bg6 := DB.box.only h6 (fun hb => (DB.far _ hb).2 rfl)
                have pg6 := Bg6.cell
                have fg6 := Bg6.frozen
                have D6 := DB.push (x := ⟨cv, a3⟩) o6 h6 q6
                have hc6 : w6.cell? ⟨b, off + j, none⟩ = some (.int .i64 cv) := (World.cell?_of_block (h6.block b (Nat.lt_of_lt_of_le hbz U4.size) (fun hu => hbP b hu rfl))).trans hcA
                have hc7 : (w6.setCell ⟨gc, 3, none⟩ (.slice A6 (kp + 1) c6)).cell? ⟨b, off + j, none⟩ = some (.int .i64 cv) := (World.cell?_of_block ((only_set (Only.refl (fun u => u = gc) w6) 3 (.slice A6 (kp + 1) c6)).block b (Nat.lt_of_lt_of_le (Nat.lt_of_lt_of_le hbz U4.size) h6.size) (fun (e : b = gc) => by have := D6.nums; omega))).trans hc6
                refine hK.out _ _ (by (try dsimp only); first | exact hcq | exact hcA | exact hc6) (fun hHeld => ?_)
                clear hK K
                try simp only [Act.put, pA, pB, pC, pD, pE, pF]
                refine wpAnyH_take (i := 10) (v := ?_) rfl (by kernel_rfl) (by kernel_rfl) (by kernel_rfl) (fun _ _ _ h => h) (Or.inl ⟨by rfl, ?_⟩) (by assumption) ?_
                rotate_left 1
                · (intro w hSw; (try dsimp only at hSw); go_simp; try with_reducible rfl)
                simp only [Act.put, pA, pB, pC, pD, pE, pF]
                refine wpAnyH_ready (rs := [11]) (by kernel_rfl) (by simp) ?_
                refine AllReadyH.cons rfl (fun K hK => ?_) AllReadyH.nil
                go_simp
                refine hK.out _ _ (by (try dsimp only); exact hc7) (fun hHeld => ?_)
                clear hK K
                try simp only [Act.put, pA, pB, pC, pD, pE, pF]
                refine wpAnyH_done (by kernel_rfl) ?_ _
                go_wp2_with fail
                go_meet
                exact ⟨_, A6, kp + 1, c6, _, by go_num, ⟨by omega, by omega⟩, by omega, D6.more (by omega)⟩
              refine AllReadyH.cons rfl (fun K hK => ?_) AllReadyH.nil
              · go_simp
                refine hK.out _ _ (by (try dsimp only); first | exact hcq | exact hcA | exact hc6) (fun hHeld => ?_)
                clear hK K
                try simp only [Act.put, pA, pB, pC, pD, pE, pF]
                refine wpAnyH_ready (rs := [1]) (by kernel_rfl) (by simp) ?_
                refine AllReadyH.cons rfl (fun K hK => ?_) AllReadyH.nil
                go_simp
                refine hK.out _ _ (by (try dsimp only); first | exact hcq | exact hcA | exact hc6) (fun hHeld => ?_)
                clear hK K
                try simp only [Act.put, pA, pB, pC, pD, pE, pF]
                refine wpAnyH_ready (rs := [9]) (by kernel_rfl) (by simp) ?_
                refine AllReadyH.cons rfl (fun K hK => ?_) AllReadyH.nil
                refine step_cat rfl _ _ _ (by rfl) Tryz.underlying29 info_impl_Punch rfl (by decide) (by rfl) DB.own (by rfl) (m := 1) (BP.sees (s := 2) (Nat.zero_le _) rfl) (by rfl) (by omega) (by omega) (by decide) (Nat.le_of_lt hsw) ?_
                intro A6 c6 w6 o6 h6 b6 q6
                have Bg6 := DB.box.only h6 (fun hb => (DB.far _ hb).2 rfl)
                have pg6 := Bg6.cell
                have fg6 := Bg6.frozen
                have D6 := DB.push (x := ⟨cv, a3⟩) o6 h6 q6
                have hc6 : w6.cell? ⟨b, off + j, none⟩ = some (.int .i64 cv) := (World.cell?_of_block (h6.block b (Nat.lt_of_lt_of_le hbz U4.size) (fun hu => hbP b hu rfl))).trans hcA
                have hc7 : (w6.setCell ⟨gc, 3, none⟩ (.slice A6 (kp + 1) c6)).cell? ⟨b, off + j, none⟩ = some (.int .i64 cv) := (World.cell?_of_block ((only_set (Only.refl (fun u => u = gc) w6) 3 (.slice A6 (kp + 1) c6)).block b (Nat.lt_of_lt_of_le (Nat.lt_of_lt_of_le hbz U4.size) h6.size) (fun (e : b = gc) => by have := D6.nums; omega))).trans hc6
                refine hK.out _ _ (by (try dsimp only); first | exact hcq | exact hcA | exact hc6) (fun hHeld => ?_)
                clear hK K
                try simp only [Act.put, pA, pB, pC, pD, pE, pF]
                refine wpAnyH_take (i := 10) (v := ?_) rfl (by kernel_rfl) (by kernel_rfl) (by kernel_rfl) (fun _ _ _ h => h) (Or.inl ⟨by rfl, ?_⟩) (by assumption) ?_
                rotate_left 1
                · (intro w hSw; (try dsimp only at hSw); go_simp; try with_reducible rfl)
                simp only [Act.put, pA, pB, pC, pD, pE, pF]
                refine wpAnyH_ready (rs := [11]) (by kernel_rfl) (by simp) ?_
                refine AllReadyH.cons rfl (fun K hK => ?_) AllReadyH.nil
                go_simp
                refine hK.out _ _ (by (try dsimp only); exact hc7) (fun hHeld => ?_)
                clear hK K
                try simp only [Act.put, pA, pB, pC, pD, pE, pF]
                refine wpAnyH_done (by kernel_rfl) ?_ _
                go_wp2_with fail
                go_meet
                exact ⟨_, A6, kp + 1, c6, _, by go_num, ⟨by omega, by omega⟩, by omega, D6.more (by omega)⟩
            have e2 : ((r : Int) == 2) = false := beq_eq_false_iff_ne.2 (by omega)
            go_wp2_with fail
            go_meet
            exact ⟨a3, P, kp, cp, ps, rfl, ⟨by omega, by omega⟩, by omega, D4.more (by omega)⟩
          case rest =>
            obtain ⟨a, P, kp, cp, ps, rfl, ⟨ha0, ha1⟩, hkp, D⟩ := hcut
            obtain ⟨w5, rfl⟩ : ∃ w' : World, w' = wc := ⟨_, rfl⟩
            clear D4 hlp hlp1
            have bc := D.box.cell
            by_cases hlp : kp < 12
            · have hlp1 : (kp : Int) < 12 := by omega
              obtain ⟨b, off, rfl, hxk, hcv⟩ := (hx.draw D.only hlo).int hlt
              obtain ⟨cv, hcve⟩ : ∃ cv, cs[j] = cv := ⟨_, rfl⟩
              rw [hcve] at hcv
              have hbz : b < w5.heap.size := by
                rcases Nat.lt_or_ge b w5.heap.size with h5 | h5
                · exact h5
                · simp [World.cell?, Array.getElem?_eq_none h5] at hcv
              have hbw : b < w.heap.size := by
                obtain ⟨b2, o2, e2, -, h5, -⟩ := hx.at' (by omega)
                injection e2 with e2
                injection e2 with e3
                omega
              go_wp2_with fail
              have U4 : Below w5.heap.size w5 (w5.alloc (.cells #[.int .i64 cv, .int .i64 a] 109)).drew := bel_then ((Below.refl _ _).alloc (Nat.le_refl _) _) ((Quiet.one _).below _)
              have BP : Blk (w5.alloc (.cells #[.int .i64 cv, .int .i64 a] 109)).drew w5.heap.size 109 [.int .i64 cv, .int .i64 a] := (show Blk (w5.alloc (.cells #[.int .i64 cv, .int .i64 a] 109)) w5.heap.size 109 [.int .i64 cv, .int .i64 a] from Blk.at_ rfl).next ((Quiet.one _).below _)
              have Dq := D.below ((Quiet.one w5).below _)
              have DB := D.below U4
              have hsw := DB.res.lt
              have pg := Dq.box.cell
              have pgA := DB.box.cell
              have hcq : w5.drew.cell? ⟨b, off + j, none⟩ = some (.int .i64 cv) := hcv
              have hcA : (w5.alloc (.cells #[.int .i64 cv, .int .i64 a] 109)).drew.cell? ⟨b, off + j, none⟩ = some (.int .i64 cv) := (U4.cell (p := ⟨b, off + j, none⟩) hbz).trans hcv
              have hbP : ∀ u, OwnB P u → b ≠ u := fun u hu => by have := (D.far u hu).1; omega
              refine wp_region_held_drew (S := fun w' => w'.cell? ⟨b, off + j, none⟩ = some (.int .i64 cv)) (by kernel_rfl) (by (try dsimp only); first | exact hcq | exact hcA | exact hc6) (fun hHeld => ?_)
              refine wpAnyH_take (i := 0) (v := ?_) rfl (by kernel_rfl) (by kernel_rfl) (by kernel_rfl) (fun _ _ _ h => h) (Or.inl ⟨by rfl, ?_⟩) (by assumption) ?_
              rotate_left 1
              · (intro w hSw; (try dsimp only at hSw); go_simp; try with_reducible rfl)
              simp only [Act.put, pA, pB, pC, pD, pE]
              refine wpAnyH_take (i := 2) (v := ?_) rfl (by kernel_rfl) (by kernel_rfl) (by kernel_rfl) (fun _ _ _ h => h) (Or.inl ⟨by rfl, ?_⟩) (by assumption) ?_
              rotate_left 1
              · (intro w hSw; (try dsimp only at hSw); go_simp; try with_reducible rfl)
              simp only [Act.put, pA, pB, pC, pD, pE, pF]
              refine wpAnyH_take (i := 3) (v := ?_) rfl (by kernel_rfl) (by kernel_rfl) (by kernel_rfl) (fun _ _ _ h => h) (Or.inl ⟨by rfl, ?_⟩) (by assumption) ?_
              rotate_left 1
              · (intro w hSw; (try dsimp only at hSw); go_simp; try with_reducible rfl)
              simp only [Act.put, pA, pB, pC, pD, pE, pF]
              refine wpAnyH_take (i := 4) (v := ?_) rfl (by kernel_rfl) (by kernel_rfl) (by kernel_rfl) (fun _ _ _ h => h) (Or.inl ⟨by rfl, ?_⟩) (by assumption) ?_
              rotate_left 1
              · (intro w hSw; (try dsimp only at hSw); go_simp; try with_reducible rfl)
              simp only [Act.put, pA, pB, pC, pD, pE, pF]
              refine wpAnyH_take (i := 5) (v := ?_) rfl (by kernel_rfl) (by kernel_rfl) (by kernel_rfl) (fun _ _ _ h => h) (Or.inl ⟨by rfl, ?_⟩) (by assumption) ?_
              rotate_left 1
              · (intro w hSw; (try dsimp only at hSw); go_simp; try with_reducible rfl)
              simp only [Act.put, pA, pB, pC, pD, pE, pF]
              refine wpAnyH_take (i := 6) (v := ?_) rfl (by kernel_rfl) (by kernel_rfl) (by kernel_rfl) (fun _ _ _ h => h) (Or.inl ⟨by rfl, ?_⟩) (by assumption) ?_
              rotate_left 1
              · (intro w hSw; (try dsimp only at hSw); go_simp; try with_reducible rfl)
              simp only [Act.put, pA, pB, pC, pD, pE, pF]
              refine wpAnyH_take (i := 7) (v := ?_) rfl (by kernel_rfl) (by kernel_rfl) (by kernel_rfl) (fun _ _ _ h => h) (Or.inl ⟨by rfl, ?_⟩) (by assumption) ?_
              rotate_left 1
              · (intro w hSw; (try dsimp only at hSw); go_simp; try with_reducible rfl)
              simp only [Act.put, pA, pB, pC, pD, pE, pF]
              refine wpAnyH_ready (rs := [1, 8]) (by kernel_rfl) (by simp) ?_
              refine AllReadyH.cons rfl (fun K hK => ?_) ?_
              · go_simp
                refine hK.out _ _ (by (try dsimp only); first | exact hcq | exact hcA | exact hc6) (fun hHeld => ?_)
                clear hK K
                try simp only [Act.put, pA, pB, pC, pD, pE, pF]
                refine wpAnyH_ready (rs := [8]) (by kernel_rfl) (by simp) ?_
                refine AllReadyH.cons rfl (fun K hK => ?_) AllReadyH.nil
                go_simp
                refine hK.out _ _ (by (try dsimp only); first | exact hcq | exact hcA | exact hc6) (fun hHeld => ?_)
                clear hK K
                try simp only [Act.put, pA, pB, pC, pD, pE, pF]
                refine wpAnyH_ready (rs := [9]) (by kernel_rfl) (by simp) ?_
                refine AllReadyH.cons rfl (fun K hK => ?_) AllReadyH.nil
                refine step_cat rfl _ _ _ (by rfl) Tryz.underlying29 info_impl_Punch rfl (by decide) (by rfl) DB.own (by rfl) (m := 1) (BP.sees (s := 2) (Nat.zero_le _) rfl) (by rfl) (by omega) (by omega) (by decide) (Nat.le_of_lt hsw) ?_
                intro A6 c6 w6 o6 h6 b6 q6
                have Bg6 := DB.box.only h6 (fun hb => (DB.far _ hb).2 rfl)
                have pg6 := Bg6.cell
                have fg6 := Bg6.frozen
                have D6 := DB.push (x := ⟨cv, a⟩) o6 h6 q6
                have hc6 : w6.cell? ⟨b, off + j, none⟩ = some (.int .i64 cv) := (World.cell?_of_block (h6.block b (Nat.lt_of_lt_of_le hbz U4.size) (fun hu => hbP b hu rfl))).trans hcA
                have hc7 : (w6.setCell ⟨gc, 3, none⟩ (.slice A6 (kp + 1) c6)).cell? ⟨b, off + j, none⟩ = some (.int .i64 cv) := (World.cell?_of_block ((only_set (Only.refl (fun u => u = gc) w6) 3 (.slice A6 (kp + 1) c6)).block b (Nat.lt_of_lt_of_le (Nat.lt_of_lt_of_le hbz U4.size) h6.size) (fun (e : b = gc) => by have := D6.nums; omega))).trans hc6
                refine hK.out _ _ (by (try dsimp only); first | exact hcq | exact hcA | exact hc6) (fun hHeld => ?_)
                clear hK K
                try simp only [Act.put, pA, pB, pC, pD, pE, pF]
                refine wpAnyH_take (i := 10) (v := ?_) rfl (by kernel_rfl) (by kernel_rfl) (by kernel_rfl) (fun _ _ _ h => h) (Or.inl ⟨by rfl, ?_⟩) (by assumption) ?_
                rotate_left 1
                · (intro w hSw; (try dsimp only at hSw); go_simp; try with_reducible rfl)
                simp only [Act.put, pA, pB, pC, pD, pE, pF]
                refine wpAnyH_ready (rs := [11]) (by kernel_rfl) (by simp) ?_
                refine AllReadyH.cons rfl (fun K hK => ?_) AllReadyH.nil
                go_simp
                refine hK.out _ _ (by (try dsimp only); exact hc7) (fun hHeld => ?_)
                clear hK K
                try simp only [Act.put, pA, pB, pC, pD, pE, pF]
                refine wpAnyH_done (by kernel_rfl) ?_ _
                go_wp2_with fail
                go_roundw
                case rel => exact ⟨a, j + 1, A6, kp + 1, c6, _, rfl, by go_num, ⟨by omega, by omega⟩, by omega, by omega, D6.more (by omega)⟩
                case measure => simp [intOf]; omega
              refine AllReadyH.cons rfl (fun K hK => ?_) AllReadyH.nil
              · go_simp
                refine hK.out _ _ (by (try dsimp only); first | exact hcq | exact hcA | exact hc6) (fun hHeld => ?_)
                clear hK K
                try simp only [Act.put, pA, pB, pC, pD, pE, pF]
                refine wpAnyH_ready (rs := [1]) (by kernel_rfl) (by simp) ?_
                refine AllReadyH.cons rfl (fun K hK => ?_) AllReadyH.nil
                go_simp
                refine hK.out _ _ (by (try dsimp only); first | exact hcq | exact hcA | exact hc6) (fun hHeld => ?_)
                clear hK K
                try simp only [Act.put, pA, pB, pC, pD, pE, pF]
                refine wpAnyH_ready (rs := [9]) (by kernel_rfl) (by simp) ?_
                refine AllReadyH.cons rfl (fun K hK => ?_) AllReadyH.nil
                refine step_cat rfl _ _ _ (by rfl) Tryz.underlying29 info_impl_Punch rfl (by decide) (by rfl) DB.own (by rfl) (m := 1) (BP.sees (s := 2) (Nat.zero_le _) rfl) (by rfl) (by omega) (by omega) (by decide) (Nat.le_of_lt hsw) ?_
                intro A6 c6 w6 o6 h6 b6 q6
                have Bg6 := DB.box.only h6 (fun hb => (DB.far _ hb).2 rfl)
                have pg6 := Bg6.cell
                have fg6 := Bg6.frozen
                have D6 := DB.push (x := ⟨cv, a⟩) o6 h6 q6
                have hc6 : w6.cell? ⟨b, off + j, none⟩ = some (.int .i64 cv) := (World.cell?_of_block (h6.block b (Nat.lt_of_lt_of_le hbz U4.size) (fun hu => hbP b hu rfl))).trans hcA
                have hc7 : (w6.setCell ⟨gc, 3, none⟩ (.slice A6 (kp + 1) c6)).cell? ⟨b, off + j, none⟩ = some (.int .i64 cv) := (World.cell?_of_block ((only_set (Only.refl (fun u => u = gc) w6) 3 (.slice A6 (kp + 1) c6)).block b (Nat.lt_of_lt_of_le (Nat.lt_of_lt_of_le hbz U4.size) h6.size) (fun (e : b = gc) => by have := D6.nums; omega))).trans hc6
                refine hK.out _ _ (by (try dsimp only); first | exact hcq | exact hcA | exact hc6) (fun hHeld => ?_)
                clear hK K
                try simp only [Act.put, pA, pB, pC, pD, pE, pF]
                refine wpAnyH_take (i := 10) (v := ?_) rfl (by kernel_rfl) (by kernel_rfl) (by kernel_rfl) (fun _ _ _ h => h) (Or.inl ⟨by rfl, ?_⟩) (by assumption) ?_
                rotate_left 1
                · (intro w hSw; (try dsimp only at hSw); go_simp; try with_reducible rfl)
                simp only [Act.put, pA, pB, pC, pD, pE, pF]
                refine wpAnyH_ready (rs := [11]) (by kernel_rfl) (by simp) ?_
                refine AllReadyH.cons rfl (fun K hK => ?_) AllReadyH.nil
                go_simp
                refine hK.out _ _ (by (try dsimp only); exact hc7) (fun hHeld => ?_)
                clear hK K
                try simp only [Act.put, pA, pB, pC, pD, pE, pF]
                refine wpAnyH_done (by kernel_rfl) ?_ _
                go_wp2_with fail
                go_roundw
                case rel => exact ⟨a, j + 1, A6, kp + 1, c6, _, rfl, by go_num, ⟨by omega, by omega⟩, by omega, by omega, D6.more (by omega)⟩
                case measure => simp [intOf]; omega
            · have hlp1 : ¬ (kp : Int) < 12 := by omega
              go_wp2_with fail
              go_roundw
              case rel => exact ⟨a, j + 1, P, kp, cp, ps, rfl, by go_num, ⟨by omega, by omega⟩, by omega, by omega, D.more (by omega)⟩
              case measure => simp [intOf]; omega
        · have hlt1 : (j : Int) < (k : Int) := by omega
          have hlp1 : ¬ (kp : Int) < 12 := by omega
          go_wp2_with fail
          go_meet
          exact ⟨a, P, kp, cp, ps, rfl, ⟨by omega, by omega⟩, by omega, D.more (by omega)⟩
      · have hlt1 : ¬ (j : Int) < (k : Int) := by omega
        go_wp2_with fail
        go_meet
        exact ⟨a, P, kp, cp, ps, rfl, ⟨by omega, by omega⟩, by omega, D.more (by omega)⟩
  case rest =>
    clear D
    obtain ⟨a, P, kp, cp, ps, rfl, ⟨ha0, ha1⟩, hkp, D⟩ := hcut
    obtain ⟨w5, rfl⟩ : ∃ w' : World, w' = wc := ⟨_, rfl⟩
    have UA : Below w5.heap.size w5 (w5.alloc (.cells #[.int .i64 0, .int .i64 20, .int .i64 400] 3)) := (Below.refl _ _).alloc (Nat.le_refl _) _
    have BL : Blk (w5.alloc (.cells #[.int .i64 0, .int .i64 20, .int .i64 400] 3)) w5.heap.size 3 (ints [0, 20, 400]) := Blk.at_ rfl
    have DA := D.below UA
    have hgl := D.cur.lt
    go_wp2_with fail
    refine (among_any g _ w5.heap.size 3 3 [0, 20, 400] _ BL (by omega) DA.cur (by omega) rfl (by decide) (by decide)).mono ?_
    rintro e w6 ⟨x, rfl, hxm, c2_, o2_⟩
    have D6 := DA.drawn c2_ o2_
    clear UA BL DA c2_ o2_ hgl
    have hx2 : 0 ≤ x ∧ x ≤ 400 := by simp at hxm; omega
    clear hxm D
    obtain ⟨fin, hfin⟩ : ∃ fin, a + x = fin := ⟨_, rfl⟩
    have hwr : IntKind.i64.wrap (a + x) = fin := by rw [IntWalk.i64_in _ (by omega)]; exact hfin
    have bc := D6.box.cell
    have bf := D6.box.frozen
    have D7 := D6.set 2 (.int .i64 fin) (fin' := fin) (num' := num) (st' := st) rfl
    go_wp2_with fail
    try rw [hfin]
    generalize w6.setCell ⟨gc, 2, none⟩ (.int .i64 fin) = w7 at *
    clear D6 bc bf
    refine (pick_any 24 g _ _ D7.cur (by omega) (by decide) (by decide)).mono ?_
    rintro e w8 ⟨r, rfl, hr, c8, o8⟩
    have D8 := D7.drawn c8 o8
    clear D7 c8 o8 hr hwr hfin hx2
    go_upto_block 3 with fail
    go_cut [] from 89 to 112 (fun wr => ∃ (num st fin : Int), CardD w wr g gc (n + 100) num st fin P kp cp ps)
    case first =>
      have bc := D8.box.cell
      have bf := D8.box.frozen
      by_cases r0 : r = 0 ∨ r = 1
      · have D9 := D8.set 2 (.int .i64 (-1)) (fin' := -1) (num' := num) (st' := st) rfl
        rcases r0 with rfl | rfl
        · go_wp2_with fail
          go_meet
          exact ⟨_, _, _, D9.more (by omega)⟩
        · go_wp2_with fail
          go_meet
          exact ⟨_, _, _, D9.more (by omega)⟩
      have e0 : ((r : Int) == 0) = false := beq_eq_false_iff_ne.2 (by omega)
      have e1 : ((r : Int) == 1) = false := beq_eq_false_iff_ne.2 (by omega)
      clear r0
      by_cases r2 : r = 2
      · subst r2
        clear bc bf
        have UA : Below w8.heap.size w8 (w8.alloc (.cells #[.int .i64 0, .int .i64 10000] 3)) := (Below.refl _ _).alloc (Nat.le_refl _) _
        have BL : Blk (w8.alloc (.cells #[.int .i64 0, .int .i64 10000] 3)) w8.heap.size 3 (ints [0, 10000]) := Blk.at_ rfl
        have DA := D8.below UA
        have hgl := D8.cur.lt
        go_wp2_with fail
        refine (among_any g _ w8.heap.size 2 3 [0, 10000] _ BL (by omega) DA.cur (by omega) rfl (by decide) (by decide)).mono ?_
        rintro e w9 ⟨y, rfl, -, c2_, o2_⟩
        have D9 := DA.drawn c2_ o2_
        clear UA BL DA c2_ o2_ hgl
        have bc := D9.box.cell
        have bf := D9.box.frozen
        have D10 := D9.set 0 (.int .i64 y) (num' := y) (st' := st) (fin' := fin) rfl
        go_wp2_with fail
        go_meet
        exact ⟨_, _, _, D10.more (by omega)⟩
      have e2 : ((r : Int) == 2) = false := beq_eq_false_iff_ne.2 (by omega)
      by_cases r3 : r = 3
      · subst r3
        clear bc bf
        obtain ⟨a1, ha1'⟩ : ∃ a1, a + 1 = a1 := ⟨_, rfl⟩
        have hwr : IntKind.i64.wrap (a + 1) = a1 := by rw [IntWalk.i64_in _ (by omega)]; exact ha1'
        have UA : Below w8.heap.size w8 (w8.alloc (.cells #[.int .i64 (-1), .int .i64 36001, .int .i64 a1, .int .i64 36000] 3)) := (Below.refl _ _).alloc (Nat.le_refl _) _
        have BL : Blk (w8.alloc (.cells #[.int .i64 (-1), .int .i64 36001, .int .i64 a1, .int .i64 36000] 3)) w8.heap.size 3 (ints [-1, 36001, a1, 36000]) := Blk.at_ rfl
        have DA := D8.below UA
        have hgl := D8.cur.lt
        go_wp2_with fail
        try rw [ha1']
        refine (among_any g _ w8.heap.size 4 3 [-1, 36001, a1, 36000] _ BL (by omega) DA.cur (by omega) rfl (by decide) (by decide)).mono ?_
        rintro e w9 ⟨y, rfl, -, c2_, o2_⟩
        have D9 := DA.drawn c2_ o2_
        clear UA BL DA c2_ o2_ hgl
        have bc := D9.box.cell
        have bf := D9.box.frozen
        have D10 := D9.set 1 (.int .i64 y) (num' := num) (st' := y) (fin' := fin) rfl
        go_wp2_with fail
        go_meet
        exact ⟨_, _, _, D10.more (by omega)⟩
      have e3 : ((r : Int) == 3) = false := beq_eq_false_iff_ne.2 (by omega)
      by_cases r4 : r = 4
      · subst r4
        obtain ⟨s1, hs1⟩ : ∃ s1, st - 1 = s1 := ⟨_, rfl⟩
        have hwr : IntKind.i64.wrap (st - 1) = s1 := by rw [IntWalk.i64_in _ (by omega)]; exact hs1
        have D10 := D8.set 2 (.int .i64 s1) (num' := num) (st' := st) (fin' := s1) rfl
        go_wp2_with fail
        try rw [hs1]
        go_meet
        exact ⟨_, _, _, D10.more (by omega)⟩
      have e4 : ((r : Int) == 4) = false := beq_eq_false_iff_ne.2 (by omega)
      go_wp2_with fail
      go_meet
      exact ⟨_, _, _, D8.more (by omega)⟩
    case rest =>
      obtain ⟨num, st, fin, D⟩ := hcut
      obtain ⟨w10, rfl⟩ : ∃ w' : World, w' = wc := ⟨_, rfl⟩
      clear D8
      have bc := D.box.cell
      have rf := D.res.frozen
      have rc := D.res.cell
      have hne : gc ≠ w.heap.size := by have := D.nums; omega
      go_wp2_with fail
      refine bodyPost_ret (v := .agg #[.int .i64 num, .int .i64 st, .int .i64 fin, .slice P kp cp]) (by simp [results, Tryz.results105, go_sem, rc]) rfl ?_
      exact D.done hkp (Nat.le_refl _)

end Go.Proofs.YtkimlajfhepfgaaGreat

namespace Go.Proofs.YtkimlajfhepfgaaGreat
open Go.Shelf
def sh_lays189_ren : Go.Shelf.Ren := ⟨fun | 189 => 67 | 125 => 102 | 257 => 104 | 128 => 120 | 129 => 121 | 294 => 122 | 295 => 123 | 296 => 124 | 297 => 125 | 298 => 126 | 299 => 127 | 216 => 128 | 300 => 129 | 301 => 130 | 328 => 138 | 329 => 134 | 330 => 135 | 331 => 139 | 332 => 140 | 215 => 103 | 343 => 142 | n => n, fun | 28 => 24 | 3 => 3 | 46 => 106 | 0 => 0 | 51 => 122 | 53 => 57 | 4 => 4 | 183 => 115 | 182 => 114 | 131 => 119 | 5 => 5 | 9 => 9 | 218 => 131 | 222 => 135 | 228 => 139 | 229 => 140 | n => n, fun | n => n⟩
theorem sh_lays189 : Go.Proofs.Lays.n189 Tryz.prog sh_lays189_ren := {
  mixed := by kernel_rfl
  f125 := Tryz.func102.trans (congrArg some (by kernel_rfl))
  f128 := Tryz.func120.trans (congrArg some (by kernel_rfl))
  f129 := Tryz.func121.trans (congrArg some (by kernel_rfl))
  f189 := Tryz.func67.trans (congrArg some (by kernel_rfl))
  f215 := Tryz.func103.trans (congrArg some (by kernel_rfl))
  f216 := Tryz.func128.trans (congrArg some (by kernel_rfl))
  f257 := Tryz.func104.trans (congrArg some (by kernel_rfl))
  f294 := Tryz.func122.trans (congrArg some (by kernel_rfl))
  f295 := Tryz.func123.trans (congrArg some (by kernel_rfl))
  f296 := Tryz.func124.trans (congrArg some (by kernel_rfl))
  f297 := Tryz.func125.trans (congrArg some (by kernel_rfl))
  f298 := Tryz.func126.trans (congrArg some (by kernel_rfl))
  f299 := Tryz.func127.trans (congrArg some (by kernel_rfl))
  f300 := Tryz.func129.trans (congrArg some (by kernel_rfl))
  f301 := Tryz.func130.trans (congrArg some (by kernel_rfl))
  f328 := Tryz.func138.trans (congrArg some (by kernel_rfl))
  f329 := Tryz.func134.trans (congrArg some (by kernel_rfl))
  f330 := Tryz.func135.trans (congrArg some (by kernel_rfl))
  f331 := Tryz.func139.trans (congrArg some (by kernel_rfl))
  f332 := Tryz.func140.trans (congrArg some (by kernel_rfl))
  f343 := Tryz.func142.trans (congrArg some (by kernel_rfl))
  t0 := Tryz.underlying0
  a0 := Tryz.isAgg0
  z0 := Tryz.sizeOf0
  v0 := Tryz.zeroValue0
  t3 := Tryz.underlying3
  a3 := Tryz.isAgg3
  z3 := Tryz.sizeOf3
  v3 := Tryz.zeroValue3
  t4 := Tryz.underlying4
  a4 := Tryz.isAgg4
  z4 := Tryz.sizeOf4
  v4 := Tryz.zeroValue4
  t5 := Tryz.underlying5
  a5 := Tryz.isAgg5
  z5 := Tryz.sizeOf5
  v5 := Tryz.zeroValue5
  t9 := Tryz.underlying9
  a9 := Tryz.isAgg9
  z9 := Tryz.sizeOf9
  v9 := Tryz.zeroValue9
  t28 := Tryz.underlying24
  a28 := Tryz.isAgg24
  z28 := Tryz.sizeOf24
  v28 := Tryz.zeroValue24
  t46 := Tryz.underlying106
  a46 := Tryz.isAgg106
  z46 := Tryz.sizeOf106
  v46 := Tryz.zeroValue106
  t51 := Tryz.underlying122
  a51 := Tryz.isAgg122
  z51 := Tryz.sizeOf122
  v51 := Tryz.zeroValue122
  t53 := Tryz.underlying57
  a53 := Tryz.isAgg57
  z53 := Tryz.sizeOf57
  v53 := Tryz.zeroValue57
  t131 := Tryz.underlying119
  a131 := Tryz.isAgg119
  z131 := Tryz.sizeOf119
  v131 := Tryz.zeroValue119
  t182 := Tryz.underlying114
  a182 := Tryz.isAgg114
  z182 := Tryz.sizeOf114
  v182 := Tryz.zeroValue114
  t183 := Tryz.underlying115
  a183 := Tryz.isAgg115
  z183 := Tryz.sizeOf115
  v183 := Tryz.zeroValue115
  t218 := Tryz.underlying131
  a218 := Tryz.isAgg131
  z218 := Tryz.sizeOf131
  v218 := Tryz.zeroValue131
  t222 := Tryz.underlying135
  a222 := Tryz.isAgg135
  z222 := Tryz.sizeOf135
  v222 := Tryz.zeroValue135
  t228 := Tryz.underlying139
  a228 := Tryz.isAgg139
  z228 := Tryz.sizeOf139
  v228 := Tryz.zeroValue139
  t229 := Tryz.underlying140
  a229 := Tryz.isAgg140
  z229 := Tryz.sizeOf140
  v229 := Tryz.zeroValue140 }
open Go.Sort Go.RowKit in
theorem sh_slices_Sort_int (blk off cap : Nat) (zs : List Int) (w : World) (hH : Holds (Value.int .i64) w blk off zs.toArray) (hblk : blk < w.heap.size) (hsz : zs.length < 4611686018427387904) :
    Calls Tryz.prog 67 #[.slice (some ⟨blk, off, none⟩) zs.length cap] w fun e w' =>
      e = .returned (.tuple #[]) ∧ ∃ n os, w' = grow (putRow (Value.int .i64) (Sort.ahead w n) blk off (zs.mergeSort fun x y => decide (x ≤ y)).toArray) os := Any.slices_Sort_int sh_lays189 blk off cap zs w hH hblk hsz
open Go.RowKit Go.Lib Go.Sort in
open Go.RowKit Go.Lib Go.Sort in
open Go.RowKit Go.Lib Go.Sort in
open Go.RowKit Go.Lib Go.Sort in
open Go.RowKit Go.Sort in
theorem sh_slices_Sort_int_none (p : Option Addr) (cap : Nat) (w : World) :
    Calls Tryz.prog 67 #[.slice p 0 cap] w fun e w' => e = .returned (.tuple #[]) ∧ w' = w := Any.slices_Sort_int_none sh_lays189 p cap w
end Go.Proofs.YtkimlajfhepfgaaGreat
