/- Joined texts of this proof: DeskI, DeskG, Wait, Rank, NewD, DeskW, DrwDk. -/
import Derived.Test.YtkimlajfhepfgaaGreatP02
import Derived.Test.YtkimlajfhepfgaaGreatP01
namespace Go.Proofs.YtkimlajfhepfgaaGreat
open Go.RowKit

set_option maxRecDepth 100000 in
set_option maxHeartbeats 4000000 in
theorem IsDesk_any (h : DeskH) (d : DeskV) (w : World) (hs : SeesDesk w 0 h d) (hn : DeskFit 1048576 h d) (hcap : h.n3 ≤ h.c3) :
  Calls Tryz.prog 10 #[.agg #[.slice h.A0 h.n0 h.c0, .slice h.A1 h.n1 h.c1, .slice h.A2 h.n2 h.c2, .slice h.A3 h.n3 h.c3, .slice h.A4 h.n4 h.c4]] w fun e w' => e = .returned (.bool (deskB d)) ∧ Below w.heap.size w w' := by
 obtain ⟨A0, n0, c0, A1, n1, c1, A2, n2, c2, A3, n3, c3, A4, n4, c4⟩ := h
 obtain ⟨s0, s1, s2, s3, s4⟩ := hs
 obtain ⟨ft0, ft1, ft2, fx2, ft3, ft4, fx4⟩ := hn
 dsimp only at *
 have l1 := s1.icount
 have l2 := s2.count
 have l3 := s3.count (by decide) (fun _ => rfl)
 have l4 := s4.count
 have KB : Below w.heap.size w (w.alloc (.cells #[.slice A0 n0 c0, .slice A1 n1 c1, .slice A2 n2 c2, .slice A3 n3 c3, .slice A4 n4 c4] 28)) := (Below.refl _ _).alloc (Nat.le_refl _) _
 have PB : Blk (w.alloc (.cells #[.slice A0 n0 c0, .slice A1 n1 c1, .slice A2 n2 c2, .slice A3 n3 c3, .slice A4 n4 c4] 28)) w.heap.size 28 [.slice A0 n0 c0, .slice A1 n1 c1, .slice A2 n2 c2, .slice A3 n3 c3, .slice A4 n4 c4] := Blk.at_ rfl
 go_enter Tryz.func10, Tryz.ntmps10
 go_wp2_with fail
 generalize (w.alloc (.cells #[.slice A0 n0 c0, .slice A1 n1 c1, .slice A2 n2 c2, .slice A3 n3 c3, .slice A4 n4 c4] 28)) = w0 at *
 have pc := PB.cell
 refine (areCodes_any _ _ _ d.codes _ (s0.next KB) ft0).mono ?_
 cases gcodes : codesB d.codes
 ·have HF := Lib.hid (show deskB d = false from topB_not (by simp [topB, gcodes]))
  rintro e wn ⟨rfl, bn⟩
  replace KB := bel_then KB bn
  replace PB := PB.next bn
  clear pc bn
  have pc := PB.cell
  go_wp2_with fail
  go_ret
  exact ⟨ret_bool HF.out.symm, KB⟩
 ·rintro e wn ⟨rfl, bn⟩
  replace KB := bel_then KB bn
  replace PB := PB.next bn
  clear pc bn
  have pc := PB.cell
  by_cases glen : n1 ≤ 8
  ·go_wp2_with fail
   refine (ascending_any _ _ _ d.known 1 9999 _ (s1.next KB) ft1).mono ?_
   cases gris : risingB 1 9999 d.known
   ·have HF := Lib.hid (show deskB d = false from topB_not (by simp [topB, gris]))
    rintro e wn ⟨rfl, qn⟩
    replace KB := bel_quiet KB qn
    replace PB := PB.quiet qn
    clear pc qn
    have pc := PB.cell
    go_wp2_with fail
    go_ret
    exact ⟨ret_bool HF.out.symm, KB⟩
   ·rintro e wn ⟨rfl, qn⟩
    replace KB := bel_quiet KB qn
    replace PB := PB.quiet qn
    clear pc qn
    have pc := PB.cell
    go_wp2_with fail
    refine (areFinished_any _ _ _ d.queue _ (s2.next KB) ft2 fx2).mono ?_
    cases gq : d.queue.all finB
    ·have HF := Lib.hid (show deskB d = false from topB_not (by simp [topB, gq]))
     rintro e wn ⟨rfl, bn⟩
     replace KB := bel_then KB bn
     replace PB := PB.next bn
     clear pc bn
     have pc := PB.cell
     go_wp2_with fail
     go_ret
     exact ⟨ret_bool HF.out.symm, KB⟩
    ·rintro e wn ⟨rfl, bn⟩
     replace KB := bel_then KB bn
     replace PB := PB.next bn
     clear pc bn
     have pc := PB.cell
     go_wp2_with fail
     refine (areFinished_any _ _ _ d.trouble _ (s4.next KB) ft4 fx4).mono ?_
     cases gt : d.trouble.all finB
     ·have HF := Lib.hid (show deskB d = false from topB_not (by simp [topB, gt]))
      rintro e wn ⟨rfl, bn⟩
      replace KB := bel_then KB bn
      replace PB := PB.next bn
      clear pc bn
      have pc := PB.cell
      go_wp2_with fail
      go_ret
      exact ⟨ret_bool HF.out.symm, KB⟩
     ·rintro e wn ⟨rfl, bn⟩
      replace KB := bel_then KB bn
      replace PB := PB.next bn
      clear pc bn
      have pc := PB.cell
      have HC := Lib.hid (show deskB d = (decide (n2 + n3 + n4 ≤ 10) && allTo n3 (rowAt d)) by simp [deskB, topB, l1, l2, l3, l4, gcodes, glen, gris, gq, gt])
      clear gcodes gris gq gt pc
      have pc := PB.cell
      go_wp2_with fail
      clear pc glen
      go_loopw [36] (fun i wr => ∃ k : Nat, k ≤ n3 ∧ i = .int .i64 k ∧ Hid (allTo k (rowAt d) = true) ∧ Blk wr w.heap.size 28 [.slice A0 n0 c0, .slice A1 n1 c1, .slice A2 n2 c2, .slice A3 n3 c3, .slice A4 n4 c4] ∧ Below w.heap.size w wr) (fun i _ => n3 - (intOf i).toNat)
      case atStart => exact ⟨0, Nat.zero_le _, rfl, Lib.hid rfl, PB, KB⟩
      case round =>
       obtain ⟨k, hk, rfl, HA, PB, hb⟩ := hrel
       have pc := PB.cell
       by_cases hlt : k < n3
       ·have s3' := SeesFlat.take s3 (by decide) (fun _ => rfl) k (by omega)
        obtain ⟨b, off, rfl, hkx, x0, x1, x2⟩ := (s3.next hb).elem3 (fun _ => rfl) hlt
        replace s3 := s3'
        clear s3'
        have hkc : k ≤ c3 := by omega
        have HO := Lib.hid (rowAt_at hkx)
        obtain ⟨r, hr⟩ : ∃ r, d.done[k] = r := ⟨_, rfl⟩
        rw [hr] at HO x0 x1 x2
        clear hr
        have hblt : b < wr.heap.size := World.block_lt_of_cell? wr _ x0
        have hbm := PB.lt
        go_wp2_with fail
        have RB0 : Blk (wr.alloc (.cells #[.int .i64 r.number, .int .i64 r.missing, .int .i64 r.time] 41)) wr.heap.size 41 [.int .i64 r.number, .int .i64 r.missing, .int .i64 r.time] := Blk.at_ rfl
        have PB0 := PB.alloc (.cells #[.int .i64 r.number, .int .i64 r.missing, .int .i64 r.time] 41)
        have K2 : Below w.heap.size w (wr.alloc (.cells #[.int .i64 r.number, .int .i64 r.missing, .int .i64 r.time] 41)) := hb.alloc hb.size _
        generalize wr.heap.size = ga at *
        generalize wr.alloc (.cells #[.int .i64 r.number, .int .i64 r.missing, .int .i64 r.time] 41) = w2 at *
        clear x0 x1 x2 pc PB
        have q3 := Quiet.one w2
        have K3 := bel_quiet K2 q3
        have PB3 := PB0.quiet q3
        have RB3 := RB0.quiet q3
        have pc3 := PB3.cell
        have rc3 := RB3.cell
        clear K2 PB0 RB0 q3 hb hblt hbm
        obtain ⟨w3, hw3⟩ : ∃ w3, w2.drew = w3 := ⟨_, rfl⟩
        rw [hw3] at K3 PB3 RB3 pc3 rc3
        subst hw3
        cases g1 : hasI d.known r.number
        ·have HR := Lib.hid (show deskB d = false by rw [HC.out, Bool.and_eq_false_iff]; right; exact allTo_false hlt (HO.out.trans (by simp [rowB, g1])))
         refine wp_region_held_drew (S := fun w' => w'.cell? ⟨w.heap.size, 1, none⟩ = some (.slice A1 n1 c1) ∧ w'.cell? ⟨w.heap.size, 3, none⟩ = some (.slice (some ⟨b, off, none⟩) n3 c3) ∧ w'.cell? ⟨ga, 0, none⟩ = some (.int .i64 r.number) ∧ w'.cell? ⟨ga, 1, none⟩ = some (.int .i64 r.missing) ∧ w'.cell? ⟨ga, 2, none⟩ = some (.int .i64 r.time)) (by kernel_rfl) (by (try dsimp only); go_keep) (fun hH => ?_)
         refine wT (i := 0) (v := ?_) rfl (by kernel_rfl) (by kernel_rfl) (by kernel_rfl) (fun _ _ _ h => h) (Or.inl ⟨by rfl, ?_⟩) (by assumption) ?_
         rotate_left 1
         ·(intro w hS; (try dsimp only at hS); go_simp; try with_reducible rfl)
         simp only [Act.put, pX]
         refine wT (i := 1) (v := ?_) rfl (by kernel_rfl) (by kernel_rfl) (by kernel_rfl) (fun _ _ _ h => h) (Or.inl ⟨by rfl, ?_⟩) (by assumption) ?_
         rotate_left 1
         ·(intro w hS; (try dsimp only at hS); go_simp; try with_reducible rfl)
         simp only [Act.put, pX]
         refine wT (i := 2) (v := ?_) rfl (by kernel_rfl) (by kernel_rfl) (by kernel_rfl) (fun _ _ _ h => h) (Or.inl ⟨by rfl, ?_⟩) (by assumption) ?_
         rotate_left 1
         ·(intro w hS; (try dsimp only at hS); go_simp; try with_reducible rfl)
         simp only [Act.put, pX]
         refine wT (i := 3) (v := ?_) rfl (by kernel_rfl) (by kernel_rfl) (by kernel_rfl) (fun _ _ _ h => h) (Or.inl ⟨by rfl, ?_⟩) (by assumption) ?_
         rotate_left 1
         ·(intro w hS; (try dsimp only at hS); go_simp; try with_reducible rfl)
         simp only [Act.put, pX]
         refine wR (rs := [4]) (by kernel_rfl) (by simp) ?_
         refine aC rfl (fun K hK => ?_) aN
         go_simp
         refine (Contains_has _ _ _ d.known r.number _ (s1.next K3) (by omega)).mono ?_
         rw [g1]
         rintro e w4 ⟨rfl, q4⟩
         have b4 := q4.below w2.drew.heap.size
         have K4 := bel_then K3 b4
         have PB4 := PB3.next b4
         have RB4 := RB3.next b4
         have pc4 := PB4.cell
         have rc4 := RB4.cell
         clear pc3 rc3

         go_wp2_with fail
         refine hK.out _ _ (by (try dsimp only); go_keep) (fun hH => ?_)
         clear hK K
         refine wT (i := 5) (v := ?_) rfl (by kernel_rfl) (by kernel_rfl) (by kernel_rfl) (fun _ _ _ h => h) (Or.inl ⟨by rfl, ?_⟩) (by assumption) ?_
         rotate_left 1
         ·(intro w hS; (try dsimp only at hS); go_simp; try with_reducible rfl)
         simp only [Act.put, pX]
         refine wT (i := 6) (v := ?_) rfl (by kernel_rfl) (by kernel_rfl) (by kernel_rfl) (fun _ _ _ h => h) (Or.inl ⟨by rfl, ?_⟩) (by assumption) ?_
         rotate_left 1
         ·(intro w hS; (try dsimp only at hS); go_simp; try with_reducible rfl)
         simp only [Act.put, pX]
         refine wT (i := 7) (v := undef) rfl (by kernel_rfl) (by kernel_rfl) (by kernel_rfl) (fun _ _ _ h => h) (Or.inr ⟨by rfl, rfl⟩) (by assumption) ?_
         simp only [Act.put, pX]
         refine wT (i := 8) (v := undef) rfl (by kernel_rfl) (by kernel_rfl) (by kernel_rfl) (fun _ _ _ h => h) (Or.inr ⟨by rfl, rfl⟩) (by assumption) ?_
         simp only [Act.put, pX]
         refine wT (i := 9) (v := undef) rfl (by kernel_rfl) (by kernel_rfl) (by kernel_rfl) (fun _ _ _ h => h) (Or.inr ⟨by rfl, rfl⟩) (by assumption) ?_
         simp only [Act.put, pX]
         refine wT (i := 10) (v := undef) rfl (by kernel_rfl) (by kernel_rfl) (by kernel_rfl) (fun _ _ _ h => h) (Or.inr ⟨by rfl, rfl⟩) (by assumption) ?_
         simp only [Act.put, pX]
         refine wT (i := 11) (v := undef) rfl (by kernel_rfl) (by kernel_rfl) (by kernel_rfl) (fun _ _ _ h => h) (Or.inr ⟨by rfl, rfl⟩) (by assumption) ?_
         simp only [Act.put, pX]
         refine wT (i := 12) (v := undef) rfl (by kernel_rfl) (by kernel_rfl) (by kernel_rfl) (fun _ _ _ h => h) (Or.inr ⟨by rfl, rfl⟩) (by assumption) ?_
         simp only [Act.put, pX]
         refine wT (i := 13) (v := undef) rfl (by kernel_rfl) (by kernel_rfl) (by kernel_rfl) (fun _ _ _ h => h) (Or.inr ⟨by rfl, rfl⟩) (by assumption) ?_
         simp only [Act.put, pX]
         refine wT (i := 14) (v := ?_) rfl (by kernel_rfl) (by kernel_rfl) (by kernel_rfl) (fun _ _ _ h => h) (Or.inl ⟨by rfl, ?_⟩) (by assumption) ?_
         rotate_left 1
         ·(intro w hS; (try dsimp only at hS); go_simp; try with_reducible rfl)
         simp only [Act.put, pX]
         refine wT (i := 15) (v := ?_) rfl (by kernel_rfl) (by kernel_rfl) (by kernel_rfl) (fun _ _ _ h => h) (Or.inl ⟨by rfl, ?_⟩) (by assumption) ?_
         rotate_left 1
         ·(intro w hS; (try dsimp only at hS); go_simp; try with_reducible rfl)
         simp only [Act.put, pX]
         refine wT (i := 16) (v := undef) rfl (by kernel_rfl) (by kernel_rfl) (by kernel_rfl) (fun _ _ _ h => h) (Or.inr ⟨by rfl, rfl⟩) (by assumption) ?_
         simp only [Act.put, pX]
         refine wT (i := 17) (v := undef) rfl (by kernel_rfl) (by kernel_rfl) (by kernel_rfl) (fun _ _ _ h => h) (Or.inr ⟨by rfl, rfl⟩) (by assumption) ?_
         simp only [Act.put, pX]
         refine wT (i := 18) (v := undef) rfl (by kernel_rfl) (by kernel_rfl) (by kernel_rfl) (fun _ _ _ h => h) (Or.inr ⟨by rfl, rfl⟩) (by assumption) ?_
         simp only [Act.put, pX]
         refine wT (i := 19) (v := undef) rfl (by kernel_rfl) (by kernel_rfl) (by kernel_rfl) (fun _ _ _ h => h) (Or.inr ⟨by rfl, rfl⟩) (by assumption) ?_
         simp only [Act.put, pX]
         refine wT (i := 20) (v := ?_) rfl (by kernel_rfl) (by kernel_rfl) (by kernel_rfl) (fun _ _ _ h => h) (Or.inl ⟨by rfl, ?_⟩) (by assumption) ?_
         rotate_left 1
         ·(intro w hS; (try dsimp only at hS); go_simp; try with_reducible rfl)
         simp only [Act.put, pX]
         refine wT (i := 21) (v := ?_) rfl (by kernel_rfl) (by kernel_rfl) (by kernel_rfl) (fun _ _ _ h => h) (Or.inl ⟨by rfl, ?_⟩) (by assumption) ?_
         rotate_left 1
         ·(intro w hS; (try dsimp only at hS); go_simp; try with_reducible rfl)
         simp only [Act.put, pX]
         refine wT (i := 22) (v := undef) rfl (by kernel_rfl) (by kernel_rfl) (by kernel_rfl) (fun _ _ _ h => h) (Or.inr ⟨by rfl, rfl⟩) (by assumption) ?_
         simp only [Act.put, pX]
         refine wT (i := 23) (v := undef) rfl (by kernel_rfl) (by kernel_rfl) (by kernel_rfl) (fun _ _ _ h => h) (Or.inr ⟨by rfl, rfl⟩) (by assumption) ?_
         simp only [Act.put, pX]
         refine wT (i := 24) (v := undef) rfl (by kernel_rfl) (by kernel_rfl) (by kernel_rfl) (fun _ _ _ h => h) (Or.inr ⟨by rfl, rfl⟩) (by assumption) ?_
         simp only [Act.put, pX]
         refine wT (i := 25) (v := undef) rfl (by kernel_rfl) (by kernel_rfl) (by kernel_rfl) (fun _ _ _ h => h) (Or.inr ⟨by rfl, rfl⟩) (by assumption) ?_
         simp only [Act.put, pX]
         refine wT (i := 26) (v := ?_) rfl (by kernel_rfl) (by kernel_rfl) (by kernel_rfl) (fun _ _ _ h => h) (Or.inl ⟨by rfl, ?_⟩) (by assumption) ?_
         rotate_left 1
         ·(intro w hS; (try dsimp only at hS); go_simp; try with_reducible rfl)
         simp only [Act.put, pX]
         refine wD (by kernel_rfl) ?_ _
         go_wp2_with fail
         go_ret
         exact ⟨ret_bool HR.out.symm, K4⟩
        ·cases g2 : doneB (d.done.take k) r.number
         ·cases g3 : inB r.missing 0 12
          ·have HR := Lib.hid (show deskB d = false by rw [HC.out, Bool.and_eq_false_iff]; right; exact allTo_false hlt (HO.out.trans (by simp [rowB, g1, g2, g3])))
           refine wp_region_held_drew (S := fun w' => w'.cell? ⟨w.heap.size, 1, none⟩ = some (.slice A1 n1 c1) ∧ w'.cell? ⟨w.heap.size, 3, none⟩ = some (.slice (some ⟨b, off, none⟩) n3 c3) ∧ w'.cell? ⟨ga, 0, none⟩ = some (.int .i64 r.number) ∧ w'.cell? ⟨ga, 1, none⟩ = some (.int .i64 r.missing) ∧ w'.cell? ⟨ga, 2, none⟩ = some (.int .i64 r.time)) (by kernel_rfl) (by (try dsimp only); go_keep) (fun hH => ?_)
           refine wT (i := 0) (v := ?_) rfl (by kernel_rfl) (by kernel_rfl) (by kernel_rfl) (fun _ _ _ h => h) (Or.inl ⟨by rfl, ?_⟩) (by assumption) ?_
           rotate_left 1
           ·(intro w hS; (try dsimp only at hS); go_simp; try with_reducible rfl)
           simp only [Act.put, pX]
           refine wT (i := 1) (v := ?_) rfl (by kernel_rfl) (by kernel_rfl) (by kernel_rfl) (fun _ _ _ h => h) (Or.inl ⟨by rfl, ?_⟩) (by assumption) ?_
           rotate_left 1
           ·(intro w hS; (try dsimp only at hS); go_simp; try with_reducible rfl)
           simp only [Act.put, pX]
           refine wT (i := 2) (v := ?_) rfl (by kernel_rfl) (by kernel_rfl) (by kernel_rfl) (fun _ _ _ h => h) (Or.inl ⟨by rfl, ?_⟩) (by assumption) ?_
           rotate_left 1
           ·(intro w hS; (try dsimp only at hS); go_simp; try with_reducible rfl)
           simp only [Act.put, pX]
           refine wT (i := 3) (v := ?_) rfl (by kernel_rfl) (by kernel_rfl) (by kernel_rfl) (fun _ _ _ h => h) (Or.inl ⟨by rfl, ?_⟩) (by assumption) ?_
           rotate_left 1
           ·(intro w hS; (try dsimp only at hS); go_simp; try with_reducible rfl)
           simp only [Act.put, pX]
           refine wR (rs := [4]) (by kernel_rfl) (by simp) ?_
           refine aC rfl (fun K hK => ?_) aN
           go_simp
           refine (Contains_has _ _ _ d.known r.number _ (s1.next K3) (by omega)).mono ?_
           rw [g1]
           rintro e w4 ⟨rfl, q4⟩
           have b4 := q4.below w2.drew.heap.size
           have K4 := bel_then K3 b4
           have PB4 := PB3.next b4
           have RB4 := RB3.next b4
           have pc4 := PB4.cell
           have rc4 := RB4.cell
           clear pc3 rc3

           go_wp2_with fail
           refine hK.out _ _ (by (try dsimp only); go_keep) (fun hH => ?_)
           clear hK K
           refine wT (i := 5) (v := ?_) rfl (by kernel_rfl) (by kernel_rfl) (by kernel_rfl) (fun _ _ _ h => h) (Or.inl ⟨by rfl, ?_⟩) (by assumption) ?_
           rotate_left 1
           ·(intro w hS; (try dsimp only at hS); go_simp; try with_reducible rfl)
           simp only [Act.put, pX]
           refine wT (i := 6) (v := ?_) rfl (by kernel_rfl) (by kernel_rfl) (by kernel_rfl) (fun _ _ _ h => h) (Or.inl ⟨by rfl, ?_⟩) (by assumption) ?_
           rotate_left 1
           ·(intro w hS; (try dsimp only at hS); go_simp; try with_reducible rfl)
           simp only [Act.put, pX]
           refine wT (i := 7) (v := ?_) rfl (by kernel_rfl) (by kernel_rfl) (by kernel_rfl) (fun _ _ _ h => h) (Or.inl ⟨by rfl, ?_⟩) (by assumption) ?_
           rotate_left 1
           ·(intro w hS; (try dsimp only at hS); go_simp; try with_reducible rfl)
           simp only [Act.put, pX]
           refine wT (i := 8) (v := ?_) rfl (by kernel_rfl) (by kernel_rfl) (by kernel_rfl) (fun _ _ _ h => h) (Or.inl ⟨by rfl, ?_⟩) (by assumption) ?_
           rotate_left 1
           ·(intro w hS; (try dsimp only at hS); go_simp; try with_reducible rfl)
           simp only [Act.put, pX]
           refine wT (i := 9) (v := ?_) rfl (by kernel_rfl) (by kernel_rfl) (by kernel_rfl) (fun _ _ _ h => h) (Or.inl ⟨by rfl, ?_⟩) (by assumption) ?_
           rotate_left 1
           ·(intro w hS; (try dsimp only at hS); go_simp; try with_reducible rfl)
           simp only [Act.put, pX]
           refine wT (i := 10) (v := ?_) rfl (by kernel_rfl) (by kernel_rfl) (by kernel_rfl) (fun _ _ _ h => h) (Or.inl ⟨by rfl, ?_⟩) (by assumption) ?_
           rotate_left 1
           ·(intro w hS; (try dsimp only at hS); go_simp; try with_reducible rfl)
           simp only [Act.put, pX]
           refine wT (i := 11) (v := ?_) rfl (by kernel_rfl) (by kernel_rfl) (by kernel_rfl) (fun _ _ _ h => h) (Or.inl ⟨by rfl, ?_⟩) (by assumption) ?_
           rotate_left 1
           ·(intro w hS; (try dsimp only at hS); go_simp; try with_reducible rfl)
           simp only [Act.put, pX]
           refine wT (i := 12) (v := ?_) rfl (by kernel_rfl) (by kernel_rfl) (by kernel_rfl) (fun _ _ _ h => h) (Or.inl ⟨by rfl, ?_⟩) (by assumption) ?_
           rotate_left 1
           ·(intro w hS; (try dsimp only at hS); go_simp; try with_reducible rfl)
           simp only [Act.put, pX]
           refine wR (rs := [13]) (by kernel_rfl) (by simp) ?_
           refine aC rfl (fun K hK => ?_) aN
           go_simp
           refine (isDone_any _ _ c3 (d.done.take k) r.number _ (s3.next K4) (by omega)).mono ?_
           rw [g2]
           rintro e w5 ⟨rfl, b5⟩
           have K5 := bel_then K4 b5
           have PB5 := PB4.next b5
           have RB5 := RB4.next b5
           have pc5 := PB5.cell
           have rc5 := RB5.cell
           clear pc4 rc4

           go_wp2_with fail
           refine hK.out _ _ (by (try dsimp only); go_keep) (fun hH => ?_)
           clear hK K
           refine wT (i := 14) (v := ?_) rfl (by kernel_rfl) (by kernel_rfl) (by kernel_rfl) (fun _ _ _ h => h) (Or.inl ⟨by rfl, ?_⟩) (by assumption) ?_
           rotate_left 1
           ·(intro w hS; (try dsimp only at hS); go_simp; try with_reducible rfl)
           simp only [Act.put, pX]
           refine wT (i := 15) (v := ?_) rfl (by kernel_rfl) (by kernel_rfl) (by kernel_rfl) (fun _ _ _ h => h) (Or.inl ⟨by rfl, ?_⟩) (by assumption) ?_
           rotate_left 1
           ·(intro w hS; (try dsimp only at hS); go_simp; try with_reducible rfl)
           simp only [Act.put, pX]
           refine wT (i := 16) (v := ?_) rfl (by kernel_rfl) (by kernel_rfl) (by kernel_rfl) (fun _ _ _ h => h) (Or.inl ⟨by rfl, ?_⟩) (by assumption) ?_
           rotate_left 1
           ·(intro w hS; (try dsimp only at hS); go_simp; try with_reducible rfl)
           simp only [Act.put, pX]
           refine wT (i := 17) (v := ?_) rfl (by kernel_rfl) (by kernel_rfl) (by kernel_rfl) (fun _ _ _ h => h) (Or.inl ⟨by rfl, ?_⟩) (by assumption) ?_
           rotate_left 1
           ·(intro w hS; (try dsimp only at hS); go_simp; try with_reducible rfl)
           simp only [Act.put, pX]
           refine wR (rs := [18]) (by kernel_rfl) (by simp) ?_
           refine aC rfl (fun K hK => ?_) aN
           go_simp
           refine (inside_any _ _ _ _).mono ?_
           rw [g3]
           rintro e w' ⟨rfl, rfl⟩

           go_wp2_with fail
           refine hK.out _ _ (by (try dsimp only); go_keep) (fun hH => ?_)
           clear hK K
           refine wT (i := 19) (v := ?_) rfl (by kernel_rfl) (by kernel_rfl) (by kernel_rfl) (fun _ _ _ h => h) (Or.inl ⟨by rfl, ?_⟩) (by assumption) ?_
           rotate_left 1
           ·(intro w hS; (try dsimp only at hS); go_simp; try with_reducible rfl)
           simp only [Act.put, pX]
           refine wT (i := 20) (v := ?_) rfl (by kernel_rfl) (by kernel_rfl) (by kernel_rfl) (fun _ _ _ h => h) (Or.inl ⟨by rfl, ?_⟩) (by assumption) ?_
           rotate_left 1
           ·(intro w hS; (try dsimp only at hS); go_simp; try with_reducible rfl)
           simp only [Act.put, pX]
           refine wT (i := 21) (v := ?_) rfl (by kernel_rfl) (by kernel_rfl) (by kernel_rfl) (fun _ _ _ h => h) (Or.inl ⟨by rfl, ?_⟩) (by assumption) ?_
           rotate_left 1
           ·(intro w hS; (try dsimp only at hS); go_simp; try with_reducible rfl)
           simp only [Act.put, pX]
           refine wT (i := 22) (v := undef) rfl (by kernel_rfl) (by kernel_rfl) (by kernel_rfl) (fun _ _ _ h => h) (Or.inr ⟨by rfl, rfl⟩) (by assumption) ?_
           simp only [Act.put, pX]
           refine wT (i := 23) (v := undef) rfl (by kernel_rfl) (by kernel_rfl) (by kernel_rfl) (fun _ _ _ h => h) (Or.inr ⟨by rfl, rfl⟩) (by assumption) ?_
           simp only [Act.put, pX]
           refine wT (i := 24) (v := undef) rfl (by kernel_rfl) (by kernel_rfl) (by kernel_rfl) (fun _ _ _ h => h) (Or.inr ⟨by rfl, rfl⟩) (by assumption) ?_
           simp only [Act.put, pX]
           refine wT (i := 25) (v := undef) rfl (by kernel_rfl) (by kernel_rfl) (by kernel_rfl) (fun _ _ _ h => h) (Or.inr ⟨by rfl, rfl⟩) (by assumption) ?_
           simp only [Act.put, pX]
           refine wT (i := 26) (v := ?_) rfl (by kernel_rfl) (by kernel_rfl) (by kernel_rfl) (fun _ _ _ h => h) (Or.inl ⟨by rfl, ?_⟩) (by assumption) ?_
           rotate_left 1
           ·(intro w hS; (try dsimp only at hS); go_simp; try with_reducible rfl)
           simp only [Act.put, pX]
           refine wD (by kernel_rfl) ?_ _
           go_wp2_with fail
           go_ret
           exact ⟨ret_bool HR.out.symm, K5⟩
          ·cases g4 : inB r.time 0 36000
           ·have HR := Lib.hid (show deskB d = false by rw [HC.out, Bool.and_eq_false_iff]; right; exact allTo_false hlt (HO.out.trans (by simp [rowB, g1, g2, g3, g4])))
            refine wp_region_held_drew (S := fun w' => w'.cell? ⟨w.heap.size, 1, none⟩ = some (.slice A1 n1 c1) ∧ w'.cell? ⟨w.heap.size, 3, none⟩ = some (.slice (some ⟨b, off, none⟩) n3 c3) ∧ w'.cell? ⟨ga, 0, none⟩ = some (.int .i64 r.number) ∧ w'.cell? ⟨ga, 1, none⟩ = some (.int .i64 r.missing) ∧ w'.cell? ⟨ga, 2, none⟩ = some (.int .i64 r.time)) (by kernel_rfl) (by (try dsimp only); go_keep) (fun hH => ?_)
            refine wT (i := 0) (v := ?_) rfl (by kernel_rfl) (by kernel_rfl) (by kernel_rfl) (fun _ _ _ h => h) (Or.inl ⟨by rfl, ?_⟩) (by assumption) ?_
            rotate_left 1
            ·(intro w hS; (try dsimp only at hS); go_simp; try with_reducible rfl)
            simp only [Act.put, pX]
            refine wT (i := 1) (v := ?_) rfl (by kernel_rfl) (by kernel_rfl) (by kernel_rfl) (fun _ _ _ h => h) (Or.inl ⟨by rfl, ?_⟩) (by assumption) ?_
            rotate_left 1
            ·(intro w hS; (try dsimp only at hS); go_simp; try with_reducible rfl)
            simp only [Act.put, pX]
            refine wT (i := 2) (v := ?_) rfl (by kernel_rfl) (by kernel_rfl) (by kernel_rfl) (fun _ _ _ h => h) (Or.inl ⟨by rfl, ?_⟩) (by assumption) ?_
            rotate_left 1
            ·(intro w hS; (try dsimp only at hS); go_simp; try with_reducible rfl)
            simp only [Act.put, pX]
            refine wT (i := 3) (v := ?_) rfl (by kernel_rfl) (by kernel_rfl) (by kernel_rfl) (fun _ _ _ h => h) (Or.inl ⟨by rfl, ?_⟩) (by assumption) ?_
            rotate_left 1
            ·(intro w hS; (try dsimp only at hS); go_simp; try with_reducible rfl)
            simp only [Act.put, pX]
            refine wR (rs := [4]) (by kernel_rfl) (by simp) ?_
            refine aC rfl (fun K hK => ?_) aN
            go_simp
            refine (Contains_has _ _ _ d.known r.number _ (s1.next K3) (by omega)).mono ?_
            rw [g1]
            rintro e w4 ⟨rfl, q4⟩
            have b4 := q4.below w2.drew.heap.size
            have K4 := bel_then K3 b4
            have PB4 := PB3.next b4
            have RB4 := RB3.next b4
            have pc4 := PB4.cell
            have rc4 := RB4.cell
            clear pc3 rc3

            go_wp2_with fail
            refine hK.out _ _ (by (try dsimp only); go_keep) (fun hH => ?_)
            clear hK K
            refine wT (i := 5) (v := ?_) rfl (by kernel_rfl) (by kernel_rfl) (by kernel_rfl) (fun _ _ _ h => h) (Or.inl ⟨by rfl, ?_⟩) (by assumption) ?_
            rotate_left 1
            ·(intro w hS; (try dsimp only at hS); go_simp; try with_reducible rfl)
            simp only [Act.put, pX]
            refine wT (i := 6) (v := ?_) rfl (by kernel_rfl) (by kernel_rfl) (by kernel_rfl) (fun _ _ _ h => h) (Or.inl ⟨by rfl, ?_⟩) (by assumption) ?_
            rotate_left 1
            ·(intro w hS; (try dsimp only at hS); go_simp; try with_reducible rfl)
            simp only [Act.put, pX]
            refine wT (i := 7) (v := ?_) rfl (by kernel_rfl) (by kernel_rfl) (by kernel_rfl) (fun _ _ _ h => h) (Or.inl ⟨by rfl, ?_⟩) (by assumption) ?_
            rotate_left 1
            ·(intro w hS; (try dsimp only at hS); go_simp; try with_reducible rfl)
            simp only [Act.put, pX]
            refine wT (i := 8) (v := ?_) rfl (by kernel_rfl) (by kernel_rfl) (by kernel_rfl) (fun _ _ _ h => h) (Or.inl ⟨by rfl, ?_⟩) (by assumption) ?_
            rotate_left 1
            ·(intro w hS; (try dsimp only at hS); go_simp; try with_reducible rfl)
            simp only [Act.put, pX]
            refine wT (i := 9) (v := ?_) rfl (by kernel_rfl) (by kernel_rfl) (by kernel_rfl) (fun _ _ _ h => h) (Or.inl ⟨by rfl, ?_⟩) (by assumption) ?_
            rotate_left 1
            ·(intro w hS; (try dsimp only at hS); go_simp; try with_reducible rfl)
            simp only [Act.put, pX]
            refine wT (i := 10) (v := ?_) rfl (by kernel_rfl) (by kernel_rfl) (by kernel_rfl) (fun _ _ _ h => h) (Or.inl ⟨by rfl, ?_⟩) (by assumption) ?_
            rotate_left 1
            ·(intro w hS; (try dsimp only at hS); go_simp; try with_reducible rfl)
            simp only [Act.put, pX]
            refine wT (i := 11) (v := ?_) rfl (by kernel_rfl) (by kernel_rfl) (by kernel_rfl) (fun _ _ _ h => h) (Or.inl ⟨by rfl, ?_⟩) (by assumption) ?_
            rotate_left 1
            ·(intro w hS; (try dsimp only at hS); go_simp; try with_reducible rfl)
            simp only [Act.put, pX]
            refine wT (i := 12) (v := ?_) rfl (by kernel_rfl) (by kernel_rfl) (by kernel_rfl) (fun _ _ _ h => h) (Or.inl ⟨by rfl, ?_⟩) (by assumption) ?_
            rotate_left 1
            ·(intro w hS; (try dsimp only at hS); go_simp; try with_reducible rfl)
            simp only [Act.put, pX]
            refine wR (rs := [13]) (by kernel_rfl) (by simp) ?_
            refine aC rfl (fun K hK => ?_) aN
            go_simp
            refine (isDone_any _ _ c3 (d.done.take k) r.number _ (s3.next K4) (by omega)).mono ?_
            rw [g2]
            rintro e w5 ⟨rfl, b5⟩
            have K5 := bel_then K4 b5
            have PB5 := PB4.next b5
            have RB5 := RB4.next b5
            have pc5 := PB5.cell
            have rc5 := RB5.cell
            clear pc4 rc4

            go_wp2_with fail
            refine hK.out _ _ (by (try dsimp only); go_keep) (fun hH => ?_)
            clear hK K
            refine wT (i := 14) (v := ?_) rfl (by kernel_rfl) (by kernel_rfl) (by kernel_rfl) (fun _ _ _ h => h) (Or.inl ⟨by rfl, ?_⟩) (by assumption) ?_
            rotate_left 1
            ·(intro w hS; (try dsimp only at hS); go_simp; try with_reducible rfl)
            simp only [Act.put, pX]
            refine wT (i := 15) (v := ?_) rfl (by kernel_rfl) (by kernel_rfl) (by kernel_rfl) (fun _ _ _ h => h) (Or.inl ⟨by rfl, ?_⟩) (by assumption) ?_
            rotate_left 1
            ·(intro w hS; (try dsimp only at hS); go_simp; try with_reducible rfl)
            simp only [Act.put, pX]
            refine wT (i := 16) (v := ?_) rfl (by kernel_rfl) (by kernel_rfl) (by kernel_rfl) (fun _ _ _ h => h) (Or.inl ⟨by rfl, ?_⟩) (by assumption) ?_
            rotate_left 1
            ·(intro w hS; (try dsimp only at hS); go_simp; try with_reducible rfl)
            simp only [Act.put, pX]
            refine wT (i := 17) (v := ?_) rfl (by kernel_rfl) (by kernel_rfl) (by kernel_rfl) (fun _ _ _ h => h) (Or.inl ⟨by rfl, ?_⟩) (by assumption) ?_
            rotate_left 1
            ·(intro w hS; (try dsimp only at hS); go_simp; try with_reducible rfl)
            simp only [Act.put, pX]
            refine wR (rs := [18]) (by kernel_rfl) (by simp) ?_
            refine aC rfl (fun K hK => ?_) aN
            go_simp
            refine (inside_any _ _ _ _).mono ?_
            rw [g3]
            rintro e w' ⟨rfl, rfl⟩

            go_wp2_with fail
            refine hK.out _ _ (by (try dsimp only); go_keep) (fun hH => ?_)
            clear hK K
            refine wT (i := 19) (v := ?_) rfl (by kernel_rfl) (by kernel_rfl) (by kernel_rfl) (fun _ _ _ h => h) (Or.inl ⟨by rfl, ?_⟩) (by assumption) ?_
            rotate_left 1
            ·(intro w hS; (try dsimp only at hS); go_simp; try with_reducible rfl)
            simp only [Act.put, pX]
            refine wT (i := 20) (v := ?_) rfl (by kernel_rfl) (by kernel_rfl) (by kernel_rfl) (fun _ _ _ h => h) (Or.inl ⟨by rfl, ?_⟩) (by assumption) ?_
            rotate_left 1
            ·(intro w hS; (try dsimp only at hS); go_simp; try with_reducible rfl)
            simp only [Act.put, pX]
            refine wT (i := 21) (v := ?_) rfl (by kernel_rfl) (by kernel_rfl) (by kernel_rfl) (fun _ _ _ h => h) (Or.inl ⟨by rfl, ?_⟩) (by assumption) ?_
            rotate_left 1
            ·(intro w hS; (try dsimp only at hS); go_simp; try with_reducible rfl)
            simp only [Act.put, pX]
            refine wT (i := 22) (v := ?_) rfl (by kernel_rfl) (by kernel_rfl) (by kernel_rfl) (fun _ _ _ h => h) (Or.inl ⟨by rfl, ?_⟩) (by assumption) ?_
            rotate_left 1
            ·(intro w hS; (try dsimp only at hS); go_simp; try with_reducible rfl)
            simp only [Act.put, pX]
            refine wT (i := 23) (v := ?_) rfl (by kernel_rfl) (by kernel_rfl) (by kernel_rfl) (fun _ _ _ h => h) (Or.inl ⟨by rfl, ?_⟩) (by assumption) ?_
            rotate_left 1
            ·(intro w hS; (try dsimp only at hS); go_simp; try with_reducible rfl)
            simp only [Act.put, pX]
            refine wR (rs := [24]) (by kernel_rfl) (by simp) ?_
            refine aC rfl (fun K hK => ?_) aN
            go_simp
            refine (isTime_any _ _).mono ?_
            rw [g4]
            rintro e w' ⟨rfl, rfl⟩

            go_wp2_with fail
            refine hK.out _ _ (by (try dsimp only); go_keep) (fun hH => ?_)
            clear hK K
            refine wT (i := 25) (v := ?_) rfl (by kernel_rfl) (by kernel_rfl) (by kernel_rfl) (fun _ _ _ h => h) (Or.inl ⟨by rfl, ?_⟩) (by assumption) ?_
            rotate_left 1
            ·(intro w hS; (try dsimp only at hS); go_simp; try with_reducible rfl)
            simp only [Act.put, pX]
            refine wT (i := 26) (v := ?_) rfl (by kernel_rfl) (by kernel_rfl) (by kernel_rfl) (fun _ _ _ h => h) (Or.inl ⟨by rfl, ?_⟩) (by assumption) ?_
            rotate_left 1
            ·(intro w hS; (try dsimp only at hS); go_simp; try with_reducible rfl)
            simp only [Act.put, pX]
            refine wD (by kernel_rfl) ?_ _
            go_wp2_with fail
            go_ret
            exact ⟨ret_bool HR.out.symm, K5⟩
           ·have HA2 := Lib.hid (allTo_succ HA.out (HO.out.trans (by simp [rowB, g1, g2, g3, g4])))
            refine wp_region_held_drew (S := fun w' => w'.cell? ⟨w.heap.size, 1, none⟩ = some (.slice A1 n1 c1) ∧ w'.cell? ⟨w.heap.size, 3, none⟩ = some (.slice (some ⟨b, off, none⟩) n3 c3) ∧ w'.cell? ⟨ga, 0, none⟩ = some (.int .i64 r.number) ∧ w'.cell? ⟨ga, 1, none⟩ = some (.int .i64 r.missing) ∧ w'.cell? ⟨ga, 2, none⟩ = some (.int .i64 r.time)) (by kernel_rfl) (by (try dsimp only); go_keep) (fun hH => ?_)
            refine wT (i := 0) (v := ?_) rfl (by kernel_rfl) (by kernel_rfl) (by kernel_rfl) (fun _ _ _ h => h) (Or.inl ⟨by rfl, ?_⟩) (by assumption) ?_
            rotate_left 1
            ·(intro w hS; (try dsimp only at hS); go_simp; try with_reducible rfl)
            simp only [Act.put, pX]
            refine wT (i := 1) (v := ?_) rfl (by kernel_rfl) (by kernel_rfl) (by kernel_rfl) (fun _ _ _ h => h) (Or.inl ⟨by rfl, ?_⟩) (by assumption) ?_
            rotate_left 1
            ·(intro w hS; (try dsimp only at hS); go_simp; try with_reducible rfl)
            simp only [Act.put, pX]
            refine wT (i := 2) (v := ?_) rfl (by kernel_rfl) (by kernel_rfl) (by kernel_rfl) (fun _ _ _ h => h) (Or.inl ⟨by rfl, ?_⟩) (by assumption) ?_
            rotate_left 1
            ·(intro w hS; (try dsimp only at hS); go_simp; try with_reducible rfl)
            simp only [Act.put, pX]
            refine wT (i := 3) (v := ?_) rfl (by kernel_rfl) (by kernel_rfl) (by kernel_rfl) (fun _ _ _ h => h) (Or.inl ⟨by rfl, ?_⟩) (by assumption) ?_
            rotate_left 1
            ·(intro w hS; (try dsimp only at hS); go_simp; try with_reducible rfl)
            simp only [Act.put, pX]
            refine wR (rs := [4]) (by kernel_rfl) (by simp) ?_
            refine aC rfl (fun K hK => ?_) aN
            go_simp
            refine (Contains_has _ _ _ d.known r.number _ (s1.next K3) (by omega)).mono ?_
            rw [g1]
            rintro e w4 ⟨rfl, q4⟩
            have b4 := q4.below w2.drew.heap.size
            have K4 := bel_then K3 b4
            have PB4 := PB3.next b4
            have RB4 := RB3.next b4
            have pc4 := PB4.cell
            have rc4 := RB4.cell
            clear pc3 rc3

            go_wp2_with fail
            refine hK.out _ _ (by (try dsimp only); go_keep) (fun hH => ?_)
            clear hK K
            refine wT (i := 5) (v := ?_) rfl (by kernel_rfl) (by kernel_rfl) (by kernel_rfl) (fun _ _ _ h => h) (Or.inl ⟨by rfl, ?_⟩) (by assumption) ?_
            rotate_left 1
            ·(intro w hS; (try dsimp only at hS); go_simp; try with_reducible rfl)
            simp only [Act.put, pX]
            refine wT (i := 6) (v := ?_) rfl (by kernel_rfl) (by kernel_rfl) (by kernel_rfl) (fun _ _ _ h => h) (Or.inl ⟨by rfl, ?_⟩) (by assumption) ?_
            rotate_left 1
            ·(intro w hS; (try dsimp only at hS); go_simp; try with_reducible rfl)
            simp only [Act.put, pX]
            refine wT (i := 7) (v := ?_) rfl (by kernel_rfl) (by kernel_rfl) (by kernel_rfl) (fun _ _ _ h => h) (Or.inl ⟨by rfl, ?_⟩) (by assumption) ?_
            rotate_left 1
            ·(intro w hS; (try dsimp only at hS); go_simp; try with_reducible rfl)
            simp only [Act.put, pX]
            refine wT (i := 8) (v := ?_) rfl (by kernel_rfl) (by kernel_rfl) (by kernel_rfl) (fun _ _ _ h => h) (Or.inl ⟨by rfl, ?_⟩) (by assumption) ?_
            rotate_left 1
            ·(intro w hS; (try dsimp only at hS); go_simp; try with_reducible rfl)
            simp only [Act.put, pX]
            refine wT (i := 9) (v := ?_) rfl (by kernel_rfl) (by kernel_rfl) (by kernel_rfl) (fun _ _ _ h => h) (Or.inl ⟨by rfl, ?_⟩) (by assumption) ?_
            rotate_left 1
            ·(intro w hS; (try dsimp only at hS); go_simp; try with_reducible rfl)
            simp only [Act.put, pX]
            refine wT (i := 10) (v := ?_) rfl (by kernel_rfl) (by kernel_rfl) (by kernel_rfl) (fun _ _ _ h => h) (Or.inl ⟨by rfl, ?_⟩) (by assumption) ?_
            rotate_left 1
            ·(intro w hS; (try dsimp only at hS); go_simp; try with_reducible rfl)
            simp only [Act.put, pX]
            refine wT (i := 11) (v := ?_) rfl (by kernel_rfl) (by kernel_rfl) (by kernel_rfl) (fun _ _ _ h => h) (Or.inl ⟨by rfl, ?_⟩) (by assumption) ?_
            rotate_left 1
            ·(intro w hS; (try dsimp only at hS); go_simp; try with_reducible rfl)
            simp only [Act.put, pX]
            refine wT (i := 12) (v := ?_) rfl (by kernel_rfl) (by kernel_rfl) (by kernel_rfl) (fun _ _ _ h => h) (Or.inl ⟨by rfl, ?_⟩) (by assumption) ?_
            rotate_left 1
            ·(intro w hS; (try dsimp only at hS); go_simp; try with_reducible rfl)
            simp only [Act.put, pX]
            refine wR (rs := [13]) (by kernel_rfl) (by simp) ?_
            refine aC rfl (fun K hK => ?_) aN
            go_simp
            refine (isDone_any _ _ c3 (d.done.take k) r.number _ (s3.next K4) (by omega)).mono ?_
            rw [g2]
            rintro e w5 ⟨rfl, b5⟩
            have K5 := bel_then K4 b5
            have PB5 := PB4.next b5
            have RB5 := RB4.next b5
            have pc5 := PB5.cell
            have rc5 := RB5.cell
            clear pc4 rc4

            go_wp2_with fail
            refine hK.out _ _ (by (try dsimp only); go_keep) (fun hH => ?_)
            clear hK K
            refine wT (i := 14) (v := ?_) rfl (by kernel_rfl) (by kernel_rfl) (by kernel_rfl) (fun _ _ _ h => h) (Or.inl ⟨by rfl, ?_⟩) (by assumption) ?_
            rotate_left 1
            ·(intro w hS; (try dsimp only at hS); go_simp; try with_reducible rfl)
            simp only [Act.put, pX]
            refine wT (i := 15) (v := ?_) rfl (by kernel_rfl) (by kernel_rfl) (by kernel_rfl) (fun _ _ _ h => h) (Or.inl ⟨by rfl, ?_⟩) (by assumption) ?_
            rotate_left 1
            ·(intro w hS; (try dsimp only at hS); go_simp; try with_reducible rfl)
            simp only [Act.put, pX]
            refine wT (i := 16) (v := ?_) rfl (by kernel_rfl) (by kernel_rfl) (by kernel_rfl) (fun _ _ _ h => h) (Or.inl ⟨by rfl, ?_⟩) (by assumption) ?_
            rotate_left 1
            ·(intro w hS; (try dsimp only at hS); go_simp; try with_reducible rfl)
            simp only [Act.put, pX]
            refine wT (i := 17) (v := ?_) rfl (by kernel_rfl) (by kernel_rfl) (by kernel_rfl) (fun _ _ _ h => h) (Or.inl ⟨by rfl, ?_⟩) (by assumption) ?_
            rotate_left 1
            ·(intro w hS; (try dsimp only at hS); go_simp; try with_reducible rfl)
            simp only [Act.put, pX]
            refine wR (rs := [18]) (by kernel_rfl) (by simp) ?_
            refine aC rfl (fun K hK => ?_) aN
            go_simp
            refine (inside_any _ _ _ _).mono ?_
            rw [g3]
            rintro e w' ⟨rfl, rfl⟩

            go_wp2_with fail
            refine hK.out _ _ (by (try dsimp only); go_keep) (fun hH => ?_)
            clear hK K
            refine wT (i := 19) (v := ?_) rfl (by kernel_rfl) (by kernel_rfl) (by kernel_rfl) (fun _ _ _ h => h) (Or.inl ⟨by rfl, ?_⟩) (by assumption) ?_
            rotate_left 1
            ·(intro w hS; (try dsimp only at hS); go_simp; try with_reducible rfl)
            simp only [Act.put, pX]
            refine wT (i := 20) (v := ?_) rfl (by kernel_rfl) (by kernel_rfl) (by kernel_rfl) (fun _ _ _ h => h) (Or.inl ⟨by rfl, ?_⟩) (by assumption) ?_
            rotate_left 1
            ·(intro w hS; (try dsimp only at hS); go_simp; try with_reducible rfl)
            simp only [Act.put, pX]
            refine wT (i := 21) (v := ?_) rfl (by kernel_rfl) (by kernel_rfl) (by kernel_rfl) (fun _ _ _ h => h) (Or.inl ⟨by rfl, ?_⟩) (by assumption) ?_
            rotate_left 1
            ·(intro w hS; (try dsimp only at hS); go_simp; try with_reducible rfl)
            simp only [Act.put, pX]
            refine wT (i := 22) (v := ?_) rfl (by kernel_rfl) (by kernel_rfl) (by kernel_rfl) (fun _ _ _ h => h) (Or.inl ⟨by rfl, ?_⟩) (by assumption) ?_
            rotate_left 1
            ·(intro w hS; (try dsimp only at hS); go_simp; try with_reducible rfl)
            simp only [Act.put, pX]
            refine wT (i := 23) (v := ?_) rfl (by kernel_rfl) (by kernel_rfl) (by kernel_rfl) (fun _ _ _ h => h) (Or.inl ⟨by rfl, ?_⟩) (by assumption) ?_
            rotate_left 1
            ·(intro w hS; (try dsimp only at hS); go_simp; try with_reducible rfl)
            simp only [Act.put, pX]
            refine wR (rs := [24]) (by kernel_rfl) (by simp) ?_
            refine aC rfl (fun K hK => ?_) aN
            go_simp
            refine (isTime_any _ _).mono ?_
            rw [g4]
            rintro e w' ⟨rfl, rfl⟩

            go_wp2_with fail
            refine hK.out _ _ (by (try dsimp only); go_keep) (fun hH => ?_)
            clear hK K
            refine wT (i := 25) (v := ?_) rfl (by kernel_rfl) (by kernel_rfl) (by kernel_rfl) (fun _ _ _ h => h) (Or.inl ⟨by rfl, ?_⟩) (by assumption) ?_
            rotate_left 1
            ·(intro w hS; (try dsimp only at hS); go_simp; try with_reducible rfl)
            simp only [Act.put, pX]
            refine wT (i := 26) (v := ?_) rfl (by kernel_rfl) (by kernel_rfl) (by kernel_rfl) (fun _ _ _ h => h) (Or.inl ⟨by rfl, ?_⟩) (by assumption) ?_
            rotate_left 1
            ·(intro w hS; (try dsimp only at hS); go_simp; try with_reducible rfl)
            simp only [Act.put, pX]
            refine wD (by kernel_rfl) ?_ _
            go_wp2_with fail
            go_roundw
            case rel => exact ⟨k + 1, by omega, by go_num, HA2, PB5, K5⟩
            case measure => simp [intOf]; omega
         ·have HR := Lib.hid (show deskB d = false by rw [HC.out, Bool.and_eq_false_iff]; right; exact allTo_false hlt (HO.out.trans (by simp [rowB, g1, g2])))
          refine wp_region_held_drew (S := fun w' => w'.cell? ⟨w.heap.size, 1, none⟩ = some (.slice A1 n1 c1) ∧ w'.cell? ⟨w.heap.size, 3, none⟩ = some (.slice (some ⟨b, off, none⟩) n3 c3) ∧ w'.cell? ⟨ga, 0, none⟩ = some (.int .i64 r.number) ∧ w'.cell? ⟨ga, 1, none⟩ = some (.int .i64 r.missing) ∧ w'.cell? ⟨ga, 2, none⟩ = some (.int .i64 r.time)) (by kernel_rfl) (by (try dsimp only); go_keep) (fun hH => ?_)
          refine wT (i := 0) (v := ?_) rfl (by kernel_rfl) (by kernel_rfl) (by kernel_rfl) (fun _ _ _ h => h) (Or.inl ⟨by rfl, ?_⟩) (by assumption) ?_
          rotate_left 1
          ·(intro w hS; (try dsimp only at hS); go_simp; try with_reducible rfl)
          simp only [Act.put, pX]
          refine wT (i := 1) (v := ?_) rfl (by kernel_rfl) (by kernel_rfl) (by kernel_rfl) (fun _ _ _ h => h) (Or.inl ⟨by rfl, ?_⟩) (by assumption) ?_
          rotate_left 1
          ·(intro w hS; (try dsimp only at hS); go_simp; try with_reducible rfl)
          simp only [Act.put, pX]
          refine wT (i := 2) (v := ?_) rfl (by kernel_rfl) (by kernel_rfl) (by kernel_rfl) (fun _ _ _ h => h) (Or.inl ⟨by rfl, ?_⟩) (by assumption) ?_
          rotate_left 1
          ·(intro w hS; (try dsimp only at hS); go_simp; try with_reducible rfl)
          simp only [Act.put, pX]
          refine wT (i := 3) (v := ?_) rfl (by kernel_rfl) (by kernel_rfl) (by kernel_rfl) (fun _ _ _ h => h) (Or.inl ⟨by rfl, ?_⟩) (by assumption) ?_
          rotate_left 1
          ·(intro w hS; (try dsimp only at hS); go_simp; try with_reducible rfl)
          simp only [Act.put, pX]
          refine wR (rs := [4]) (by kernel_rfl) (by simp) ?_
          refine aC rfl (fun K hK => ?_) aN
          go_simp
          refine (Contains_has _ _ _ d.known r.number _ (s1.next K3) (by omega)).mono ?_
          rw [g1]
          rintro e w4 ⟨rfl, q4⟩
          have b4 := q4.below w2.drew.heap.size
          have K4 := bel_then K3 b4
          have PB4 := PB3.next b4
          have RB4 := RB3.next b4
          have pc4 := PB4.cell
          have rc4 := RB4.cell
          clear pc3 rc3

          go_wp2_with fail
          refine hK.out _ _ (by (try dsimp only); go_keep) (fun hH => ?_)
          clear hK K
          refine wT (i := 5) (v := ?_) rfl (by kernel_rfl) (by kernel_rfl) (by kernel_rfl) (fun _ _ _ h => h) (Or.inl ⟨by rfl, ?_⟩) (by assumption) ?_
          rotate_left 1
          ·(intro w hS; (try dsimp only at hS); go_simp; try with_reducible rfl)
          simp only [Act.put, pX]
          refine wT (i := 6) (v := ?_) rfl (by kernel_rfl) (by kernel_rfl) (by kernel_rfl) (fun _ _ _ h => h) (Or.inl ⟨by rfl, ?_⟩) (by assumption) ?_
          rotate_left 1
          ·(intro w hS; (try dsimp only at hS); go_simp; try with_reducible rfl)
          simp only [Act.put, pX]
          refine wT (i := 7) (v := ?_) rfl (by kernel_rfl) (by kernel_rfl) (by kernel_rfl) (fun _ _ _ h => h) (Or.inl ⟨by rfl, ?_⟩) (by assumption) ?_
          rotate_left 1
          ·(intro w hS; (try dsimp only at hS); go_simp; try with_reducible rfl)
          simp only [Act.put, pX]
          refine wT (i := 8) (v := ?_) rfl (by kernel_rfl) (by kernel_rfl) (by kernel_rfl) (fun _ _ _ h => h) (Or.inl ⟨by rfl, ?_⟩) (by assumption) ?_
          rotate_left 1
          ·(intro w hS; (try dsimp only at hS); go_simp; try with_reducible rfl)
          simp only [Act.put, pX]
          refine wT (i := 9) (v := ?_) rfl (by kernel_rfl) (by kernel_rfl) (by kernel_rfl) (fun _ _ _ h => h) (Or.inl ⟨by rfl, ?_⟩) (by assumption) ?_
          rotate_left 1
          ·(intro w hS; (try dsimp only at hS); go_simp; try with_reducible rfl)
          simp only [Act.put, pX]
          refine wT (i := 10) (v := ?_) rfl (by kernel_rfl) (by kernel_rfl) (by kernel_rfl) (fun _ _ _ h => h) (Or.inl ⟨by rfl, ?_⟩) (by assumption) ?_
          rotate_left 1
          ·(intro w hS; (try dsimp only at hS); go_simp; try with_reducible rfl)
          simp only [Act.put, pX]
          refine wT (i := 11) (v := ?_) rfl (by kernel_rfl) (by kernel_rfl) (by kernel_rfl) (fun _ _ _ h => h) (Or.inl ⟨by rfl, ?_⟩) (by assumption) ?_
          rotate_left 1
          ·(intro w hS; (try dsimp only at hS); go_simp; try with_reducible rfl)
          simp only [Act.put, pX]
          refine wT (i := 12) (v := ?_) rfl (by kernel_rfl) (by kernel_rfl) (by kernel_rfl) (fun _ _ _ h => h) (Or.inl ⟨by rfl, ?_⟩) (by assumption) ?_
          rotate_left 1
          ·(intro w hS; (try dsimp only at hS); go_simp; try with_reducible rfl)
          simp only [Act.put, pX]
          refine wR (rs := [13]) (by kernel_rfl) (by simp) ?_
          refine aC rfl (fun K hK => ?_) aN
          go_simp
          refine (isDone_any _ _ c3 (d.done.take k) r.number _ (s3.next K4) (by omega)).mono ?_
          rw [g2]
          rintro e w5 ⟨rfl, b5⟩
          have K5 := bel_then K4 b5
          have PB5 := PB4.next b5
          have RB5 := RB4.next b5
          have pc5 := PB5.cell
          have rc5 := RB5.cell
          clear pc4 rc4

          go_wp2_with fail
          refine hK.out _ _ (by (try dsimp only); go_keep) (fun hH => ?_)
          clear hK K
          refine wT (i := 14) (v := ?_) rfl (by kernel_rfl) (by kernel_rfl) (by kernel_rfl) (fun _ _ _ h => h) (Or.inl ⟨by rfl, ?_⟩) (by assumption) ?_
          rotate_left 1
          ·(intro w hS; (try dsimp only at hS); go_simp; try with_reducible rfl)
          simp only [Act.put, pX]
          refine wT (i := 15) (v := ?_) rfl (by kernel_rfl) (by kernel_rfl) (by kernel_rfl) (fun _ _ _ h => h) (Or.inl ⟨by rfl, ?_⟩) (by assumption) ?_
          rotate_left 1
          ·(intro w hS; (try dsimp only at hS); go_simp; try with_reducible rfl)
          simp only [Act.put, pX]
          refine wT (i := 16) (v := undef) rfl (by kernel_rfl) (by kernel_rfl) (by kernel_rfl) (fun _ _ _ h => h) (Or.inr ⟨by rfl, rfl⟩) (by assumption) ?_
          simp only [Act.put, pX]
          refine wT (i := 17) (v := undef) rfl (by kernel_rfl) (by kernel_rfl) (by kernel_rfl) (fun _ _ _ h => h) (Or.inr ⟨by rfl, rfl⟩) (by assumption) ?_
          simp only [Act.put, pX]
          refine wT (i := 18) (v := undef) rfl (by kernel_rfl) (by kernel_rfl) (by kernel_rfl) (fun _ _ _ h => h) (Or.inr ⟨by rfl, rfl⟩) (by assumption) ?_
          simp only [Act.put, pX]
          refine wT (i := 19) (v := undef) rfl (by kernel_rfl) (by kernel_rfl) (by kernel_rfl) (fun _ _ _ h => h) (Or.inr ⟨by rfl, rfl⟩) (by assumption) ?_
          simp only [Act.put, pX]
          refine wT (i := 20) (v := ?_) rfl (by kernel_rfl) (by kernel_rfl) (by kernel_rfl) (fun _ _ _ h => h) (Or.inl ⟨by rfl, ?_⟩) (by assumption) ?_
          rotate_left 1
          ·(intro w hS; (try dsimp only at hS); go_simp; try with_reducible rfl)
          simp only [Act.put, pX]
          refine wT (i := 21) (v := ?_) rfl (by kernel_rfl) (by kernel_rfl) (by kernel_rfl) (fun _ _ _ h => h) (Or.inl ⟨by rfl, ?_⟩) (by assumption) ?_
          rotate_left 1
          ·(intro w hS; (try dsimp only at hS); go_simp; try with_reducible rfl)
          simp only [Act.put, pX]
          refine wT (i := 22) (v := undef) rfl (by kernel_rfl) (by kernel_rfl) (by kernel_rfl) (fun _ _ _ h => h) (Or.inr ⟨by rfl, rfl⟩) (by assumption) ?_
          simp only [Act.put, pX]
          refine wT (i := 23) (v := undef) rfl (by kernel_rfl) (by kernel_rfl) (by kernel_rfl) (fun _ _ _ h => h) (Or.inr ⟨by rfl, rfl⟩) (by assumption) ?_
          simp only [Act.put, pX]
          refine wT (i := 24) (v := undef) rfl (by kernel_rfl) (by kernel_rfl) (by kernel_rfl) (fun _ _ _ h => h) (Or.inr ⟨by rfl, rfl⟩) (by assumption) ?_
          simp only [Act.put, pX]
          refine wT (i := 25) (v := undef) rfl (by kernel_rfl) (by kernel_rfl) (by kernel_rfl) (fun _ _ _ h => h) (Or.inr ⟨by rfl, rfl⟩) (by assumption) ?_
          simp only [Act.put, pX]
          refine wT (i := 26) (v := ?_) rfl (by kernel_rfl) (by kernel_rfl) (by kernel_rfl) (fun _ _ _ h => h) (Or.inl ⟨by rfl, ?_⟩) (by assumption) ?_
          rotate_left 1
          ·(intro w hS; (try dsimp only at hS); go_simp; try with_reducible rfl)
          simp only [Act.put, pX]
          refine wD (by kernel_rfl) ?_ _
          go_wp2_with fail
          go_ret
          exact ⟨ret_bool HR.out.symm, K5⟩
       ·obtain rfl : k = n3 := by omega
        have HD := Lib.hid (show deskB d = decide (((n2 : Int) + (k : Int) + (n4 : Int)) ≤ 10) by rw [HC.out, HA.out, Bool.and_true, decide_eq_decide]; omega)
        clear HA
        go_wp2_with fail
        go_ret
        exact ⟨ret_bool HD.out.symm, hb⟩
  ·have HF := Lib.hid (show deskB d = false from topB_not (by simp [topB, l1, l2, l3, l4, glen]))
   go_wp2_with fail
   go_ret
   exact ⟨ret_bool HF.out.symm, KB⟩

end Go.Proofs.YtkimlajfhepfgaaGreat

namespace Go.Proofs.YtkimlajfhepfgaaGreat
open Go.RowKit

set_option maxRecDepth 100000 in
set_option maxHeartbeats 4000000 in
theorem l25Good_any (h : DeskH) (d : DeskV) (w : World) (hs : SeesDesk w 0 h d) (hn : DeskFit 1048576 h d) (hcap : h.n3 ≤ h.c3) :
  Calls Tryz.prog 35 #[.agg #[.slice h.A0 h.n0 h.c0, .slice h.A1 h.n1 h.c1, .slice h.A2 h.n2 h.c2, .slice h.A3 h.n3 h.c3, .slice h.A4 h.n4 h.c4]] w fun e w' => e = .returned (.bool (deskB d)) ∧ Below w.heap.size w w' := by
 obtain ⟨A0, n0, c0, A1, n1, c1, A2, n2, c2, A3, n3, c3, A4, n4, c4⟩ := h
 obtain ⟨s0, s1, s2, s3, s4⟩ := hs
 obtain ⟨ft0, ft1, ft2, fx2, ft3, ft4, fx4⟩ := hn
 dsimp only at *
 have l1 := s1.icount
 have l2 := s2.count
 have l3 := s3.count (by decide) (fun _ => rfl)
 have l4 := s4.count
 have KB : Below w.heap.size w (w.alloc (.cells #[.slice A0 n0 c0, .slice A1 n1 c1, .slice A2 n2 c2, .slice A3 n3 c3, .slice A4 n4 c4] 28)) := (Below.refl _ _).alloc (Nat.le_refl _) _
 have PB : Blk (w.alloc (.cells #[.slice A0 n0 c0, .slice A1 n1 c1, .slice A2 n2 c2, .slice A3 n3 c3, .slice A4 n4 c4] 28)) w.heap.size 28 [.slice A0 n0 c0, .slice A1 n1 c1, .slice A2 n2 c2, .slice A3 n3 c3, .slice A4 n4 c4] := Blk.at_ rfl
 go_enter Tryz.func35, Tryz.ntmps35
 go_wp2_with fail
 generalize (w.alloc (.cells #[.slice A0 n0 c0, .slice A1 n1 c1, .slice A2 n2 c2, .slice A3 n3 c3, .slice A4 n4 c4] 28)) = w0 at *
 have pc := PB.cell
 refine (l12Codes_any _ _ _ d.codes _ (s0.next KB) ft0).mono ?_
 cases gcodes : codesB d.codes
 ·have HF := Lib.hid (show deskB d = false from topB_not (by simp [topB, gcodes]))
  rintro e w' ⟨rfl, rfl⟩
  go_wp2_with fail
  go_ret
  exact ⟨ret_bool HF.out.symm, KB⟩
 ·rintro e w' ⟨rfl, rfl⟩
  go_wp2_with fail
  refine (l1Rising_any _ _ _ d.known 1 9999 _ (s1.next KB) ft1).mono ?_
  cases gris : risingB 1 9999 d.known
  ·have HF := Lib.hid (show deskB d = false from topB_not (by simp [topB, gris]))
   rintro e wn ⟨rfl, qn⟩
   replace KB := bel_quiet KB qn
   replace PB := PB.quiet qn
   clear pc qn
   have pc := PB.cell
   go_wp2_with fail
   go_ret
   exact ⟨ret_bool HF.out.symm, KB⟩
  ·rintro e wn ⟨rfl, qn⟩
   replace KB := bel_quiet KB qn
   replace PB := PB.quiet qn
   clear pc qn
   have pc := PB.cell
   by_cases glen : n1 ≤ 8
   ·by_cases gtot : n2 + n3 + n4 ≤ 10
    ·have HC := Lib.hid (show deskB d = (d.queue.all finB && d.trouble.all finB && allTo n3 (rowAt d)) by simp [deskB, topB, l1, l2, l3, l4, gcodes, glen, gris, gtot])
     clear gcodes gris pc
     have pc := PB.cell
     go_wp2_with fail
     clear pc glen gtot
     go_loopw [3] (fun i wr => ∃ k : Nat, k ≤ n3 ∧ i = .int .i64 k ∧ Hid (allTo k (rowAt d) = true) ∧ Blk wr w.heap.size 28 [.slice A0 n0 c0, .slice A1 n1 c1, .slice A2 n2 c2, .slice A3 n3 c3, .slice A4 n4 c4] ∧ Below w.heap.size w wr) (fun i _ => n3 - (intOf i).toNat)
     case atStart => exact ⟨0, Nat.zero_le _, rfl, Lib.hid rfl, PB, KB⟩
     case round =>
      obtain ⟨k, hk, rfl, HA, PB, hb⟩ := hrel
      have pc := PB.cell
      by_cases hlt : k < n3
      ·have s3' := SeesFlat.take s3 (by decide) (fun _ => rfl) k (by omega)
       obtain ⟨b, off, rfl, hkx, x0, x1, x2⟩ := (s3.next hb).elem3 (fun _ => rfl) hlt
       replace s3 := s3'
       clear s3'
       have hkc : k ≤ c3 := by omega
       have HO := Lib.hid (rowAt_at hkx)
       obtain ⟨r, hr⟩ : ∃ r, d.done[k] = r := ⟨_, rfl⟩
       rw [hr] at HO x0 x1 x2
       clear hr
       have hblt : b < wr.heap.size := World.block_lt_of_cell? wr _ x0
       have hbm := PB.lt
       go_wp2_with fail
       have RB0 : Blk (wr.alloc (.cells #[.int .i64 r.number, .int .i64 r.missing, .int .i64 r.time] 41)) wr.heap.size 41 [.int .i64 r.number, .int .i64 r.missing, .int .i64 r.time] := Blk.at_ rfl
       have PB0 := PB.alloc (.cells #[.int .i64 r.number, .int .i64 r.missing, .int .i64 r.time] 41)
       have K2 : Below w.heap.size w (wr.alloc (.cells #[.int .i64 r.number, .int .i64 r.missing, .int .i64 r.time] 41)) := hb.alloc hb.size _
       generalize wr.heap.size = ga at *
       generalize wr.alloc (.cells #[.int .i64 r.number, .int .i64 r.missing, .int .i64 r.time] 41) = w2 at *
       clear x0 x1 x2 pc PB
       have q3 := Quiet.one w2
       have K3 := bel_quiet K2 q3
       have PB3 := PB0.quiet q3
       have RB3 := RB0.quiet q3
       have pc3 := PB3.cell
       have rc3 := RB3.cell
       clear K2 PB0 RB0 q3 hb hblt hbm
       obtain ⟨w3, hw3⟩ : ∃ w3, w2.drew = w3 := ⟨_, rfl⟩
       rw [hw3] at K3 PB3 RB3 pc3 rc3
       subst hw3
       cases g1 : hasI d.known r.number
       ·have HR := Lib.hid (show deskB d = false by rw [HC.out, Bool.and_eq_false_iff]; right; exact allTo_false hlt (HO.out.trans (by simp [rowB, g1])))
        refine wp_region_held_drew (S := fun w' => w'.cell? ⟨w.heap.size, 1, none⟩ = some (.slice A1 n1 c1) ∧ w'.cell? ⟨w.heap.size, 3, none⟩ = some (.slice (some ⟨b, off, none⟩) n3 c3) ∧ w'.cell? ⟨ga, 0, none⟩ = some (.int .i64 r.number) ∧ w'.cell? ⟨ga, 1, none⟩ = some (.int .i64 r.missing) ∧ w'.cell? ⟨ga, 2, none⟩ = some (.int .i64 r.time)) (by kernel_rfl) (by (try dsimp only); go_keep) (fun hH => ?_)
        refine wT (i := 0) (v := ?_) rfl (by kernel_rfl) (by kernel_rfl) (by kernel_rfl) (fun _ _ _ h => h) (Or.inl ⟨by rfl, ?_⟩) (by assumption) ?_
        rotate_left 1
        ·(intro w hS; (try dsimp only at hS); go_simp; try with_reducible rfl)
        simp only [Act.put, pX]
        refine wT (i := 1) (v := ?_) rfl (by kernel_rfl) (by kernel_rfl) (by kernel_rfl) (fun _ _ _ h => h) (Or.inl ⟨by rfl, ?_⟩) (by assumption) ?_
        rotate_left 1
        ·(intro w hS; (try dsimp only at hS); go_simp; try with_reducible rfl)
        simp only [Act.put, pX]
        refine wT (i := 2) (v := ?_) rfl (by kernel_rfl) (by kernel_rfl) (by kernel_rfl) (fun _ _ _ h => h) (Or.inl ⟨by rfl, ?_⟩) (by assumption) ?_
        rotate_left 1
        ·(intro w hS; (try dsimp only at hS); go_simp; try with_reducible rfl)
        simp only [Act.put, pX]
        refine wT (i := 3) (v := ?_) rfl (by kernel_rfl) (by kernel_rfl) (by kernel_rfl) (fun _ _ _ h => h) (Or.inl ⟨by rfl, ?_⟩) (by assumption) ?_
        rotate_left 1
        ·(intro w hS; (try dsimp only at hS); go_simp; try with_reducible rfl)
        simp only [Act.put, pX]
        refine wR (rs := [4]) (by kernel_rfl) (by simp) ?_
        refine aC rfl (fun K hK => ?_) aN
        go_simp
        refine (l1Has_any _ _ _ d.known r.number _ (s1.next K3) (by omega)).mono ?_
        rw [g1]
        rintro e w4 ⟨rfl, q4⟩
        have b4 := q4.below w2.drew.heap.size
        have K4 := bel_then K3 b4
        have PB4 := PB3.next b4
        have RB4 := RB3.next b4
        have pc4 := PB4.cell
        have rc4 := RB4.cell
        clear pc3 rc3

        go_wp2_with fail
        refine hK.out _ _ (by (try dsimp only); go_keep) (fun hH => ?_)
        clear hK K
        refine wT (i := 5) (v := ?_) rfl (by kernel_rfl) (by kernel_rfl) (by kernel_rfl) (fun _ _ _ h => h) (Or.inl ⟨by rfl, ?_⟩) (by assumption) ?_
        rotate_left 1
        ·(intro w hS; (try dsimp only at hS); go_simp; try with_reducible rfl)
        simp only [Act.put, pX]
        refine wT (i := 6) (v := ?_) rfl (by kernel_rfl) (by kernel_rfl) (by kernel_rfl) (fun _ _ _ h => h) (Or.inl ⟨by rfl, ?_⟩) (by assumption) ?_
        rotate_left 1
        ·(intro w hS; (try dsimp only at hS); go_simp; try with_reducible rfl)
        simp only [Act.put, pX]
        refine wT (i := 7) (v := undef) rfl (by kernel_rfl) (by kernel_rfl) (by kernel_rfl) (fun _ _ _ h => h) (Or.inr ⟨by rfl, rfl⟩) (by assumption) ?_
        simp only [Act.put, pX]
        refine wT (i := 8) (v := undef) rfl (by kernel_rfl) (by kernel_rfl) (by kernel_rfl) (fun _ _ _ h => h) (Or.inr ⟨by rfl, rfl⟩) (by assumption) ?_
        simp only [Act.put, pX]
        refine wT (i := 9) (v := undef) rfl (by kernel_rfl) (by kernel_rfl) (by kernel_rfl) (fun _ _ _ h => h) (Or.inr ⟨by rfl, rfl⟩) (by assumption) ?_
        simp only [Act.put, pX]
        refine wT (i := 10) (v := undef) rfl (by kernel_rfl) (by kernel_rfl) (by kernel_rfl) (fun _ _ _ h => h) (Or.inr ⟨by rfl, rfl⟩) (by assumption) ?_
        simp only [Act.put, pX]
        refine wT (i := 11) (v := undef) rfl (by kernel_rfl) (by kernel_rfl) (by kernel_rfl) (fun _ _ _ h => h) (Or.inr ⟨by rfl, rfl⟩) (by assumption) ?_
        simp only [Act.put, pX]
        refine wT (i := 12) (v := undef) rfl (by kernel_rfl) (by kernel_rfl) (by kernel_rfl) (fun _ _ _ h => h) (Or.inr ⟨by rfl, rfl⟩) (by assumption) ?_
        simp only [Act.put, pX]
        refine wT (i := 13) (v := undef) rfl (by kernel_rfl) (by kernel_rfl) (by kernel_rfl) (fun _ _ _ h => h) (Or.inr ⟨by rfl, rfl⟩) (by assumption) ?_
        simp only [Act.put, pX]
        refine wT (i := 14) (v := ?_) rfl (by kernel_rfl) (by kernel_rfl) (by kernel_rfl) (fun _ _ _ h => h) (Or.inl ⟨by rfl, ?_⟩) (by assumption) ?_
        rotate_left 1
        ·(intro w hS; (try dsimp only at hS); go_simp; try with_reducible rfl)
        simp only [Act.put, pX]
        refine wT (i := 15) (v := ?_) rfl (by kernel_rfl) (by kernel_rfl) (by kernel_rfl) (fun _ _ _ h => h) (Or.inl ⟨by rfl, ?_⟩) (by assumption) ?_
        rotate_left 1
        ·(intro w hS; (try dsimp only at hS); go_simp; try with_reducible rfl)
        simp only [Act.put, pX]
        refine wT (i := 16) (v := undef) rfl (by kernel_rfl) (by kernel_rfl) (by kernel_rfl) (fun _ _ _ h => h) (Or.inr ⟨by rfl, rfl⟩) (by assumption) ?_
        simp only [Act.put, pX]
        refine wT (i := 17) (v := undef) rfl (by kernel_rfl) (by kernel_rfl) (by kernel_rfl) (fun _ _ _ h => h) (Or.inr ⟨by rfl, rfl⟩) (by assumption) ?_
        simp only [Act.put, pX]
        refine wT (i := 18) (v := undef) rfl (by kernel_rfl) (by kernel_rfl) (by kernel_rfl) (fun _ _ _ h => h) (Or.inr ⟨by rfl, rfl⟩) (by assumption) ?_
        simp only [Act.put, pX]
        refine wT (i := 19) (v := undef) rfl (by kernel_rfl) (by kernel_rfl) (by kernel_rfl) (fun _ _ _ h => h) (Or.inr ⟨by rfl, rfl⟩) (by assumption) ?_
        simp only [Act.put, pX]
        refine wT (i := 20) (v := ?_) rfl (by kernel_rfl) (by kernel_rfl) (by kernel_rfl) (fun _ _ _ h => h) (Or.inl ⟨by rfl, ?_⟩) (by assumption) ?_
        rotate_left 1
        ·(intro w hS; (try dsimp only at hS); go_simp; try with_reducible rfl)
        simp only [Act.put, pX]
        refine wT (i := 21) (v := ?_) rfl (by kernel_rfl) (by kernel_rfl) (by kernel_rfl) (fun _ _ _ h => h) (Or.inl ⟨by rfl, ?_⟩) (by assumption) ?_
        rotate_left 1
        ·(intro w hS; (try dsimp only at hS); go_simp; try with_reducible rfl)
        simp only [Act.put, pX]
        refine wT (i := 22) (v := undef) rfl (by kernel_rfl) (by kernel_rfl) (by kernel_rfl) (fun _ _ _ h => h) (Or.inr ⟨by rfl, rfl⟩) (by assumption) ?_
        simp only [Act.put, pX]
        refine wT (i := 23) (v := undef) rfl (by kernel_rfl) (by kernel_rfl) (by kernel_rfl) (fun _ _ _ h => h) (Or.inr ⟨by rfl, rfl⟩) (by assumption) ?_
        simp only [Act.put, pX]
        refine wT (i := 24) (v := undef) rfl (by kernel_rfl) (by kernel_rfl) (by kernel_rfl) (fun _ _ _ h => h) (Or.inr ⟨by rfl, rfl⟩) (by assumption) ?_
        simp only [Act.put, pX]
        refine wT (i := 25) (v := undef) rfl (by kernel_rfl) (by kernel_rfl) (by kernel_rfl) (fun _ _ _ h => h) (Or.inr ⟨by rfl, rfl⟩) (by assumption) ?_
        simp only [Act.put, pX]
        refine wT (i := 26) (v := ?_) rfl (by kernel_rfl) (by kernel_rfl) (by kernel_rfl) (fun _ _ _ h => h) (Or.inl ⟨by rfl, ?_⟩) (by assumption) ?_
        rotate_left 1
        ·(intro w hS; (try dsimp only at hS); go_simp; try with_reducible rfl)
        simp only [Act.put, pX]
        refine wD (by kernel_rfl) ?_ _
        go_wp2_with fail
        go_ret
        exact ⟨ret_bool HR.out.symm, K4⟩
       ·cases g2 : doneB (d.done.take k) r.number
        ·cases g3 : inB r.missing 0 12
         ·have HR := Lib.hid (show deskB d = false by rw [HC.out, Bool.and_eq_false_iff]; right; exact allTo_false hlt (HO.out.trans (by simp [rowB, g1, g2, g3])))
          refine wp_region_held_drew (S := fun w' => w'.cell? ⟨w.heap.size, 1, none⟩ = some (.slice A1 n1 c1) ∧ w'.cell? ⟨w.heap.size, 3, none⟩ = some (.slice (some ⟨b, off, none⟩) n3 c3) ∧ w'.cell? ⟨ga, 0, none⟩ = some (.int .i64 r.number) ∧ w'.cell? ⟨ga, 1, none⟩ = some (.int .i64 r.missing) ∧ w'.cell? ⟨ga, 2, none⟩ = some (.int .i64 r.time)) (by kernel_rfl) (by (try dsimp only); go_keep) (fun hH => ?_)
          refine wT (i := 0) (v := ?_) rfl (by kernel_rfl) (by kernel_rfl) (by kernel_rfl) (fun _ _ _ h => h) (Or.inl ⟨by rfl, ?_⟩) (by assumption) ?_
          rotate_left 1
          ·(intro w hS; (try dsimp only at hS); go_simp; try with_reducible rfl)
          simp only [Act.put, pX]
          refine wT (i := 1) (v := ?_) rfl (by kernel_rfl) (by kernel_rfl) (by kernel_rfl) (fun _ _ _ h => h) (Or.inl ⟨by rfl, ?_⟩) (by assumption) ?_
          rotate_left 1
          ·(intro w hS; (try dsimp only at hS); go_simp; try with_reducible rfl)
          simp only [Act.put, pX]
          refine wT (i := 2) (v := ?_) rfl (by kernel_rfl) (by kernel_rfl) (by kernel_rfl) (fun _ _ _ h => h) (Or.inl ⟨by rfl, ?_⟩) (by assumption) ?_
          rotate_left 1
          ·(intro w hS; (try dsimp only at hS); go_simp; try with_reducible rfl)
          simp only [Act.put, pX]
          refine wT (i := 3) (v := ?_) rfl (by kernel_rfl) (by kernel_rfl) (by kernel_rfl) (fun _ _ _ h => h) (Or.inl ⟨by rfl, ?_⟩) (by assumption) ?_
          rotate_left 1
          ·(intro w hS; (try dsimp only at hS); go_simp; try with_reducible rfl)
          simp only [Act.put, pX]
          refine wR (rs := [4]) (by kernel_rfl) (by simp) ?_
          refine aC rfl (fun K hK => ?_) aN
          go_simp
          refine (l1Has_any _ _ _ d.known r.number _ (s1.next K3) (by omega)).mono ?_
          rw [g1]
          rintro e w4 ⟨rfl, q4⟩
          have b4 := q4.below w2.drew.heap.size
          have K4 := bel_then K3 b4
          have PB4 := PB3.next b4
          have RB4 := RB3.next b4
          have pc4 := PB4.cell
          have rc4 := RB4.cell
          clear pc3 rc3

          go_wp2_with fail
          refine hK.out _ _ (by (try dsimp only); go_keep) (fun hH => ?_)
          clear hK K
          refine wT (i := 5) (v := ?_) rfl (by kernel_rfl) (by kernel_rfl) (by kernel_rfl) (fun _ _ _ h => h) (Or.inl ⟨by rfl, ?_⟩) (by assumption) ?_
          rotate_left 1
          ·(intro w hS; (try dsimp only at hS); go_simp; try with_reducible rfl)
          simp only [Act.put, pX]
          refine wT (i := 6) (v := ?_) rfl (by kernel_rfl) (by kernel_rfl) (by kernel_rfl) (fun _ _ _ h => h) (Or.inl ⟨by rfl, ?_⟩) (by assumption) ?_
          rotate_left 1
          ·(intro w hS; (try dsimp only at hS); go_simp; try with_reducible rfl)
          simp only [Act.put, pX]
          refine wT (i := 7) (v := ?_) rfl (by kernel_rfl) (by kernel_rfl) (by kernel_rfl) (fun _ _ _ h => h) (Or.inl ⟨by rfl, ?_⟩) (by assumption) ?_
          rotate_left 1
          ·(intro w hS; (try dsimp only at hS); go_simp; try with_reducible rfl)
          simp only [Act.put, pX]
          refine wT (i := 8) (v := ?_) rfl (by kernel_rfl) (by kernel_rfl) (by kernel_rfl) (fun _ _ _ h => h) (Or.inl ⟨by rfl, ?_⟩) (by assumption) ?_
          rotate_left 1
          ·(intro w hS; (try dsimp only at hS); go_simp; try with_reducible rfl)
          simp only [Act.put, pX]
          refine wT (i := 9) (v := ?_) rfl (by kernel_rfl) (by kernel_rfl) (by kernel_rfl) (fun _ _ _ h => h) (Or.inl ⟨by rfl, ?_⟩) (by assumption) ?_
          rotate_left 1
          ·(intro w hS; (try dsimp only at hS); go_simp; try with_reducible rfl)
          simp only [Act.put, pX]
          refine wT (i := 10) (v := ?_) rfl (by kernel_rfl) (by kernel_rfl) (by kernel_rfl) (fun _ _ _ h => h) (Or.inl ⟨by rfl, ?_⟩) (by assumption) ?_
          rotate_left 1
          ·(intro w hS; (try dsimp only at hS); go_simp; try with_reducible rfl)
          simp only [Act.put, pX]
          refine wT (i := 11) (v := ?_) rfl (by kernel_rfl) (by kernel_rfl) (by kernel_rfl) (fun _ _ _ h => h) (Or.inl ⟨by rfl, ?_⟩) (by assumption) ?_
          rotate_left 1
          ·(intro w hS; (try dsimp only at hS); go_simp; try with_reducible rfl)
          simp only [Act.put, pX]
          refine wT (i := 12) (v := ?_) rfl (by kernel_rfl) (by kernel_rfl) (by kernel_rfl) (fun _ _ _ h => h) (Or.inl ⟨by rfl, ?_⟩) (by assumption) ?_
          rotate_left 1
          ·(intro w hS; (try dsimp only at hS); go_simp; try with_reducible rfl)
          simp only [Act.put, pX]
          refine wR (rs := [13]) (by kernel_rfl) (by simp) ?_
          refine aC rfl (fun K hK => ?_) aN
          go_simp
          refine (l25Done_any _ _ c3 (d.done.take k) r.number _ (s3.next K4) (by omega)).mono ?_
          rw [g2]
          rintro e w' ⟨rfl, rfl⟩

          go_wp2_with fail
          refine hK.out _ _ (by (try dsimp only); go_keep) (fun hH => ?_)
          clear hK K
          refine wT (i := 14) (v := ?_) rfl (by kernel_rfl) (by kernel_rfl) (by kernel_rfl) (fun _ _ _ h => h) (Or.inl ⟨by rfl, ?_⟩) (by assumption) ?_
          rotate_left 1
          ·(intro w hS; (try dsimp only at hS); go_simp; try with_reducible rfl)
          simp only [Act.put, pX]
          refine wT (i := 15) (v := ?_) rfl (by kernel_rfl) (by kernel_rfl) (by kernel_rfl) (fun _ _ _ h => h) (Or.inl ⟨by rfl, ?_⟩) (by assumption) ?_
          rotate_left 1
          ·(intro w hS; (try dsimp only at hS); go_simp; try with_reducible rfl)
          simp only [Act.put, pX]
          refine wT (i := 16) (v := ?_) rfl (by kernel_rfl) (by kernel_rfl) (by kernel_rfl) (fun _ _ _ h => h) (Or.inl ⟨by rfl, ?_⟩) (by assumption) ?_
          rotate_left 1
          ·(intro w hS; (try dsimp only at hS); go_simp; try with_reducible rfl)
          simp only [Act.put, pX]
          refine wT (i := 17) (v := ?_) rfl (by kernel_rfl) (by kernel_rfl) (by kernel_rfl) (fun _ _ _ h => h) (Or.inl ⟨by rfl, ?_⟩) (by assumption) ?_
          rotate_left 1
          ·(intro w hS; (try dsimp only at hS); go_simp; try with_reducible rfl)
          simp only [Act.put, pX]
          refine wR (rs := [18]) (by kernel_rfl) (by simp) ?_
          refine aC rfl (fun K hK => ?_) aN
          go_simp
          refine (l1In_any _ _ _ _).mono ?_
          rw [g3]
          rintro e w' ⟨rfl, rfl⟩

          go_wp2_with fail
          refine hK.out _ _ (by (try dsimp only); go_keep) (fun hH => ?_)
          clear hK K
          refine wT (i := 19) (v := ?_) rfl (by kernel_rfl) (by kernel_rfl) (by kernel_rfl) (fun _ _ _ h => h) (Or.inl ⟨by rfl, ?_⟩) (by assumption) ?_
          rotate_left 1
          ·(intro w hS; (try dsimp only at hS); go_simp; try with_reducible rfl)
          simp only [Act.put, pX]
          refine wT (i := 20) (v := ?_) rfl (by kernel_rfl) (by kernel_rfl) (by kernel_rfl) (fun _ _ _ h => h) (Or.inl ⟨by rfl, ?_⟩) (by assumption) ?_
          rotate_left 1
          ·(intro w hS; (try dsimp only at hS); go_simp; try with_reducible rfl)
          simp only [Act.put, pX]
          refine wT (i := 21) (v := ?_) rfl (by kernel_rfl) (by kernel_rfl) (by kernel_rfl) (fun _ _ _ h => h) (Or.inl ⟨by rfl, ?_⟩) (by assumption) ?_
          rotate_left 1
          ·(intro w hS; (try dsimp only at hS); go_simp; try with_reducible rfl)
          simp only [Act.put, pX]
          refine wT (i := 22) (v := undef) rfl (by kernel_rfl) (by kernel_rfl) (by kernel_rfl) (fun _ _ _ h => h) (Or.inr ⟨by rfl, rfl⟩) (by assumption) ?_
          simp only [Act.put, pX]
          refine wT (i := 23) (v := undef) rfl (by kernel_rfl) (by kernel_rfl) (by kernel_rfl) (fun _ _ _ h => h) (Or.inr ⟨by rfl, rfl⟩) (by assumption) ?_
          simp only [Act.put, pX]
          refine wT (i := 24) (v := undef) rfl (by kernel_rfl) (by kernel_rfl) (by kernel_rfl) (fun _ _ _ h => h) (Or.inr ⟨by rfl, rfl⟩) (by assumption) ?_
          simp only [Act.put, pX]
          refine wT (i := 25) (v := undef) rfl (by kernel_rfl) (by kernel_rfl) (by kernel_rfl) (fun _ _ _ h => h) (Or.inr ⟨by rfl, rfl⟩) (by assumption) ?_
          simp only [Act.put, pX]
          refine wT (i := 26) (v := ?_) rfl (by kernel_rfl) (by kernel_rfl) (by kernel_rfl) (fun _ _ _ h => h) (Or.inl ⟨by rfl, ?_⟩) (by assumption) ?_
          rotate_left 1
          ·(intro w hS; (try dsimp only at hS); go_simp; try with_reducible rfl)
          simp only [Act.put, pX]
          refine wD (by kernel_rfl) ?_ _
          go_wp2_with fail
          go_ret
          exact ⟨ret_bool HR.out.symm, K4⟩
         ·cases g4 : inB r.time 0 36000
          ·have HR := Lib.hid (show deskB d = false by rw [HC.out, Bool.and_eq_false_iff]; right; exact allTo_false hlt (HO.out.trans (by simp [rowB, g1, g2, g3, g4])))
           refine wp_region_held_drew (S := fun w' => w'.cell? ⟨w.heap.size, 1, none⟩ = some (.slice A1 n1 c1) ∧ w'.cell? ⟨w.heap.size, 3, none⟩ = some (.slice (some ⟨b, off, none⟩) n3 c3) ∧ w'.cell? ⟨ga, 0, none⟩ = some (.int .i64 r.number) ∧ w'.cell? ⟨ga, 1, none⟩ = some (.int .i64 r.missing) ∧ w'.cell? ⟨ga, 2, none⟩ = some (.int .i64 r.time)) (by kernel_rfl) (by (try dsimp only); go_keep) (fun hH => ?_)
           refine wT (i := 0) (v := ?_) rfl (by kernel_rfl) (by kernel_rfl) (by kernel_rfl) (fun _ _ _ h => h) (Or.inl ⟨by rfl, ?_⟩) (by assumption) ?_
           rotate_left 1
           ·(intro w hS; (try dsimp only at hS); go_simp; try with_reducible rfl)
           simp only [Act.put, pX]
           refine wT (i := 1) (v := ?_) rfl (by kernel_rfl) (by kernel_rfl) (by kernel_rfl) (fun _ _ _ h => h) (Or.inl ⟨by rfl, ?_⟩) (by assumption) ?_
           rotate_left 1
           ·(intro w hS; (try dsimp only at hS); go_simp; try with_reducible rfl)
           simp only [Act.put, pX]
           refine wT (i := 2) (v := ?_) rfl (by kernel_rfl) (by kernel_rfl) (by kernel_rfl) (fun _ _ _ h => h) (Or.inl ⟨by rfl, ?_⟩) (by assumption) ?_
           rotate_left 1
           ·(intro w hS; (try dsimp only at hS); go_simp; try with_reducible rfl)
           simp only [Act.put, pX]
           refine wT (i := 3) (v := ?_) rfl (by kernel_rfl) (by kernel_rfl) (by kernel_rfl) (fun _ _ _ h => h) (Or.inl ⟨by rfl, ?_⟩) (by assumption) ?_
           rotate_left 1
           ·(intro w hS; (try dsimp only at hS); go_simp; try with_reducible rfl)
           simp only [Act.put, pX]
           refine wR (rs := [4]) (by kernel_rfl) (by simp) ?_
           refine aC rfl (fun K hK => ?_) aN
           go_simp
           refine (l1Has_any _ _ _ d.known r.number _ (s1.next K3) (by omega)).mono ?_
           rw [g1]
           rintro e w4 ⟨rfl, q4⟩
           have b4 := q4.below w2.drew.heap.size
           have K4 := bel_then K3 b4
           have PB4 := PB3.next b4
           have RB4 := RB3.next b4
           have pc4 := PB4.cell
           have rc4 := RB4.cell
           clear pc3 rc3

           go_wp2_with fail
           refine hK.out _ _ (by (try dsimp only); go_keep) (fun hH => ?_)
           clear hK K
           refine wT (i := 5) (v := ?_) rfl (by kernel_rfl) (by kernel_rfl) (by kernel_rfl) (fun _ _ _ h => h) (Or.inl ⟨by rfl, ?_⟩) (by assumption) ?_
           rotate_left 1
           ·(intro w hS; (try dsimp only at hS); go_simp; try with_reducible rfl)
           simp only [Act.put, pX]
           refine wT (i := 6) (v := ?_) rfl (by kernel_rfl) (by kernel_rfl) (by kernel_rfl) (fun _ _ _ h => h) (Or.inl ⟨by rfl, ?_⟩) (by assumption) ?_
           rotate_left 1
           ·(intro w hS; (try dsimp only at hS); go_simp; try with_reducible rfl)
           simp only [Act.put, pX]
           refine wT (i := 7) (v := ?_) rfl (by kernel_rfl) (by kernel_rfl) (by kernel_rfl) (fun _ _ _ h => h) (Or.inl ⟨by rfl, ?_⟩) (by assumption) ?_
           rotate_left 1
           ·(intro w hS; (try dsimp only at hS); go_simp; try with_reducible rfl)
           simp only [Act.put, pX]
           refine wT (i := 8) (v := ?_) rfl (by kernel_rfl) (by kernel_rfl) (by kernel_rfl) (fun _ _ _ h => h) (Or.inl ⟨by rfl, ?_⟩) (by assumption) ?_
           rotate_left 1
           ·(intro w hS; (try dsimp only at hS); go_simp; try with_reducible rfl)
           simp only [Act.put, pX]
           refine wT (i := 9) (v := ?_) rfl (by kernel_rfl) (by kernel_rfl) (by kernel_rfl) (fun _ _ _ h => h) (Or.inl ⟨by rfl, ?_⟩) (by assumption) ?_
           rotate_left 1
           ·(intro w hS; (try dsimp only at hS); go_simp; try with_reducible rfl)
           simp only [Act.put, pX]
           refine wT (i := 10) (v := ?_) rfl (by kernel_rfl) (by kernel_rfl) (by kernel_rfl) (fun _ _ _ h => h) (Or.inl ⟨by rfl, ?_⟩) (by assumption) ?_
           rotate_left 1
           ·(intro w hS; (try dsimp only at hS); go_simp; try with_reducible rfl)
           simp only [Act.put, pX]
           refine wT (i := 11) (v := ?_) rfl (by kernel_rfl) (by kernel_rfl) (by kernel_rfl) (fun _ _ _ h => h) (Or.inl ⟨by rfl, ?_⟩) (by assumption) ?_
           rotate_left 1
           ·(intro w hS; (try dsimp only at hS); go_simp; try with_reducible rfl)
           simp only [Act.put, pX]
           refine wT (i := 12) (v := ?_) rfl (by kernel_rfl) (by kernel_rfl) (by kernel_rfl) (fun _ _ _ h => h) (Or.inl ⟨by rfl, ?_⟩) (by assumption) ?_
           rotate_left 1
           ·(intro w hS; (try dsimp only at hS); go_simp; try with_reducible rfl)
           simp only [Act.put, pX]
           refine wR (rs := [13]) (by kernel_rfl) (by simp) ?_
           refine aC rfl (fun K hK => ?_) aN
           go_simp
           refine (l25Done_any _ _ c3 (d.done.take k) r.number _ (s3.next K4) (by omega)).mono ?_
           rw [g2]
           rintro e w' ⟨rfl, rfl⟩

           go_wp2_with fail
           refine hK.out _ _ (by (try dsimp only); go_keep) (fun hH => ?_)
           clear hK K
           refine wT (i := 14) (v := ?_) rfl (by kernel_rfl) (by kernel_rfl) (by kernel_rfl) (fun _ _ _ h => h) (Or.inl ⟨by rfl, ?_⟩) (by assumption) ?_
           rotate_left 1
           ·(intro w hS; (try dsimp only at hS); go_simp; try with_reducible rfl)
           simp only [Act.put, pX]
           refine wT (i := 15) (v := ?_) rfl (by kernel_rfl) (by kernel_rfl) (by kernel_rfl) (fun _ _ _ h => h) (Or.inl ⟨by rfl, ?_⟩) (by assumption) ?_
           rotate_left 1
           ·(intro w hS; (try dsimp only at hS); go_simp; try with_reducible rfl)
           simp only [Act.put, pX]
           refine wT (i := 16) (v := ?_) rfl (by kernel_rfl) (by kernel_rfl) (by kernel_rfl) (fun _ _ _ h => h) (Or.inl ⟨by rfl, ?_⟩) (by assumption) ?_
           rotate_left 1
           ·(intro w hS; (try dsimp only at hS); go_simp; try with_reducible rfl)
           simp only [Act.put, pX]
           refine wT (i := 17) (v := ?_) rfl (by kernel_rfl) (by kernel_rfl) (by kernel_rfl) (fun _ _ _ h => h) (Or.inl ⟨by rfl, ?_⟩) (by assumption) ?_
           rotate_left 1
           ·(intro w hS; (try dsimp only at hS); go_simp; try with_reducible rfl)
           simp only [Act.put, pX]
           refine wR (rs := [18]) (by kernel_rfl) (by simp) ?_
           refine aC rfl (fun K hK => ?_) aN
           go_simp
           refine (l1In_any _ _ _ _).mono ?_
           rw [g3]
           rintro e w' ⟨rfl, rfl⟩

           go_wp2_with fail
           refine hK.out _ _ (by (try dsimp only); go_keep) (fun hH => ?_)
           clear hK K
           refine wT (i := 19) (v := ?_) rfl (by kernel_rfl) (by kernel_rfl) (by kernel_rfl) (fun _ _ _ h => h) (Or.inl ⟨by rfl, ?_⟩) (by assumption) ?_
           rotate_left 1
           ·(intro w hS; (try dsimp only at hS); go_simp; try with_reducible rfl)
           simp only [Act.put, pX]
           refine wT (i := 20) (v := ?_) rfl (by kernel_rfl) (by kernel_rfl) (by kernel_rfl) (fun _ _ _ h => h) (Or.inl ⟨by rfl, ?_⟩) (by assumption) ?_
           rotate_left 1
           ·(intro w hS; (try dsimp only at hS); go_simp; try with_reducible rfl)
           simp only [Act.put, pX]
           refine wT (i := 21) (v := ?_) rfl (by kernel_rfl) (by kernel_rfl) (by kernel_rfl) (fun _ _ _ h => h) (Or.inl ⟨by rfl, ?_⟩) (by assumption) ?_
           rotate_left 1
           ·(intro w hS; (try dsimp only at hS); go_simp; try with_reducible rfl)
           simp only [Act.put, pX]
           refine wT (i := 22) (v := ?_) rfl (by kernel_rfl) (by kernel_rfl) (by kernel_rfl) (fun _ _ _ h => h) (Or.inl ⟨by rfl, ?_⟩) (by assumption) ?_
           rotate_left 1
           ·(intro w hS; (try dsimp only at hS); go_simp; try with_reducible rfl)
           simp only [Act.put, pX]
           refine wT (i := 23) (v := ?_) rfl (by kernel_rfl) (by kernel_rfl) (by kernel_rfl) (fun _ _ _ h => h) (Or.inl ⟨by rfl, ?_⟩) (by assumption) ?_
           rotate_left 1
           ·(intro w hS; (try dsimp only at hS); go_simp; try with_reducible rfl)
           simp only [Act.put, pX]
           refine wR (rs := [24]) (by kernel_rfl) (by simp) ?_
           refine aC rfl (fun K hK => ?_) aN
           go_simp
           refine (l12Time_any _ _).mono ?_
           rw [g4]
           rintro e w' ⟨rfl, rfl⟩

           go_wp2_with fail
           refine hK.out _ _ (by (try dsimp only); go_keep) (fun hH => ?_)
           clear hK K
           refine wT (i := 25) (v := ?_) rfl (by kernel_rfl) (by kernel_rfl) (by kernel_rfl) (fun _ _ _ h => h) (Or.inl ⟨by rfl, ?_⟩) (by assumption) ?_
           rotate_left 1
           ·(intro w hS; (try dsimp only at hS); go_simp; try with_reducible rfl)
           simp only [Act.put, pX]
           refine wT (i := 26) (v := ?_) rfl (by kernel_rfl) (by kernel_rfl) (by kernel_rfl) (fun _ _ _ h => h) (Or.inl ⟨by rfl, ?_⟩) (by assumption) ?_
           rotate_left 1
           ·(intro w hS; (try dsimp only at hS); go_simp; try with_reducible rfl)
           simp only [Act.put, pX]
           refine wD (by kernel_rfl) ?_ _
           go_wp2_with fail
           go_ret
           exact ⟨ret_bool HR.out.symm, K4⟩
          ·have HA2 := Lib.hid (allTo_succ HA.out (HO.out.trans (by simp [rowB, g1, g2, g3, g4])))
           refine wp_region_held_drew (S := fun w' => w'.cell? ⟨w.heap.size, 1, none⟩ = some (.slice A1 n1 c1) ∧ w'.cell? ⟨w.heap.size, 3, none⟩ = some (.slice (some ⟨b, off, none⟩) n3 c3) ∧ w'.cell? ⟨ga, 0, none⟩ = some (.int .i64 r.number) ∧ w'.cell? ⟨ga, 1, none⟩ = some (.int .i64 r.missing) ∧ w'.cell? ⟨ga, 2, none⟩ = some (.int .i64 r.time)) (by kernel_rfl) (by (try dsimp only); go_keep) (fun hH => ?_)
           refine wT (i := 0) (v := ?_) rfl (by kernel_rfl) (by kernel_rfl) (by kernel_rfl) (fun _ _ _ h => h) (Or.inl ⟨by rfl, ?_⟩) (by assumption) ?_
           rotate_left 1
           ·(intro w hS; (try dsimp only at hS); go_simp; try with_reducible rfl)
           simp only [Act.put, pX]
           refine wT (i := 1) (v := ?_) rfl (by kernel_rfl) (by kernel_rfl) (by kernel_rfl) (fun _ _ _ h => h) (Or.inl ⟨by rfl, ?_⟩) (by assumption) ?_
           rotate_left 1
           ·(intro w hS; (try dsimp only at hS); go_simp; try with_reducible rfl)
           simp only [Act.put, pX]
           refine wT (i := 2) (v := ?_) rfl (by kernel_rfl) (by kernel_rfl) (by kernel_rfl) (fun _ _ _ h => h) (Or.inl ⟨by rfl, ?_⟩) (by assumption) ?_
           rotate_left 1
           ·(intro w hS; (try dsimp only at hS); go_simp; try with_reducible rfl)
           simp only [Act.put, pX]
           refine wT (i := 3) (v := ?_) rfl (by kernel_rfl) (by kernel_rfl) (by kernel_rfl) (fun _ _ _ h => h) (Or.inl ⟨by rfl, ?_⟩) (by assumption) ?_
           rotate_left 1
           ·(intro w hS; (try dsimp only at hS); go_simp; try with_reducible rfl)
           simp only [Act.put, pX]
           refine wR (rs := [4]) (by kernel_rfl) (by simp) ?_
           refine aC rfl (fun K hK => ?_) aN
           go_simp
           refine (l1Has_any _ _ _ d.known r.number _ (s1.next K3) (by omega)).mono ?_
           rw [g1]
           rintro e w4 ⟨rfl, q4⟩
           have b4 := q4.below w2.drew.heap.size
           have K4 := bel_then K3 b4
           have PB4 := PB3.next b4
           have RB4 := RB3.next b4
           have pc4 := PB4.cell
           have rc4 := RB4.cell
           clear pc3 rc3

           go_wp2_with fail
           refine hK.out _ _ (by (try dsimp only); go_keep) (fun hH => ?_)
           clear hK K
           refine wT (i := 5) (v := ?_) rfl (by kernel_rfl) (by kernel_rfl) (by kernel_rfl) (fun _ _ _ h => h) (Or.inl ⟨by rfl, ?_⟩) (by assumption) ?_
           rotate_left 1
           ·(intro w hS; (try dsimp only at hS); go_simp; try with_reducible rfl)
           simp only [Act.put, pX]
           refine wT (i := 6) (v := ?_) rfl (by kernel_rfl) (by kernel_rfl) (by kernel_rfl) (fun _ _ _ h => h) (Or.inl ⟨by rfl, ?_⟩) (by assumption) ?_
           rotate_left 1
           ·(intro w hS; (try dsimp only at hS); go_simp; try with_reducible rfl)
           simp only [Act.put, pX]
           refine wT (i := 7) (v := ?_) rfl (by kernel_rfl) (by kernel_rfl) (by kernel_rfl) (fun _ _ _ h => h) (Or.inl ⟨by rfl, ?_⟩) (by assumption) ?_
           rotate_left 1
           ·(intro w hS; (try dsimp only at hS); go_simp; try with_reducible rfl)
           simp only [Act.put, pX]
           refine wT (i := 8) (v := ?_) rfl (by kernel_rfl) (by kernel_rfl) (by kernel_rfl) (fun _ _ _ h => h) (Or.inl ⟨by rfl, ?_⟩) (by assumption) ?_
           rotate_left 1
           ·(intro w hS; (try dsimp only at hS); go_simp; try with_reducible rfl)
           simp only [Act.put, pX]
           refine wT (i := 9) (v := ?_) rfl (by kernel_rfl) (by kernel_rfl) (by kernel_rfl) (fun _ _ _ h => h) (Or.inl ⟨by rfl, ?_⟩) (by assumption) ?_
           rotate_left 1
           ·(intro w hS; (try dsimp only at hS); go_simp; try with_reducible rfl)
           simp only [Act.put, pX]
           refine wT (i := 10) (v := ?_) rfl (by kernel_rfl) (by kernel_rfl) (by kernel_rfl) (fun _ _ _ h => h) (Or.inl ⟨by rfl, ?_⟩) (by assumption) ?_
           rotate_left 1
           ·(intro w hS; (try dsimp only at hS); go_simp; try with_reducible rfl)
           simp only [Act.put, pX]
           refine wT (i := 11) (v := ?_) rfl (by kernel_rfl) (by kernel_rfl) (by kernel_rfl) (fun _ _ _ h => h) (Or.inl ⟨by rfl, ?_⟩) (by assumption) ?_
           rotate_left 1
           ·(intro w hS; (try dsimp only at hS); go_simp; try with_reducible rfl)
           simp only [Act.put, pX]
           refine wT (i := 12) (v := ?_) rfl (by kernel_rfl) (by kernel_rfl) (by kernel_rfl) (fun _ _ _ h => h) (Or.inl ⟨by rfl, ?_⟩) (by assumption) ?_
           rotate_left 1
           ·(intro w hS; (try dsimp only at hS); go_simp; try with_reducible rfl)
           simp only [Act.put, pX]
           refine wR (rs := [13]) (by kernel_rfl) (by simp) ?_
           refine aC rfl (fun K hK => ?_) aN
           go_simp
           refine (l25Done_any _ _ c3 (d.done.take k) r.number _ (s3.next K4) (by omega)).mono ?_
           rw [g2]
           rintro e w' ⟨rfl, rfl⟩

           go_wp2_with fail
           refine hK.out _ _ (by (try dsimp only); go_keep) (fun hH => ?_)
           clear hK K
           refine wT (i := 14) (v := ?_) rfl (by kernel_rfl) (by kernel_rfl) (by kernel_rfl) (fun _ _ _ h => h) (Or.inl ⟨by rfl, ?_⟩) (by assumption) ?_
           rotate_left 1
           ·(intro w hS; (try dsimp only at hS); go_simp; try with_reducible rfl)
           simp only [Act.put, pX]
           refine wT (i := 15) (v := ?_) rfl (by kernel_rfl) (by kernel_rfl) (by kernel_rfl) (fun _ _ _ h => h) (Or.inl ⟨by rfl, ?_⟩) (by assumption) ?_
           rotate_left 1
           ·(intro w hS; (try dsimp only at hS); go_simp; try with_reducible rfl)
           simp only [Act.put, pX]
           refine wT (i := 16) (v := ?_) rfl (by kernel_rfl) (by kernel_rfl) (by kernel_rfl) (fun _ _ _ h => h) (Or.inl ⟨by rfl, ?_⟩) (by assumption) ?_
           rotate_left 1
           ·(intro w hS; (try dsimp only at hS); go_simp; try with_reducible rfl)
           simp only [Act.put, pX]
           refine wT (i := 17) (v := ?_) rfl (by kernel_rfl) (by kernel_rfl) (by kernel_rfl) (fun _ _ _ h => h) (Or.inl ⟨by rfl, ?_⟩) (by assumption) ?_
           rotate_left 1
           ·(intro w hS; (try dsimp only at hS); go_simp; try with_reducible rfl)
           simp only [Act.put, pX]
           refine wR (rs := [18]) (by kernel_rfl) (by simp) ?_
           refine aC rfl (fun K hK => ?_) aN
           go_simp
           refine (l1In_any _ _ _ _).mono ?_
           rw [g3]
           rintro e w' ⟨rfl, rfl⟩

           go_wp2_with fail
           refine hK.out _ _ (by (try dsimp only); go_keep) (fun hH => ?_)
           clear hK K
           refine wT (i := 19) (v := ?_) rfl (by kernel_rfl) (by kernel_rfl) (by kernel_rfl) (fun _ _ _ h => h) (Or.inl ⟨by rfl, ?_⟩) (by assumption) ?_
           rotate_left 1
           ·(intro w hS; (try dsimp only at hS); go_simp; try with_reducible rfl)
           simp only [Act.put, pX]
           refine wT (i := 20) (v := ?_) rfl (by kernel_rfl) (by kernel_rfl) (by kernel_rfl) (fun _ _ _ h => h) (Or.inl ⟨by rfl, ?_⟩) (by assumption) ?_
           rotate_left 1
           ·(intro w hS; (try dsimp only at hS); go_simp; try with_reducible rfl)
           simp only [Act.put, pX]
           refine wT (i := 21) (v := ?_) rfl (by kernel_rfl) (by kernel_rfl) (by kernel_rfl) (fun _ _ _ h => h) (Or.inl ⟨by rfl, ?_⟩) (by assumption) ?_
           rotate_left 1
           ·(intro w hS; (try dsimp only at hS); go_simp; try with_reducible rfl)
           simp only [Act.put, pX]
           refine wT (i := 22) (v := ?_) rfl (by kernel_rfl) (by kernel_rfl) (by kernel_rfl) (fun _ _ _ h => h) (Or.inl ⟨by rfl, ?_⟩) (by assumption) ?_
           rotate_left 1
           ·(intro w hS; (try dsimp only at hS); go_simp; try with_reducible rfl)
           simp only [Act.put, pX]
           refine wT (i := 23) (v := ?_) rfl (by kernel_rfl) (by kernel_rfl) (by kernel_rfl) (fun _ _ _ h => h) (Or.inl ⟨by rfl, ?_⟩) (by assumption) ?_
           rotate_left 1
           ·(intro w hS; (try dsimp only at hS); go_simp; try with_reducible rfl)
           simp only [Act.put, pX]
           refine wR (rs := [24]) (by kernel_rfl) (by simp) ?_
           refine aC rfl (fun K hK => ?_) aN
           go_simp
           refine (l12Time_any _ _).mono ?_
           rw [g4]
           rintro e w' ⟨rfl, rfl⟩

           go_wp2_with fail
           refine hK.out _ _ (by (try dsimp only); go_keep) (fun hH => ?_)
           clear hK K
           refine wT (i := 25) (v := ?_) rfl (by kernel_rfl) (by kernel_rfl) (by kernel_rfl) (fun _ _ _ h => h) (Or.inl ⟨by rfl, ?_⟩) (by assumption) ?_
           rotate_left 1
           ·(intro w hS; (try dsimp only at hS); go_simp; try with_reducible rfl)
           simp only [Act.put, pX]
           refine wT (i := 26) (v := ?_) rfl (by kernel_rfl) (by kernel_rfl) (by kernel_rfl) (fun _ _ _ h => h) (Or.inl ⟨by rfl, ?_⟩) (by assumption) ?_
           rotate_left 1
           ·(intro w hS; (try dsimp only at hS); go_simp; try with_reducible rfl)
           simp only [Act.put, pX]
           refine wD (by kernel_rfl) ?_ _
           go_wp2_with fail
           go_roundw
           case rel => exact ⟨k + 1, by omega, by go_num, HA2, PB4, K4⟩
           case measure => simp [intOf]; omega
        ·have HR := Lib.hid (show deskB d = false by rw [HC.out, Bool.and_eq_false_iff]; right; exact allTo_false hlt (HO.out.trans (by simp [rowB, g1, g2])))
         refine wp_region_held_drew (S := fun w' => w'.cell? ⟨w.heap.size, 1, none⟩ = some (.slice A1 n1 c1) ∧ w'.cell? ⟨w.heap.size, 3, none⟩ = some (.slice (some ⟨b, off, none⟩) n3 c3) ∧ w'.cell? ⟨ga, 0, none⟩ = some (.int .i64 r.number) ∧ w'.cell? ⟨ga, 1, none⟩ = some (.int .i64 r.missing) ∧ w'.cell? ⟨ga, 2, none⟩ = some (.int .i64 r.time)) (by kernel_rfl) (by (try dsimp only); go_keep) (fun hH => ?_)
         refine wT (i := 0) (v := ?_) rfl (by kernel_rfl) (by kernel_rfl) (by kernel_rfl) (fun _ _ _ h => h) (Or.inl ⟨by rfl, ?_⟩) (by assumption) ?_
         rotate_left 1
         ·(intro w hS; (try dsimp only at hS); go_simp; try with_reducible rfl)
         simp only [Act.put, pX]
         refine wT (i := 1) (v := ?_) rfl (by kernel_rfl) (by kernel_rfl) (by kernel_rfl) (fun _ _ _ h => h) (Or.inl ⟨by rfl, ?_⟩) (by assumption) ?_
         rotate_left 1
         ·(intro w hS; (try dsimp only at hS); go_simp; try with_reducible rfl)
         simp only [Act.put, pX]
         refine wT (i := 2) (v := ?_) rfl (by kernel_rfl) (by kernel_rfl) (by kernel_rfl) (fun _ _ _ h => h) (Or.inl ⟨by rfl, ?_⟩) (by assumption) ?_
         rotate_left 1
         ·(intro w hS; (try dsimp only at hS); go_simp; try with_reducible rfl)
         simp only [Act.put, pX]
         refine wT (i := 3) (v := ?_) rfl (by kernel_rfl) (by kernel_rfl) (by kernel_rfl) (fun _ _ _ h => h) (Or.inl ⟨by rfl, ?_⟩) (by assumption) ?_
         rotate_left 1
         ·(intro w hS; (try dsimp only at hS); go_simp; try with_reducible rfl)
         simp only [Act.put, pX]
         refine wR (rs := [4]) (by kernel_rfl) (by simp) ?_
         refine aC rfl (fun K hK => ?_) aN
         go_simp
         refine (l1Has_any _ _ _ d.known r.number _ (s1.next K3) (by omega)).mono ?_
         rw [g1]
         rintro e w4 ⟨rfl, q4⟩
         have b4 := q4.below w2.drew.heap.size
         have K4 := bel_then K3 b4
         have PB4 := PB3.next b4
         have RB4 := RB3.next b4
         have pc4 := PB4.cell
         have rc4 := RB4.cell
         clear pc3 rc3

         go_wp2_with fail
         refine hK.out _ _ (by (try dsimp only); go_keep) (fun hH => ?_)
         clear hK K
         refine wT (i := 5) (v := ?_) rfl (by kernel_rfl) (by kernel_rfl) (by kernel_rfl) (fun _ _ _ h => h) (Or.inl ⟨by rfl, ?_⟩) (by assumption) ?_
         rotate_left 1
         ·(intro w hS; (try dsimp only at hS); go_simp; try with_reducible rfl)
         simp only [Act.put, pX]
         refine wT (i := 6) (v := ?_) rfl (by kernel_rfl) (by kernel_rfl) (by kernel_rfl) (fun _ _ _ h => h) (Or.inl ⟨by rfl, ?_⟩) (by assumption) ?_
         rotate_left 1
         ·(intro w hS; (try dsimp only at hS); go_simp; try with_reducible rfl)
         simp only [Act.put, pX]
         refine wT (i := 7) (v := ?_) rfl (by kernel_rfl) (by kernel_rfl) (by kernel_rfl) (fun _ _ _ h => h) (Or.inl ⟨by rfl, ?_⟩) (by assumption) ?_
         rotate_left 1
         ·(intro w hS; (try dsimp only at hS); go_simp; try with_reducible rfl)
         simp only [Act.put, pX]
         refine wT (i := 8) (v := ?_) rfl (by kernel_rfl) (by kernel_rfl) (by kernel_rfl) (fun _ _ _ h => h) (Or.inl ⟨by rfl, ?_⟩) (by assumption) ?_
         rotate_left 1
         ·(intro w hS; (try dsimp only at hS); go_simp; try with_reducible rfl)
         simp only [Act.put, pX]
         refine wT (i := 9) (v := ?_) rfl (by kernel_rfl) (by kernel_rfl) (by kernel_rfl) (fun _ _ _ h => h) (Or.inl ⟨by rfl, ?_⟩) (by assumption) ?_
         rotate_left 1
         ·(intro w hS; (try dsimp only at hS); go_simp; try with_reducible rfl)
         simp only [Act.put, pX]
         refine wT (i := 10) (v := ?_) rfl (by kernel_rfl) (by kernel_rfl) (by kernel_rfl) (fun _ _ _ h => h) (Or.inl ⟨by rfl, ?_⟩) (by assumption) ?_
         rotate_left 1
         ·(intro w hS; (try dsimp only at hS); go_simp; try with_reducible rfl)
         simp only [Act.put, pX]
         refine wT (i := 11) (v := ?_) rfl (by kernel_rfl) (by kernel_rfl) (by kernel_rfl) (fun _ _ _ h => h) (Or.inl ⟨by rfl, ?_⟩) (by assumption) ?_
         rotate_left 1
         ·(intro w hS; (try dsimp only at hS); go_simp; try with_reducible rfl)
         simp only [Act.put, pX]
         refine wT (i := 12) (v := ?_) rfl (by kernel_rfl) (by kernel_rfl) (by kernel_rfl) (fun _ _ _ h => h) (Or.inl ⟨by rfl, ?_⟩) (by assumption) ?_
         rotate_left 1
         ·(intro w hS; (try dsimp only at hS); go_simp; try with_reducible rfl)
         simp only [Act.put, pX]
         refine wR (rs := [13]) (by kernel_rfl) (by simp) ?_
         refine aC rfl (fun K hK => ?_) aN
         go_simp
         refine (l25Done_any _ _ c3 (d.done.take k) r.number _ (s3.next K4) (by omega)).mono ?_
         rw [g2]
         rintro e w' ⟨rfl, rfl⟩

         go_wp2_with fail
         refine hK.out _ _ (by (try dsimp only); go_keep) (fun hH => ?_)
         clear hK K
         refine wT (i := 14) (v := ?_) rfl (by kernel_rfl) (by kernel_rfl) (by kernel_rfl) (fun _ _ _ h => h) (Or.inl ⟨by rfl, ?_⟩) (by assumption) ?_
         rotate_left 1
         ·(intro w hS; (try dsimp only at hS); go_simp; try with_reducible rfl)
         simp only [Act.put, pX]
         refine wT (i := 15) (v := ?_) rfl (by kernel_rfl) (by kernel_rfl) (by kernel_rfl) (fun _ _ _ h => h) (Or.inl ⟨by rfl, ?_⟩) (by assumption) ?_
         rotate_left 1
         ·(intro w hS; (try dsimp only at hS); go_simp; try with_reducible rfl)
         simp only [Act.put, pX]
         refine wT (i := 16) (v := undef) rfl (by kernel_rfl) (by kernel_rfl) (by kernel_rfl) (fun _ _ _ h => h) (Or.inr ⟨by rfl, rfl⟩) (by assumption) ?_
         simp only [Act.put, pX]
         refine wT (i := 17) (v := undef) rfl (by kernel_rfl) (by kernel_rfl) (by kernel_rfl) (fun _ _ _ h => h) (Or.inr ⟨by rfl, rfl⟩) (by assumption) ?_
         simp only [Act.put, pX]
         refine wT (i := 18) (v := undef) rfl (by kernel_rfl) (by kernel_rfl) (by kernel_rfl) (fun _ _ _ h => h) (Or.inr ⟨by rfl, rfl⟩) (by assumption) ?_
         simp only [Act.put, pX]
         refine wT (i := 19) (v := undef) rfl (by kernel_rfl) (by kernel_rfl) (by kernel_rfl) (fun _ _ _ h => h) (Or.inr ⟨by rfl, rfl⟩) (by assumption) ?_
         simp only [Act.put, pX]
         refine wT (i := 20) (v := ?_) rfl (by kernel_rfl) (by kernel_rfl) (by kernel_rfl) (fun _ _ _ h => h) (Or.inl ⟨by rfl, ?_⟩) (by assumption) ?_
         rotate_left 1
         ·(intro w hS; (try dsimp only at hS); go_simp; try with_reducible rfl)
         simp only [Act.put, pX]
         refine wT (i := 21) (v := ?_) rfl (by kernel_rfl) (by kernel_rfl) (by kernel_rfl) (fun _ _ _ h => h) (Or.inl ⟨by rfl, ?_⟩) (by assumption) ?_
         rotate_left 1
         ·(intro w hS; (try dsimp only at hS); go_simp; try with_reducible rfl)
         simp only [Act.put, pX]
         refine wT (i := 22) (v := undef) rfl (by kernel_rfl) (by kernel_rfl) (by kernel_rfl) (fun _ _ _ h => h) (Or.inr ⟨by rfl, rfl⟩) (by assumption) ?_
         simp only [Act.put, pX]
         refine wT (i := 23) (v := undef) rfl (by kernel_rfl) (by kernel_rfl) (by kernel_rfl) (fun _ _ _ h => h) (Or.inr ⟨by rfl, rfl⟩) (by assumption) ?_
         simp only [Act.put, pX]
         refine wT (i := 24) (v := undef) rfl (by kernel_rfl) (by kernel_rfl) (by kernel_rfl) (fun _ _ _ h => h) (Or.inr ⟨by rfl, rfl⟩) (by assumption) ?_
         simp only [Act.put, pX]
         refine wT (i := 25) (v := undef) rfl (by kernel_rfl) (by kernel_rfl) (by kernel_rfl) (fun _ _ _ h => h) (Or.inr ⟨by rfl, rfl⟩) (by assumption) ?_
         simp only [Act.put, pX]
         refine wT (i := 26) (v := ?_) rfl (by kernel_rfl) (by kernel_rfl) (by kernel_rfl) (fun _ _ _ h => h) (Or.inl ⟨by rfl, ?_⟩) (by assumption) ?_
         rotate_left 1
         ·(intro w hS; (try dsimp only at hS); go_simp; try with_reducible rfl)
         simp only [Act.put, pX]
         refine wD (by kernel_rfl) ?_ _
         go_wp2_with fail
         go_ret
         exact ⟨ret_bool HR.out.symm, K4⟩
      ·obtain rfl : k = n3 := by omega
       have HD := Lib.hid (show deskB d = (d.queue.all finB && d.trouble.all finB) by rw [HC.out, HA.out, Bool.and_true])
       clear HA
       go_wp2_with fail
       refine (l25Cards_any _ _ _ d.queue _ (s2.next hb) ft2 fx2).mono ?_
       cases gq : d.queue.all finB
       ·rintro e wn ⟨rfl, bn⟩
        have HF := Lib.hid (show deskB d = false by rw [HD.out, gq]; rfl)
        go_wp2_with fail
        go_ret
        exact ⟨ret_bool HF.out.symm, bel_then hb bn⟩
       ·rintro e wn ⟨rfl, bn⟩
        have HF := Lib.hid (show deskB d = d.trouble.all finB by rw [HD.out, gq]; rfl)
        replace hb := bel_then hb bn
        have pc' := (PB.next bn).cell
        clear pc
        go_wp2_with fail
        refine (l25Cards_any _ _ _ d.trouble _ (s4.next hb) ft4 fx4).mono ?_
        rintro e wm ⟨rfl, bm⟩
        go_wp2_with fail
        go_ret
        exact ⟨ret_bool HF.out.symm, bel_then hb bm⟩
    ·have HF := Lib.hid (show deskB d = false from topB_not (by simp [topB, l1, l2, l3, l4, gtot]))
     go_wp2_with fail
     go_ret
     exact ⟨ret_bool HF.out.symm, KB⟩
   ·have HF := Lib.hid (show deskB d = false from topB_not (by simp [topB, l1, l2, l3, l4, glen]))
    go_wp2_with fail
    go_ret
    exact ⟨ret_bool HF.out.symm, KB⟩

end Go.Proofs.YtkimlajfhepfgaaGreat

namespace Go.Proofs.YtkimlajfhepfgaaGreat
open Go.RowKit

def waitTo (d : DeskV) (k : Nat) : List Int := (d.known.take k).filter fun v => !doneB d.done v
def waitM (d : DeskV) : Option (List Int) := if deskB d then some (d.known.filter fun v => !doneB d.done v) else none
theorem waitM_len (d : DeskV) : ((waitM d).getD []).length ≤ d.known.length := by
  unfold waitM
  split
  · exact List.length_filter_le _ _
  · simp
theorem deskB_top {d : DeskV} (h : deskB d = true) : d.known.length ≤ 8 ∧ d.queue.length + d.done.length + d.trouble.length ≤ 10 := by
  unfold deskB topB at h
  simp only [Bool.and_eq_true, decide_eq_true_eq] at h
  exact ⟨h.1.1.1.1.1.2, h.1.2⟩
theorem waitTo_next (d : DeskV) {k : Nat} (hk : k < d.known.length) : waitTo d (k + 1) = if doneB d.done d.known[k] then waitTo d k else waitTo d k ++ [d.known[k]] := by
  unfold waitTo
  rw [filter_next hk]
  cases doneB d.done d.known[k] <;> simp
theorem own_low {w : World} {base base' t s n c : Nat} {A : Option Addr} {cs : List Value} (h : w.ownsRow base t s (.slice A n c) n cs) (hb : base' ≤ base) : w.ownsRow base' t s (.slice A n c) n cs :=
  ⟨h.1, h.2.imp id fun ⟨g, cap, cur, h1, h2, h3⟩ => ⟨g, cap, cur, h1, Nat.le_trans hb h2, h3⟩⟩

theorem WaitingFor1_any (h : DeskH) (rows : List DeskRow) (v : Int) (B : Nat) (w : World) (hx : Sees w 0 3 h.A3 h.n3 (rows.flatMap DeskRow.enc)) (hn : h.n3 ≤ 1048576) (hB : Blk w B 28 [.slice h.A0 h.n0 h.c0, .slice h.A1 h.n1 h.c1, .slice h.A2 h.n2 h.c2, .slice h.A3 h.n3 h.c3, .slice h.A4 h.n4 h.c4]) :
    Calls Tryz.prog 59 #[.int .i64 v, .pointer (some ⟨B, 0, none⟩)] w fun e w' => e = .returned (.bool (doneB rows v)) ∧ Below w.heap.size w w' := by
  have c1 := hB.cell
  go_enter Tryz.func59, Tryz.ntmps59
  go_wp2_with fail
  refine (isDone_any _ _ h.c3 rows v _ hx hn).mono ?_
  rintro e w1 ⟨rfl, b1⟩
  go_wp2_with fail
  go_ret
  exact ⟨rfl, b1⟩
theorem WaitingFor1_answers (h : DeskH) (rows : List DeskRow) (xs : List Int) (B : Nat) (A : Option Addr) (w0 w : World) (hx : Sees w0 0 3 h.A3 h.n3 (rows.flatMap DeskRow.enc)) (hn : h.n3 ≤ 1048576) (hB : Blk w0 B 28 [.slice h.A0 h.n0 h.c0, .slice h.A1 h.n1 h.c1, .slice h.A2 h.n2 h.c2, .slice h.A3 h.n3 h.c3, .slice h.A4 h.n4 h.c4]) (hA : ∀ b, OwnB A b → w0.heap.size ≤ b) (hw : Below w0.heap.size w0 w) :
    AnswersO 59 #[.pointer (some ⟨B, 0, none⟩)] (Value.int .i64) (doneB rows) xs (OwnB A) w :=
  ⟨enters_of Tryz.func59 (by kernel_rfl) rfl, fun x _ W hb => by
    have h2 : Below w0.heap.size w0 W := hw.trans (hb.below hA hw.size)
    exact WaitingFor1_any h rows x B W (hx.below h2 (Nat.le_refl _)) hn (hB.next h2)⟩

set_option maxRecDepth 100000 in
set_option maxHeartbeats 1000000 in
theorem WaitingFor_any (h : DeskH) (d : DeskV) (w : World) (hs : SeesDesk w 0 h d) (hn : DeskFit 1048576 h d) (hcap : h.n3 ≤ h.c3) :
    Calls Tryz.prog 21 #[.agg #[.slice h.A0 h.n0 h.c0, .slice h.A1 h.n1 h.c1, .slice h.A2 h.n2 h.c2, .slice h.A3 h.n3 h.c3, .slice h.A4 h.n4 h.c4]] w (GivesInts w (waitM d)) := by
  have hmf : ∀ (fn : Fn) (first cap : Array Value) (w : World), (Instr.makeFunc fn first cap).run Tryz.prog w = .ok (.func fn first cap) w := fun _ _ _ _ => rfl
  have K0 : Below w.heap.size w (w.alloc (.cells #[.slice h.A0 h.n0 h.c0, .slice h.A1 h.n1 h.c1, .slice h.A2 h.n2 h.c2, .slice h.A3 h.n3 h.c3, .slice h.A4 h.n4 h.c4] 28)) := (Below.refl _ _).alloc (Nat.le_refl _) _
  have P0 : Blk (w.alloc (.cells #[.slice h.A0 h.n0 h.c0, .slice h.A1 h.n1 h.c1, .slice h.A2 h.n2 h.c2, .slice h.A3 h.n3 h.c3, .slice h.A4 h.n4 h.c4] 28)) w.heap.size 28 [.slice h.A0 h.n0 h.c0, .slice h.A1 h.n1 h.c1, .slice h.A2 h.n2 h.c2, .slice h.A3 h.n3 h.c3, .slice h.A4 h.n4 h.c4] := Blk.at_ rfl
  go_enter Tryz.func21, Tryz.ntmps21
  go_wp2_with fail
  refine (IsDesk_any h d _ (hs.next K0) hn hcap).mono ?_
  cases g : deskB d
  · rintro e w1 ⟨rfl, b1⟩
    go_wp2_with fail
    go_ret2
    rw [show waitM d = none by simp [waitM, g]]
    exact gives_nil (bel_then K0 b1)
  · rintro e w1 ⟨rfl, b1⟩
    have HR := Lib.hid (show waitM d = some (d.known.filter fun v => !doneB d.done v) by simp [waitM, g])
    have ht := (deskB_top g).1
    have K1 := bel_then K0 b1
    have P1 := P0.next b1
    have c1 := P1.cell
    have hx1 := (hs.next K1).f3
    clear g
    go_wp2_with fail
    refine (copyInts_any _ _ _ 0 d.known _ (hs.f1.next K1) hn.n1).mono ?_
    rintro e w2 ⟨A, c, rfl, o2, b2⟩
    have K2 := bel_then K1 b2
    have P2 := P1.next b2
    have ans := WaitingFor1_answers h d.done d.known w.heap.size A w1 w2 hx1 hn.n3 P1 (fun b hb => (own_top o2 hb).1) b2
    clear c1
    go_wp2_with fail
    refine (DeleteFunc_int 59 #[.pointer (some ⟨w.heap.size, 0, none⟩)] (doneB d.done) w1.heap.size 3 d.known.length c A d.known w2 o2 (by omega) ans).mono ?_
    rintro e w3 ⟨rfl, o3, O3⟩
    have K3 : Below w.heap.size w w3 := K2.trans (O3.below (fun b hb => Nat.le_trans K1.size (own_top o2 hb).1) K2.size)
    have o4 := own_low o3 K1.size
    clear ans o2 o3
    go_wp2_with fail
    go_ret2
    rw [HR.out]
    exact ⟨A, c, rfl, o4, K3⟩

set_option maxRecDepth 100000 in
set_option maxHeartbeats 2000000 in
theorem specWaitingFor_any (h : DeskH) (d : DeskV) (w : World) (hs : SeesDesk w 0 h d) (hn : DeskFit 1048576 h d) (hcap : h.n3 ≤ h.c3) :
    Calls Tryz.prog 25 #[.agg #[.slice h.A0 h.n0 h.c0, .slice h.A1 h.n1 h.c1, .slice h.A2 h.n2 h.c2, .slice h.A3 h.n3 h.c3, .slice h.A4 h.n4 h.c4]] w (GivesInts w (waitM d)) := by
  have K0 : Below w.heap.size w ((w.alloc (.cells #[.slice h.A0 h.n0 h.c0, .slice h.A1 h.n1 h.c1, .slice h.A2 h.n2 h.c2, .slice h.A3 h.n3 h.c3, .slice h.A4 h.n4 h.c4] 28)).alloc (.cells #[] 3)) := ((Below.refl _ _).alloc (Nat.le_refl _) _).alloc (by simp) _
  have P0 : Blk ((w.alloc (.cells #[.slice h.A0 h.n0 h.c0, .slice h.A1 h.n1 h.c1, .slice h.A2 h.n2 h.c2, .slice h.A3 h.n3 h.c3, .slice h.A4 h.n4 h.c4] 28)).alloc (.cells #[] 3)) w.heap.size 28 [.slice h.A0 h.n0 h.c0, .slice h.A1 h.n1 h.c1, .slice h.A2 h.n2 h.c2, .slice h.A3 h.n3 h.c3, .slice h.A4 h.n4 h.c4] := (Blk.at_ rfl).alloc _
  have o0 := own_empty_at (w := (w.alloc (.cells #[.slice h.A0 h.n0 h.c0, .slice h.A1 h.n1 h.c1, .slice h.A2 h.n2 h.c2, .slice h.A3 h.n3 h.c3, .slice h.A4 h.n4 h.c4] 28))) (g := w.heap.size + 1) 3 1 (by simp)
  have HL1 := Lib.hid hs.f1.icount
  have hl1a : d.known.length ≤ h.n1 := by rw [HL1.out]; exact Nat.le_refl _
  have hl1b : h.n1 ≤ d.known.length := by rw [HL1.out]; exact Nat.le_refl _
  have HS3 := hs.f3
  have hn1 := hn.n1
  have hn3 := hn.n3
  go_enter Tryz.func25, Tryz.ntmps25
  go_wp2_with fail
  refine (l25Good_any h d _ (hs.next K0) hn hcap).mono ?_
  cases g : deskB d
  · rintro e w1 ⟨rfl, b1⟩
    have o1 := own_low (own_below o0 b1) (show w.heap.size ≤ w.heap.size + 1 by omega)
    clear o0
    go_wp2_with fail
    go_ret2
    rw [show waitM d = none by simp [waitM, g]]
    exact ⟨_, 0, rfl, o1, bel_then K0 b1⟩
  · rintro e w1 ⟨rfl, b1⟩
    have HR := Lib.hid (show waitM d = some (waitTo d d.known.length) by simp [waitM, g, waitTo])
    have ht := (deskB_top g).1
    have K1 := bel_then K0 b1
    have P1 := P0.next b1
    have o1 := own_below o0 b1
    clear g o0 P0 K0 b1
    go_wp2_with fail
    go_loopw [4, 5] (fun v i wr => ∃ (k : Nat) (out : List Int) (A' : Option Addr) (c' : Nat), k ≤ h.n1 ∧ i = .int .i64 k ∧ v = .slice A' out.length c' ∧ wr.ownsRow (w.heap.size + 1) 3 1 (.slice A' out.length c') out.length (ints out) ∧ out.length ≤ k ∧ Hid (waitTo d k = out) ∧ Blk wr w.heap.size 28 [.slice h.A0 h.n0 h.c0, .slice h.A1 h.n1 h.c1, .slice h.A2 h.n2 h.c2, .slice h.A3 h.n3 h.c3, .slice h.A4 h.n4 h.c4] ∧ Below w.heap.size w wr) (fun _ i _ => h.n1 - (intOf i).toNat)
    case atStart => exact ⟨0, [], _, _, Nat.zero_le _, rfl, rfl, o1, Nat.le_refl _, Lib.hid rfl, P1, K1⟩
    case round =>
      obtain ⟨k, out, A', c', hk, rfl, rfl, hown, hlo, HO, PB, hb⟩ := hrel
      have cm := PB.cell
      by_cases hlt : k < h.n1
      · obtain ⟨bk, offk, hA1, hkx, x0⟩ := (hs.f1.next hb).int hlt
        have hN := waitTo_next d hkx
        rw [HO.out] at hN
        have hblt := World.block_lt_of_cell? wr _ x0
        have hnp : (k : Int) < (h.n1 : Int) := by omega
        have b3 := (Quiet.one wr).below wr.heap.size
        rw [hA1] at cm
        clear hA1
        cases g : doneB d.done d.known[k]
        · rw [g] at hN
          have HN := Lib.hid (hN.trans (if_neg (by decide)))
          have HD := Lib.hid (fun nq : Nat => (show Calls Tryz.prog 65 #[.slice h.A3 h.n3 h.c3, .int .i64 d.known[k]] (wr.drewN nq) fun e w' => e = .returned (.bool false) ∧ wr.drewN nq = w' by rw [← g]; exact l25Done_any h.A3 h.n3 h.c3 d.done d.known[k] _ ((HS3.next hb).quiet (Quiet.mk _ _)) hn3))
          clear hN b3 g
          go_wp2_with fail
          go_quiet ((go_at_call 65; exact quiet_left (HD.out _)))
          go_wp2_with (at_builtin; go_loud (refine wpList_pushNew rfl _ _ _ rfl Tryz.underlying24 info_int rfl (by decide) rfl (own_below hown ((Quiet.mk wr _).below _)) rfl (by simp) (by rfl) (by rfl) (by omega) (by decide) ((PB.quiet (Quiet.mk wr _)).lt) ?_); intro A9 c9 w9 o9 h9 b9 q9)
          have K4 := bel_quiet hb (Quiet.mk wr nq)
          have B4 := PB.quiet (Quiet.mk wr nq)
          have z4 := PB.lt
          go_roundw
          case rel => exact ⟨k + 1, out ++ [d.known[k]], A9, c9, by omega, by go_num, by simp, by simpa [ints] using o9, by simp; omega, HN, B4.only h9 (own_not hown (by omega)), K4.trans (b9.mono (by omega))⟩
          case measure => simp [intOf]; omega
        · rw [g] at hN
          have HN := Lib.hid (hN.trans (if_pos rfl))
          have HD := Lib.hid (fun nq : Nat => (show Calls Tryz.prog 65 #[.slice h.A3 h.n3 h.c3, .int .i64 d.known[k]] (wr.drewN nq) fun e w' => e = .returned (.bool true) ∧ wr.drewN nq = w' by rw [← g]; exact l25Done_any h.A3 h.n3 h.c3 d.done d.known[k] _ ((HS3.next hb).quiet (Quiet.mk _ _)) hn3))
          clear hN b3 g
          go_wp2_with fail
          go_quiet ((go_at_call 65; exact quiet_left (HD.out _)))
          go_wp2_with fail
          go_roundw
          case rel => exact ⟨k + 1, out, A', c', by omega, by go_num, rfl, own_below hown ((Quiet.mk wr nq).below _), by omega, HN, PB.quiet (Quiet.mk wr nq), bel_quiet hb (Quiet.mk wr nq)⟩
          case measure => simp [intOf]; omega
      · have HE := Lib.hid (show waitM d = some out by rw [HR.out, ← HO.out, show d.known.length = k by omega])
        go_wp2_with fail
        go_ret2
        rw [HE.out]
        exact ⟨A', c', rfl, own_low hown (by omega), hb⟩

end Go.Proofs.YtkimlajfhepfgaaGreat

namespace Go.Proofs.YtkimlajfhepfgaaGreat
open Go.RowKit

def rankM (d : DeskV) : Option (List Int) := if deskB d then some ((sortR lessR d.done).map DeskRow.number) else none
theorem rankM_len (d : DeskV) : ((rankM d).getD []).length ≤ d.done.length := by
  unfold rankM
  split
  · simp [sortR_length]
  · simp
theorem row_all (xs : List DeskRow) : (xs.flatMap DeskRow.enc).all Value.oneCell' = true := by
  rw [List.all_eq_true]
  intro v hv
  obtain ⟨x, _, h⟩ := List.mem_flatMap.1 hv
  simp only [DeskRow.enc, List.mem_cons, List.not_mem_nil, or_false] at h
  rcases h with rfl | rfl | rfl <;> rfl
theorem SeesFlat.drop {α : Type} {enc : α → List Value} {w : World} {lo s n b : Nat} {xs : List α} (h : Sees w lo s (some ⟨b, 0, none⟩) n (xs.flatMap enc)) (hs : 0 < s) (henc : ∀ x, (enc x).length = s) (k : Nat) (hk : k ≤ n) : Sees w lo s (some ⟨b, k * s, none⟩) (n - k) ((xs.drop k).flatMap enc) := by
  have hl := h.count hs henc
  refine ⟨by rw [flatMap_len _ (fun x _ => henc x), List.length_drop, hl], fun h0 => ?_⟩
  obtain ⟨b', off', e, h1, h2, h3⟩ := h.at' (by omega)
  obtain ⟨rfl, rfl⟩ : b = b' ∧ 0 = off' := by simpa using e
  refine ⟨b, k * s, rfl, h1, h2, fun j u hu => ?_⟩
  have hj : j < (n - k) * s := by
    have := (List.getElem?_eq_some_iff.1 hu).1
    rwa [flatMap_len _ (fun x _ => henc x), List.length_drop, hl] at this
  have h4 := h3 (k * s + j) u (by
    have e1 : xs.flatMap enc = (xs.take k).flatMap enc ++ (xs.drop k).flatMap enc := by rw [← List.flatMap_append, List.take_append_drop]
    rw [e1, List.getElem?_append_right (by rw [flatMap_len _ (fun x _ => henc x), List.length_take]; have : min k xs.length = k := by omega
                                           rw [this]; omega), flatMap_len _ (fun x _ => henc x), List.length_take, show min k xs.length = k by omega, Nat.add_sub_cancel_left, hu])
  rwa [Nat.zero_add] at h4
theorem nums_next (R : List DeskRow) {t : Nat} (ht : t < R.length) : (R.take (t + 1)).map DeskRow.number = (R.take t).map DeskRow.number ++ [R[t].number] := by
  rw [List.take_succ_eq_append_getElem ht, List.map_append]
  rfl
theorem sortR_less (xs : List DeskRow) : sortR (ltOf' cfR) xs = sortR lessR xs := by
  rw [show (ltOf' cfR : DeskRow → DeskRow → Bool) = lessR from funext fun x => funext fun y => lessR_eq x y]

set_option maxRecDepth 100000 in
theorem Clone_DeskRow (A : Option Addr) (n c : Nat) (xs : List DeskRow) (w : World) (hx : Sees w 0 3 A n (xs.flatMap DeskRow.enc)) (hn : n ≤ 1000) :
    Calls Tryz.prog 60 #[.slice A n c] w fun e w' => ∃ A' c', e = .returned (.slice A' n c') ∧ w'.ownsRow w.heap.size 41 3 (.slice A' n c') n (xs.flatMap DeskRow.enc) ∧ Below w.heap.size w w' := by
  have hnil : ∀ (w : World) (a : Option Addr) (n c n' c' : Nat), (binOp .eql 26 (.slice a n c) (.slice none n' c')).run Tryz.prog w = .ok (.bool a.isNone) w := fun w a n c n' c' => Lib.run_eql_slice_nil w _ _ a n c n' c' Tryz.underlying26
  cases A with
  | none =>
    have h0 : n = 0 := by
      rcases Nat.eq_zero_or_pos n with h | h
      · exact h
      · obtain ⟨b, off, e, _⟩ := hx.at' h
        cases e
    subst h0
    have hxs : xs.flatMap DeskRow.enc = [] := List.eq_nil_of_length_eq_zero (by have h := hx.len; omega)
    rw [hxs]
    go_enter Tryz.func60, Tryz.ntmps60
    go_wp2_with fail
    go_ret
    exact ⟨none, 0, rfl, World.ownsRow_nil _ _ _ _, Below.refl _ _⟩
  | some a =>
    have U : Below w.heap.size w (w.alloc (.cells #[] 41)) := (Below.refl _ _).alloc (Nat.le_refl _) _
    have O0 := own_empty w 41 3
    have hs := hx.next U
    go_enter Tryz.func60, Tryz.ntmps60
    go_wp2_with (at_builtin; go_loud (refine wpList_cat rfl _ _ _ rfl Tryz.underlying26 info_impl_DeskRow rfl (by decide) rfl O0 rfl hs (row_all _) (by omega) (by omega) (by decide) (by simp) ?_); intro A1 c1 w1 o1 h1 b1 q1)
    simp only [Nat.zero_add, List.nil_append] at o1 ⊢
    go_wp2_with fail
    go_ret
    exact ⟨A1, c1, rfl, o1, U.trans b1⟩

set_option maxRecDepth 100000 in
set_option maxHeartbeats 4000000 in
theorem DeskRanking_any (h : DeskH) (d : DeskV) (w : World) (hs : SeesDesk w 0 h d) (hn : DeskFit 1048576 h d) (hcap : h.n3 ≤ h.c3) :
    Calls Tryz.prog 22 #[.agg #[.slice h.A0 h.n0 h.c0, .slice h.A1 h.n1 h.c1, .slice h.A2 h.n2 h.c2, .slice h.A3 h.n3 h.c3, .slice h.A4 h.n4 h.c4]] w (GivesInts w (rankM d)) := by
  obtain ⟨A0, n0, c0, A1, n1, c1', A2, n2, c2', A3, n3, c3, A4, n4, c4⟩ := h
  have K0 : Below w.heap.size w (w.alloc (.cells #[.slice A0 n0 c0, .slice A1 n1 c1', .slice A2 n2 c2', .slice A3 n3 c3, .slice A4 n4 c4] 28)) := (Below.refl _ _).alloc (Nat.le_refl _) _
  have P0 : Blk (w.alloc (.cells #[.slice A0 n0 c0, .slice A1 n1 c1', .slice A2 n2 c2', .slice A3 n3 c3, .slice A4 n4 c4] 28)) w.heap.size 28 [.slice A0 n0 c0, .slice A1 n1 c1', .slice A2 n2 c2', .slice A3 n3 c3, .slice A4 n4 c4] := Blk.at_ rfl
  have HL3 := Lib.hid (hs.f3.count (by decide) (fun _ => rfl))
  have hl3a : d.done.length ≤ n3 := by rw [HL3.out]; exact Nat.le_refl _
  have hl3b : n3 ≤ d.done.length := by rw [HL3.out]; exact Nat.le_refl _
  go_enter Tryz.func22, Tryz.ntmps22
  go_wp2_with fail
  refine (IsDesk_any ⟨A0, n0, c0, A1, n1, c1', A2, n2, c2', A3, n3, c3, A4, n4, c4⟩ d _ (hs.next K0) hn hcap).mono ?_
  cases g : deskB d
  · rintro e w1 ⟨rfl, b1⟩
    go_wp2_with fail
    go_ret2
    rw [show rankM d = none by simp [rankM, g]]
    exact gives_nil (bel_then K0 b1)
  · rintro e w1 ⟨rfl, b1⟩
    obtain ⟨R, hR⟩ : ∃ R, sortR (ltOf' cfR) d.done = R := ⟨_, rfl⟩
    have HR := Lib.hid (show rankM d = some (R.map DeskRow.number) by simp [rankM, g, ← hR, sortR_less])
    have HRL := Lib.hid (show R.length = n3 by rw [← hR, sortR_length]; exact HL3.out)
    have HRR := Lib.hid hR
    have ht := (deskB_top g).2
    have h10 : n3 ≤ 10 := by omega
    have K1 := bel_then K0 b1
    have P1 := P0.next b1
    have c1 := P1.cell
    have hx1 := (hs.next K1).f3
    clear g K0 P0 b1 ht hR
    go_wp2_with fail
    refine (Clone_DeskRow A3 n3 c3 d.done _ hx1 (by omega)).mono ?_
    rintro e w2 ⟨A, c, rfl, o2, b2⟩
    have K2 := bel_then K1 b2
    have hA2 : ∀ b, OwnB A b → w1.heap.size ≤ b ∧ b < w2.heap.size := fun b hb => own_top o2 hb
    have o3 := own_alloc o2 (.cells #[] 3)
    have u3 := own_empty w2 3 1
    have K3 := K2.alloc K2.size (.cells #[] 3)
    have hz1 := K1.size
    have hz2 := b2.size
    have hz3 : w2.heap.size + 1 ≤ (w2.alloc (.cells #[] 3)).heap.size := by simp
    clear c1 o2 b2 K2 hx1
    go_wp2_with fail
    generalize w2.alloc (.cells #[] 3) = w3 at *
    refine (SortFunc_DeskRow 62 #[] cfR (fun _ => True) w1.heap.size 41 n3 c A d.done _ o3 (by omega) DeskRanking1_compares (fun _ _ => trivial)).mono ?_
    rintro e w4 ⟨rfl, o4, O4⟩
    rw [HRR.out] at o4
    have u4 := own_only u3 O4 (fun b hb hb2 => by have h5 : w2.heap.size = b := (by simpa [OwnB, Value.ownBlock] using hb); have := hA2 b hb2; omega)
    have K4 : Below w.heap.size w w4 := K3.trans (O4.below (fun b hb => by have := hA2 b hb; omega) (by omega))
    have hz4 := O4.size
    clear o3 u3 K3 O4
    go_wp2_with fail
    go_loopw [5, 19] (fun v iv wr => ∃ (t : Nat) (A' : Option Addr) (c' : Nat), t ≤ n3 ∧ iv = .int .i64 (t : Int) ∧ v = .slice A' t c' ∧ wr.ownsRow w2.heap.size 3 1 (.slice A' t c') t (ints ((R.take t).map DeskRow.number)) ∧ wr.ownsRow w1.heap.size 41 3 (.slice A n3 c) n3 (R.flatMap DeskRow.enc) ∧ w3.heap.size ≤ wr.heap.size ∧ Below w.heap.size w wr) (fun _ iv _ => n3 - (intOf iv).toNat)
    case atStart => exact ⟨0, _, 0, Nat.zero_le _, rfl, rfl, u4, o4, hz4, K4⟩
    case round =>
      obtain ⟨t, A', c', ht, rfl, rfl, own, orow, hzr, hb⟩ := hrel
      by_cases hlt : t < n3
      · have htR : t < R.length := by rw [HRL.out]; exact hlt
        obtain ⟨b, off, rfl, hkx, x0, x1, x2⟩ := (Sees.of_own orow).elem3 (fun _ => rfl) hlt
        have HN := Lib.hid (nums_next R htR)
        have hblt := World.block_lt_of_cell? wr _ x0
        have ow := own_alloc own (.cells #[.int .i64 R[t].number, .int .i64 R[t].missing, .int .i64 R[t].time] 41)
        have oro := own_alloc orow (.cells #[.int .i64 R[t].number, .int .i64 R[t].missing, .int .i64 R[t].time] 41)
        have K5 := hb.alloc hb.size (.cells #[.int .i64 R[t].number, .int .i64 R[t].missing, .int .i64 R[t].time] 41)
        have hnp : (t : Int) < (n3 : Int) := by omega
        have hbase : w2.heap.size ≤ (wr.alloc (.cells #[.int .i64 R[t].number, .int .i64 R[t].missing, .int .i64 R[t].time] 41)).heap.size := by simp; omega
        go_wp2_with (at_builtin; go_loud (refine wpList_pushNew rfl _ _ _ rfl Tryz.underlying24 info_int rfl (by decide) rfl ow rfl (by simp) (by rfl) (by rfl) (by omega) (by decide) hbase ?_); intro A9 c9 w9 o9 h9 b9 q9)
        go_roundw
        case rel => exact ⟨t + 1, A9, c9, by omega, by go_num, rfl, by rw [HN.out]; simpa [ints] using o9, own_only oro h9 (fun b' hb' hb2 => by have h6 := (own_top own hb2).1; have h7 := hA2 b' hb'; omega), by have h8 := h9.size; simp at h8; omega, K5.trans (b9.mono (by omega))⟩
        case measure => simp [intOf]; omega
      · obtain rfl : t = n3 := by omega
        go_wp2_with fail
        go_ret2
        rw [HR.out]
        have e1 : R.take t = R := List.take_of_length_le (by rw [HRL.out]; exact Nat.le_refl _)
        rw [e1] at own
        have e2 : (R.map DeskRow.number).length = t := by rw [List.length_map]; exact HRL.out
        exact ⟨A', c', by show Ending.returned (.tuple #[.slice A' t c', .bool true]) = .returned (.tuple #[.slice A' (R.map DeskRow.number).length c', .bool true]); rw [e2], by show wr.ownsRow w.heap.size 3 1 (.slice A' (R.map DeskRow.number).length c') (R.map DeskRow.number).length (ints (R.map DeskRow.number)); rw [e2]; exact own_low own (by omega), hb⟩

end Go.Proofs.YtkimlajfhepfgaaGreat

namespace Go.Proofs.YtkimlajfhepfgaaGreat
open Go.RowKit

/-- A desk in memory of the call's own. -/
def GivesDesk (w : World) (d : DeskV) (e : Ending) (w' : World) : Prop :=
  ∃ H : DeskH, e = .returned (.agg #[.slice H.A0 H.n0 H.c0, .slice H.A1 H.n1 H.c1, .slice H.A2 H.n2 H.c2, .slice H.A3 H.n3 H.c3, .slice H.A4 H.n4 H.c4]) ∧ MineDesk w' (In w.heap.size w'.heap.size) H d ∧ DeskFit 1048576 H d ∧ H.n3 ≤ H.c3 ∧ Below w.heap.size w w'
theorem own_cap {w : World} {base t s n c : Nat} {A : Option Addr} {cs : List Value} (h : w.ownsRow base t s (.slice A n c) n cs) : n ≤ c := by
  rcases own_open h with ⟨_, rfl, rfl, _⟩ | ⟨_, _, _, _, _, _, h1, _, _⟩
  · exact Nat.le_refl _
  · exact h1
theorem MineDesk.of5 {w : World} {S T0 T1 T2 T3 T4 : Nat → Prop} {h : DeskH} {d : DeskV} (m0 : Mine w T0 3 1 h.A0 h.n0 h.c0 (ints d.codes)) (m1 : Mine w T1 3 1 h.A1 h.n1 h.c1 (ints d.known))
    (m2 : MineO cardSh w T2 31 109 h.A2 h.n2 d.queue) (m3 : Mine w T3 41 3 h.A3 h.n3 h.c3 (d.done.flatMap DeskRow.enc)) (m4 : MineO cardSh w T4 31 109 h.A4 h.n4 d.trouble)
    (s0 : ∀ b, T0 b → S b) (s1 : ∀ b, T1 b → S b) (s2 : ∀ b, T2 b → S b) (s3 : ∀ b, T3 b → S b) (s4 : ∀ b, T4 b → S b)
    (d01 : ∀ b, T0 b → T1 b → False) (d02 : ∀ b, T0 b → T2 b → False) (d03 : ∀ b, T0 b → T3 b → False) (d04 : ∀ b, T0 b → T4 b → False) (d12 : ∀ b, T1 b → T2 b → False) (d13 : ∀ b, T1 b → T3 b → False) (d14 : ∀ b, T1 b → T4 b → False) (d23 : ∀ b, T2 b → T3 b → False) (d24 : ∀ b, T2 b → T4 b → False) (d34 : ∀ b, T3 b → T4 b → False) : MineDesk w S h d := by
  classical
  refine ⟨fun b => if T0 b then 0 else if T1 b then 1 else if T2 b then 2 else if T3 b then 3 else 4, ⟨m0.wide fun b hb => ⟨s0 b hb, ?_⟩, m1.wide fun b hb => ⟨s1 b hb, ?_⟩, m2.wide fun b hb => ⟨s2 b hb, ?_⟩, m3.wide fun b hb => ⟨s3 b hb, ?_⟩, m4.wide fun b hb => ⟨s4 b hb, ?_⟩⟩⟩
  · simp only [if_pos hb]
  · simp only [if_neg (fun h => d01 b h hb), if_pos hb]
  · simp only [if_neg (fun h => d02 b h hb), if_neg (fun h => d12 b h hb), if_pos hb]
  · simp only [if_neg (fun h => d03 b h hb), if_neg (fun h => d13 b h hb), if_neg (fun h => d23 b h hb), if_pos hb]
  · simp only [if_neg (fun h => d04 b h hb), if_neg (fun h => d14 b h hb), if_neg (fun h => d24 b h hb), if_neg (fun h => d34 b h hb)]

end Go.Proofs.YtkimlajfhepfgaaGreat

namespace Go.Proofs.YtkimlajfhepfgaaGreat
open Go.RowKit

structure MineCW (w : World) (S : Nat → Prop) (col : Nat → Nat) (h : DeskH) (d : DeskV) : Prop where
  f0 : Mine w (Hue S col 0) 3 1 h.A0 h.n0 h.c0 (ints d.codes)
  f1 : Mine w (Hue S col 1) 3 1 h.A1 h.n1 h.c1 (ints d.known)
  f2 : MineO cardSh w (Hue S col 2) 31 109 h.A2 h.n2 d.queue
  f3 : Mine w (Hue S col 3) 41 3 h.A3 h.n3 h.c3 (d.done.flatMap DeskRow.enc)
  f4 : MineN cardSh w (Hue S col 4) 31 109 h.A4 h.n4 h.c4 d.trouble
/-- A desk of the call's own that is worked on. -/
def MineW (w : World) (S : Nat → Prop) (h : DeskH) (d : DeskV) : Prop := ∃ col, MineCW w S col h d
theorem MineW.desk {w : World} {S : Nat → Prop} {h : DeskH} {d : DeskV} (m : MineW w S h d) : MineDesk w S h d := by
  obtain ⟨col, m⟩ := m
  exact ⟨col, ⟨m.f0, m.f1, m.f2, m.f3, .of m.f4⟩⟩
theorem MineW.next {w w' : World} {S : Nat → Prop} {h : DeskH} {d : DeskV} (m : MineW w S h d) (hb : Below w.heap.size w w') : MineW w' S h d := by
  obtain ⟨col, m⟩ := m
  exact ⟨col, ⟨m.f0.next hb, m.f1.next hb, m.f2.next hb, m.f3.next hb, m.f4.next hb⟩⟩
theorem MineW.only {w w' : World} {S U : Nat → Prop} {h : DeskH} {d : DeskV} (m : MineW w S h d) (ho : Only U w w') (hS : ∀ b, S b → U b → False) : MineW w' S h d := by
  obtain ⟨col, m⟩ := m
  exact ⟨col, ⟨m.f0.only ho fun b h1 => hS b h1.1, m.f1.only ho fun b h1 => hS b h1.1, m.f2.only ho fun b h1 => hS b h1.1, m.f3.only ho fun b h1 => hS b h1.1, m.f4.only ho fun b h1 => hS b h1.1⟩⟩
theorem MineW.wide {w : World} {S T : Nat → Prop} {h : DeskH} {d : DeskV} (m : MineW w S h d) (hS : ∀ b, S b → T b) : MineW w T h d := by
  obtain ⟨col, m⟩ := m
  exact ⟨col, ⟨m.f0.wide (Hue.wide hS), m.f1.wide (Hue.wide hS), m.f2.wide (Hue.wide hS), m.f3.wide (Hue.wide hS), m.f4.wide (Hue.wide hS)⟩⟩
theorem MineW.of5 {w : World} {S T0 T1 T2 T3 T4 : Nat → Prop} {h : DeskH} {d : DeskV} (m0 : Mine w T0 3 1 h.A0 h.n0 h.c0 (ints d.codes)) (m1 : Mine w T1 3 1 h.A1 h.n1 h.c1 (ints d.known))
    (m2 : MineO cardSh w T2 31 109 h.A2 h.n2 d.queue) (m3 : Mine w T3 41 3 h.A3 h.n3 h.c3 (d.done.flatMap DeskRow.enc)) (m4 : MineN cardSh w T4 31 109 h.A4 h.n4 h.c4 d.trouble)
    (s0 : ∀ b, T0 b → S b) (s1 : ∀ b, T1 b → S b) (s2 : ∀ b, T2 b → S b) (s3 : ∀ b, T3 b → S b) (s4 : ∀ b, T4 b → S b)
    (d01 : ∀ b, T0 b → T1 b → False) (d02 : ∀ b, T0 b → T2 b → False) (d03 : ∀ b, T0 b → T3 b → False) (d04 : ∀ b, T0 b → T4 b → False) (d12 : ∀ b, T1 b → T2 b → False) (d13 : ∀ b, T1 b → T3 b → False) (d14 : ∀ b, T1 b → T4 b → False) (d23 : ∀ b, T2 b → T3 b → False) (d24 : ∀ b, T2 b → T4 b → False) (d34 : ∀ b, T3 b → T4 b → False) : MineW w S h d := by
  classical
  refine ⟨fun b => if T0 b then 0 else if T1 b then 1 else if T2 b then 2 else if T3 b then 3 else 4, ⟨m0.wide fun b hb => ⟨s0 b hb, ?_⟩, m1.wide fun b hb => ⟨s1 b hb, ?_⟩, m2.wide fun b hb => ⟨s2 b hb, ?_⟩, m3.wide fun b hb => ⟨s3 b hb, ?_⟩, m4.wide fun b hb => ⟨s4 b hb, ?_⟩⟩⟩
  · simp only [if_pos hb]
  · simp only [if_neg (fun h => d01 b h hb), if_pos hb]
  · simp only [if_neg (fun h => d02 b h hb), if_neg (fun h => d12 b h hb), if_pos hb]
  · simp only [if_neg (fun h => d03 b h hb), if_neg (fun h => d13 b h hb), if_neg (fun h => d23 b h hb), if_pos hb]
  · simp only [if_neg (fun h => d04 b h hb), if_neg (fun h => d14 b h hb), if_neg (fun h => d24 b h hb), if_neg (fun h => d34 b h hb)]
theorem mineN_cap {α : Type} {sh : Sh α} {w : World} {S : Nat → Prop} {t ti n c : Nat} {A : Option Addr} {xs : List α} (h : MineN sh w S t ti A n c xs) : n ≤ c := by
  obtain ⟨rs, _, h⟩ := h
  exact own_cap h.outer.own
def GivesDeskW (w : World) (d : DeskV) (e : Ending) (w' : World) : Prop :=
  ∃ H : DeskH, e = .returned (.agg #[.slice H.A0 H.n0 H.c0, .slice H.A1 H.n1 H.c1, .slice H.A2 H.n2 H.c2, .slice H.A3 H.n3 H.c3, .slice H.A4 H.n4 H.c4]) ∧ MineW w' (In w.heap.size w'.heap.size) H d ∧ DeskFit 1048576 H d ∧ H.n3 ≤ H.c3 ∧ H.n2 ≤ H.c2 ∧ Below w.heap.size w w'
/-- A desk of the call's own, its queue from the head of its block. -/
def MineD (w : World) (S : Nat → Prop) (h : DeskH) (d : DeskV) : Prop := ∃ col, MineCW w S col h d ∧ MineN cardSh w (Hue S col 2) 31 109 h.A2 h.n2 h.c2 d.queue
theorem MineD.toW {w : World} {S : Nat → Prop} {h : DeskH} {d : DeskV} (m : MineD w S h d) : MineW w S h d := by
  obtain ⟨col, m, -⟩ := m
  exact ⟨col, m⟩
theorem MineD.of5 {w : World} {S T0 T1 T2 T3 T4 : Nat → Prop} {h : DeskH} {d : DeskV} (m0 : Mine w T0 3 1 h.A0 h.n0 h.c0 (ints d.codes)) (m1 : Mine w T1 3 1 h.A1 h.n1 h.c1 (ints d.known))
    (m2 : MineN cardSh w T2 31 109 h.A2 h.n2 h.c2 d.queue) (m3 : Mine w T3 41 3 h.A3 h.n3 h.c3 (d.done.flatMap DeskRow.enc)) (m4 : MineN cardSh w T4 31 109 h.A4 h.n4 h.c4 d.trouble)
    (s0 : ∀ b, T0 b → S b) (s1 : ∀ b, T1 b → S b) (s2 : ∀ b, T2 b → S b) (s3 : ∀ b, T3 b → S b) (s4 : ∀ b, T4 b → S b)
    (d01 : ∀ b, T0 b → T1 b → False) (d02 : ∀ b, T0 b → T2 b → False) (d03 : ∀ b, T0 b → T3 b → False) (d04 : ∀ b, T0 b → T4 b → False) (d12 : ∀ b, T1 b → T2 b → False) (d13 : ∀ b, T1 b → T3 b → False) (d14 : ∀ b, T1 b → T4 b → False) (d23 : ∀ b, T2 b → T3 b → False) (d24 : ∀ b, T2 b → T4 b → False) (d34 : ∀ b, T3 b → T4 b → False) : MineD w S h d := by
  classical
  refine ⟨fun b => if T0 b then 0 else if T1 b then 1 else if T2 b then 2 else if T3 b then 3 else 4, ⟨m0.wide fun b hb => ⟨s0 b hb, ?_⟩, m1.wide fun b hb => ⟨s1 b hb, ?_⟩, (MineO.of m2).wide fun b hb => ⟨s2 b hb, ?_⟩, m3.wide fun b hb => ⟨s3 b hb, ?_⟩, m4.wide fun b hb => ⟨s4 b hb, ?_⟩⟩, m2.wide fun b hb => ⟨s2 b hb, ?_⟩⟩
  · simp only [if_pos hb]
  · simp only [if_neg (fun h => d01 b h hb), if_pos hb]
  · simp only [if_neg (fun h => d02 b h hb), if_neg (fun h => d12 b h hb), if_pos hb]
  · simp only [if_neg (fun h => d03 b h hb), if_neg (fun h => d13 b h hb), if_neg (fun h => d23 b h hb), if_pos hb]
  · simp only [if_neg (fun h => d04 b h hb), if_neg (fun h => d14 b h hb), if_neg (fun h => d24 b h hb), if_neg (fun h => d34 b h hb)]
  · simp only [if_neg (fun h => d02 b h hb), if_neg (fun h => d12 b h hb), if_pos hb]
def GivesDeskN (w : World) (d : DeskV) (e : Ending) (w' : World) : Prop :=
  ∃ H : DeskH, e = .returned (.agg #[.slice H.A0 H.n0 H.c0, .slice H.A1 H.n1 H.c1, .slice H.A2 H.n2 H.c2, .slice H.A3 H.n3 H.c3, .slice H.A4 H.n4 H.c4]) ∧ MineD w' (In w.heap.size w'.heap.size) H d ∧ DeskFit 1048576 H d ∧ H.n3 ≤ H.c3 ∧ H.n2 ≤ H.c2 ∧ Below w.heap.size w w'
theorem GivesDeskN.toW {w : World} {d : DeskV} {e : Ending} {w' : World} (h : GivesDeskN w d e w') : GivesDeskW w d e w' := by
  obtain ⟨H, h1, m, h2, h3, h4, h5⟩ := h
  exact ⟨H, h1, m.toW, h2, h3, h4, h5⟩

end Go.Proofs.YtkimlajfhepfgaaGreat

namespace Go.Proofs.YtkimlajfhepfgaaGreat
open Go.RowKit

section
variable {α : Type} {sh : Sh α} {w w' : World} {S : Nat → Prop} {lo g t ti s n c : Nat} {A : Option Addr} {cs : List Value} {xs : List α} {h : DeskH} {d : DeskV}
theorem Mine.seesB (m : Mine w S t s A n c cs) (hS : ∀ b, S b → lo ≤ b) : Sees w lo s A n cs :=
  ⟨m.sees.len, fun hn => by
    obtain ⟨b, off, e, _, hb', hl⟩ := m.sees.at' hn
    exact ⟨b, off, e, hS b (m.top b (by rw [e]; rfl)), hb', hl⟩⟩
theorem MineO.seesB (m : MineO sh w S t ti A n xs) (hS : ∀ b, S b → lo ≤ b) : SeesN sh w lo A n xs := by
  obtain ⟨rs, h1, h2, h3, h4⟩ := m
  refine ⟨rs, h1, ⟨by rw [heads_len, h3], fun h0 => ?_⟩, fun r hr => (h2.each r hr).seesB hS⟩
  rcases h4 with h4 | ⟨g, off, cs, rfl, hg, hB, hle, htk, _⟩
  · omega
  · refine ⟨g, off, rfl, hS g hg, hB.lt, fun j u hu => ?_⟩
    rw [hB.cellp j _ rfl]
    rw [← htk, List.getElem?_take] at hu
    split at hu
    · exact hu
    · cases hu
theorem MineDesk.seesB (m : MineDesk w S h d) (hS : ∀ b, S b → lo ≤ b) : SeesDesk w lo h d := by
  obtain ⟨col, m⟩ := m
  exact ⟨m.f0.seesB fun b hb => hS b hb.1, m.f1.seesB fun b hb => hS b hb.1, m.f2.seesB fun b hb => hS b hb.1, m.f3.seesB fun b hb => hS b hb.1, m.f4.seesB fun b hb => hS b hb.1⟩
theorem Sees.draw (x : Sees w lo s A n cs) (ho : Only (fun b => b = g) w w') (hg : g < lo) : Sees w' lo s A n cs :=
  ⟨x.len, fun hn => by
    obtain ⟨b, off, e, hb, hb', hl⟩ := x.at' hn
    exact ⟨b, off, e, hb, Nat.lt_of_lt_of_le hb' ho.size, hl.kept fun j => World.cell?_of_block (ho.block b hb' (fun (e : b = g) => by omega))⟩⟩
theorem SeesN.draw (x : SeesN sh w lo A n xs) (ho : Only (fun b => b = g) w w') (hg : g < lo) : SeesN sh w' lo A n xs := by
  obtain ⟨rs, h1, h2, h3⟩ := x
  exact ⟨rs, h1, h2.draw ho hg, fun r hr => (h3 r hr).draw ho hg⟩
theorem SeesDesk.draw (x : SeesDesk w lo h d) (ho : Only (fun b => b = g) w w') (hg : g < lo) : SeesDesk w' lo h d := ⟨x.f0.draw ho hg, x.f1.draw ho hg, x.f2.draw ho hg, x.f3.draw ho hg, x.f4.draw ho hg⟩
theorem SeesN.less {lo' : Nat} (x : SeesN sh w lo A n xs) (hl : lo' ≤ lo) : SeesN sh w lo' A n xs := by
  obtain ⟨rs, h1, h2, h3⟩ := x
  exact ⟨rs, h1, h2.less hl, fun r hr => (h3 r hr).less hl⟩
theorem SeesDesk.less {lo' : Nat} (x : SeesDesk w lo h d) (hl : lo' ≤ lo) : SeesDesk w lo' h d := ⟨x.f0.less hl, x.f1.less hl, x.f2.less hl, x.f3.less hl, x.f4.less hl⟩
/-- The cursor is as it was where blocks behind it alone have been written. -/
theorem Cur.past {B k : Nat} (hc : Cur w g k) (hb : Below B w w') (hg : g < B) : Cur w' g k := by
  obtain ⟨A, m, c, p, s, h1, h2, h3, h4⟩ := hc.ex
  refine ⟨A, m, c, p, s, (hb.block g hg).trans h1, h2, h3, fun h0 => ?_⟩
  obtain ⟨b, off, e, hbg, hcell⟩ := h4 h0
  refine ⟨b, off, e, hbg, fun j hj => ?_⟩
  obtain ⟨u, h5, h6⟩ := hcell j hj
  exact ⟨u, (hb.cell (p := ⟨b, off + j, none⟩) (by show b < B; omega)).trans h5, h6⟩
end
/-- A card, drawn: its punches in memory of the call's own. -/
def DrawnCard (w : World) (g n : Nat) (e : Ending) (w' : World) : Prop := ∃ (A : Option Addr) (k c : Nat) (x : Card), e = .returned (.agg #[.int .i64 x.number, .int .i64 x.start, .int .i64 x.finish, .slice A k c]) ∧ w'.ownsRow w.heap.size 109 2 (.slice A k c) k (x.punches.flatMap Punch.enc) ∧ k ≤ 12 ∧ Cur w' g n ∧ Only (fun b => b = g) w w'

end Go.Proofs.YtkimlajfhepfgaaGreat
