/- Joined texts of this proof: Rank2, VDesk, VHas, VBig, LawFnDeskLists, Open, Open2, OpenX. -/
import Derived.Deep.CutBlock
import Derived.ProofKit
import Derived.OpenShut
import Derived.ShutString
import Derived.ChangeOld
import Derived.Below
import Derived.Lib.SmallJoins
import Derived.Deep.Slices
import Derived.Deep.Fields
import Derived.JoinedTies
import Derived.Test.YtkimlajfhepfgaaGreatP03
import Derived.Test.YtkimlajfhepfgaaGreatP01
import Derived.Test.YtkimlajfhepfgaaGreatP12
namespace Go.Proofs.YtkimlajfhepfgaaGreat
open Go.RowKit

set_option maxRecDepth 100000 in
set_option maxHeartbeats 16000000 in
theorem specDeskRanking_any (h : DeskH) (d : DeskV) (w : World) (hs : SeesDesk w 0 h d) (hn : DeskFit 1048576 h d) (hcap : h.n3 ≤ h.c3) :
  Calls Tryz.prog 28 #[.agg #[.slice h.A0 h.n0 h.c0, .slice h.A1 h.n1 h.c1, .slice h.A2 h.n2 h.c2, .slice h.A3 h.n3 h.c3, .slice h.A4 h.n4 h.c4]] w (GivesInts w (rankM d)) := by
 obtain ⟨A0, n0, c0, A1, n1, c1', A2, n2, c2', A3, n3, c3, A4, n4, c4⟩ := h
 have K0 : Below w.heap.size w ((w.alloc (.cells #[.slice A0 n0 c0, .slice A1 n1 c1', .slice A2 n2 c2', .slice A3 n3 c3, .slice A4 n4 c4] 28)).alloc (.cells #[] 3)) := ((Below.refl _ _).alloc (Nat.le_refl _) _).alloc (by simp) _
 have P0 : Blk ((w.alloc (.cells #[.slice A0 n0 c0, .slice A1 n1 c1', .slice A2 n2 c2', .slice A3 n3 c3, .slice A4 n4 c4] 28)).alloc (.cells #[] 3)) w.heap.size 28 [.slice A0 n0 c0, .slice A1 n1 c1', .slice A2 n2 c2', .slice A3 n3 c3, .slice A4 n4 c4] := (Blk.at_ rfl).alloc _
 have Q0 : Blk ((w.alloc (.cells #[.slice A0 n0 c0, .slice A1 n1 c1', .slice A2 n2 c2', .slice A3 n3 c3, .slice A4 n4 c4] 28)).alloc (.cells #[] 3)) (w.heap.size + 1) 3 [] := Blk.at_ (by simp)
 have HL := Lib.hid (hs.f3.count (by decide) (fun _ => rfl))
 have hl3a : d.done.length ≤ n3 := by rw [HL.out]; exact Nat.le_refl _
 have hl3b : n3 ≤ d.done.length := by rw [HL.out]; exact Nat.le_refl _
 go_enter Tryz.func28, Tryz.ntmps28
 go_wp2_with fail
 refine (l25Good_any ⟨A0, n0, c0, A1, n1, c1', A2, n2, c2', A3, n3, c3, A4, n4, c4⟩ d _ (hs.next K0) hn hcap).mono ?_
 cases g : deskB d
 ·rintro e w1 ⟨rfl, b1⟩
  have Q1 := Q0.next b1
  clear Q0
  go_wp2_with fail
  go_ret2
  rw [show rankM d = none by simp [rankM, g]]
  exact ⟨_, 0, rfl, Q1.own (by omega) rfl (by simp [maxLen]), bel_then K0 b1⟩
 ·rintro e w1 ⟨rfl, b1⟩
  have HRM := Lib.hid (show rankM d = some ((sortR lessR d.done).map DeskRow.number) by simp [rankM, g])
  have ht := (deskB_top g).2
  have h10 : n3 ≤ 10 := by omega
  have K1 := (bel_then K0 b1).alloc (bel_then K0 b1).size (.cells #[] 41)
  have P1 := (P0.next b1).alloc (.cells #[] 41)
  have Q1 := (Q0.next b1).alloc (.cells #[] 41)
  have O1 := own_low (own_empty w1 41 3) (show w.heap.size + 2 ≤ w1.heap.size from (Q0.next b1).lt)
  have hx := hs.f3
  clear g K0 P0 Q0 b1 ht hs
  go_wp2_with fail
  generalize (w1.alloc (.cells #[] 41)) = w2 at *
  go_loopw [5, 6] (fun v iv wr => ∃ (i g c' : Nat), i ≤ n3 ∧ iv = .int .i64 (i : Int) ∧ v = .slice (some ⟨g, 0, none⟩) i c' ∧ wr.ownsRow (w.heap.size + 2) 41 3 (.slice (some ⟨g, 0, none⟩) i c') i ((sortR lessR (d.done.take i)).flatMap DeskRow.enc) ∧ Blk wr w.heap.size 28 [.slice A0 n0 c0, .slice A1 n1 c1', .slice A2 n2 c2', .slice A3 n3 c3, .slice A4 n4 c4] ∧ Blk wr (w.heap.size + 1) 3 [] ∧ Below w.heap.size w wr) (fun _ iv _ => n3 - (intOf iv).toNat)
  case atStart => exact ⟨0, _, 0, Nat.zero_le _, rfl, rfl, O1, P1, Q1, K1⟩
  case round =>
   obtain ⟨i, g, c', hi, rfl, rfl, own, PB, OB, K⟩ := hrel
   clear O1 P1 Q1 K1
   have pc := PB.cell
   have hpb := PB.lt
   by_cases hlt : i < n3
   ·have hix : i < d.done.length := by rw [HL.out]; exact hlt
    have HIN := Lib.hid (show sortR lessR (d.done.take (i + 1)) = insR lessR (sortR lessR (d.done.take i)) d.done[i] from sortR_next lessR hix)
    have HYL := Lib.hid (show (sortR lessR (d.done.take i)).length = i by rw [sortR_length, List.length_take]; omega)
    obtain ⟨bx, ox, rfl, hkx, x0, x1, x2⟩ := (hx.next K).elem3 (fun _ => rfl) hlt
    have hbx := World.block_lt_of_cell? wr _ x0
    obtain ⟨ys, hys⟩ : ∃ ys, sortR lessR (d.done.take i) = ys := ⟨_, rfl⟩
    rw [hys] at own HIN HYL
    obtain ⟨x, hxi⟩ : ∃ x, d.done[i] = x := ⟨_, rfl⟩
    rw [hxi] at HIN
    rw [show d.done[i] = x from hxi] at x0 x1 x2
    have HXI := Lib.hid hxi
    clear hys hxi
    obtain ⟨hic, hgb⟩ : i ≤ c' ∧ g < wr.heap.size := by
     rcases own_row own with ⟨h, _⟩ | ⟨g', rest, h1, h2, h3, h4, h5, h6⟩
     ·cases h
     ·obtain rfl : g = g' := by simpa using h1
      exact ⟨h5, h3.lt⟩
    have pd := pc 3
    go_wp2_with fail
    clear pc
    obtain ⟨wo, hwo⟩ : ∃ wo : World, wo = wr := ⟨_, rfl⟩
    subst hwo
    go_loopw [7] (fun kv wx => ∃ k : Nat, k ≤ i ∧ kv = .int .i64 (k : Int) ∧ Hid (posR lessR ys x ys.length = posR lessR ys x k) ∧ Below wo.heap.size wo wx) (fun kv _ => (intOf kv).toNat)
    case atStart => exact ⟨i, Nat.le_refl _, rfl, Lib.hid (by rw [HYL.out]), Below.refl _ _⟩
    case round =>
     obtain ⟨k, hk, rfl, HP, hb⟩ := hrel
     have HHB := Lib.hid hb
     replace pd : wo.cell? ⟨w.heap.size, 3, none⟩ = some (.slice (some ⟨bx, ox, none⟩) n3 c3) := pd
     replace own := own_below own hb
     replace K := bel_then K hb
     replace PB := PB.next hb
     replace OB := OB.next hb
     replace pd := (hb.cell (p := ⟨w.heap.size, 3, none⟩) hpb).trans pd
     replace x0 := (hb.cell (p := ⟨bx, ox + i * 3, none⟩) hbx).trans x0
     replace x1 := (hb.cell (p := ⟨bx, ox + i * 3 + 1, none⟩) hbx).trans x1
     replace x2 := (hb.cell (p := ⟨bx, ox + i * 3 + 2, none⟩) hbx).trans x2
     replace hbx := Nat.lt_of_lt_of_le hbx hb.size
     replace hpb := Nat.lt_of_lt_of_le hpb hb.size
     clear hb
     rcases Nat.eq_zero_or_pos k with hk0 | hk0
     ·have HPE := Lib.hid (show posR lessR ys x ys.length = k by rw [HP.out, hk0]; rfl)
      have hnot : ¬ 0 < k := by omega
      clear HP hk0
      go_wp2_with fail
      go_quiet (fail)
      have bq := (Quiet.mk wr nq).below wr.heap.size
      replace own := own_below own bq
      replace K := bel_then K bq
      replace PB := PB.next bq
      replace OB := OB.next bq
      replace pd := (bq.cell (p := ⟨w.heap.size, 3, none⟩) hpb).trans pd
      replace x0 := (bq.cell (p := ⟨bx, ox + i * 3, none⟩) hbx).trans x0
      replace x1 := (bq.cell (p := ⟨bx, ox + i * 3 + 1, none⟩) hbx).trans x1
      replace x2 := (bq.cell (p := ⟨bx, ox + i * 3 + 2, none⟩) hbx).trans x2
      replace hbx := Nat.lt_of_lt_of_le hbx bq.size
      replace hpb := Nat.lt_of_lt_of_le hpb bq.size
      clear bq
      generalize wr.drewN nq = wv at *
      have HR2 := Lib.hid (show (insR lessR ys x).flatMap DeskRow.enc = (ys.take k).flatMap DeskRow.enc ++ [.int .i64 x.number, .int .i64 x.missing, .int .i64 x.time] ++ (ys.drop k).flatMap DeskRow.enc by
       rw [insR_at lessR HPE.out, List.flatMap_append, List.flatMap_cons, List.append_assoc]; rfl)
      have hpre := SeesFlat.take (Sees.of_own own) (by decide) (fun _ => rfl) k hk
      by_cases hck : c' = k
      ·have hsuf : Sees wv 0 3 (some ⟨g, 0, none⟩) 0 ((ys.drop k).flatMap DeskRow.enc) := by
        rw [List.drop_of_length_le (by rw [HYL.out]; omega)]; exact Sees.nil _ _ _ _
       have hkc : k = c' := hck.symm
       subst hkc
       clear own
       go_wp2_with fail
       have J1 := (Quiet.one wv).below wv.heap.size
       refine wp_region_held_drew (S := fun w' => w'.cell? ⟨w.heap.size, 3, none⟩ = some (.slice (some ⟨bx, ox, none⟩) n3 c3) ∧ w'.cell? ⟨bx, ox + i * 3, none⟩ = some (.int .i64 x.number) ∧ w'.cell? ⟨bx, ox + i * 3 + 1, none⟩ = some (.int .i64 x.missing) ∧ w'.cell? ⟨bx, ox + i * 3 + 2, none⟩ = some (.int .i64 x.time)) (by kernel_rfl) (⟨(J1.cell (p := ⟨w.heap.size, 3, none⟩) hpb).trans pd, (J1.cell (p := ⟨bx, ox + i * 3, none⟩) hbx).trans x0, (J1.cell (p := ⟨bx, ox + i * 3 + 1, none⟩) hbx).trans x1, (J1.cell (p := ⟨bx, ox + i * 3 + 2, none⟩) hbx).trans x2⟩) (fun hH => ?_)
       generalize wv.drew = wi1 at *
       refine wT (i := 1) (v := ?_) rfl (by kernel_rfl) (by kernel_rfl) (by kernel_rfl) (fun _ _ _ h => h) (Or.inl ⟨by rfl, ?_⟩) (by assumption) ?_
       rotate_left 1
       ·(intro w hS; (try dsimp only at hS); go_simp; try with_reducible rfl)
       (try simp only [Act.put, pX])
       refine wT (i := 2) (v := ?_) rfl (by kernel_rfl) (by kernel_rfl) (by kernel_rfl) (fun _ _ _ h => h) (Or.inl ⟨by rfl, ?_⟩) (by assumption) ?_
       rotate_left 1
       ·(intro w hS; (try dsimp only at hS); go_simp; try with_reducible rfl)
       (try simp only [Act.put, pX])
       refine wT (i := 3) (v := ?_) rfl (by kernel_rfl) (by kernel_rfl) (by kernel_rfl) (fun _ _ _ h => h) (Or.inl ⟨by rfl, ?_⟩) (by assumption) ?_
       rotate_left 1
       ·(intro w hS; (try dsimp only at hS); go_simp; try with_reducible rfl)
       (try simp only [Act.put, pX])
       refine wT (i := 5) (v := ?_) rfl (by kernel_rfl) (by kernel_rfl) (by kernel_rfl) (fun _ _ _ h => h) (Or.inl ⟨by rfl, ?_⟩) (by assumption) ?_
       rotate_left 1
       ·(intro w hS; (try dsimp only at hS); go_simp; try with_reducible rfl)
       (try simp only [Act.put, pX])
       refine wT (i := 6) (v := ?_) rfl (by kernel_rfl) (by kernel_rfl) (by kernel_rfl) (fun _ _ _ h => h) (Or.inl ⟨by rfl, ?_⟩) (by assumption) ?_
       rotate_left 1
       ·(intro w hS; (try dsimp only at hS); go_simp; try with_reducible rfl)
       (try simp only [Act.put, pX])
       refine wT (i := 7) (v := ?_) rfl (by kernel_rfl) (by kernel_rfl) (by kernel_rfl) (fun _ _ _ h => h) (Or.inl ⟨by rfl, ?_⟩) (by assumption) ?_
       rotate_left 1
       ·(intro w hS; (try dsimp only at hS); go_simp; try with_reducible rfl)
       (try simp only [Act.put, pX])
       refine wT (i := 8) (v := ?_) rfl (by kernel_rfl) (by kernel_rfl) (by kernel_rfl) (fun _ _ _ h => h) (Or.inl ⟨by rfl, ?_⟩) (by assumption) ?_
       rotate_left 1
       ·(intro w hS; (try dsimp only at hS); go_simp; try with_reducible rfl)
       (try simp only [Act.put, pX])
       refine wT (i := 9) (v := ?_) rfl (by kernel_rfl) (by kernel_rfl) (by kernel_rfl) (fun _ _ _ h => h) (Or.inl ⟨by rfl, ?_⟩) (by assumption) ?_
       rotate_left 1
       ·(intro w hS; (try dsimp only at hS); go_simp; try with_reducible rfl)
       (try simp only [Act.put, pX])
       refine wT (i := 12) (v := ?_) rfl (by kernel_rfl) (by kernel_rfl) (by kernel_rfl) (fun _ _ _ h => h) (Or.inl ⟨by rfl, ?_⟩) (by assumption) ?_
       rotate_left 1
       ·(intro w hS; (try dsimp only at hS); go_simp; try with_reducible rfl)
       (try simp only [Act.put, pX])
       refine wT (i := 13) (v := ?_) rfl (by kernel_rfl) (by kernel_rfl) (by kernel_rfl) (fun _ _ _ h => h) (Or.inl ⟨by rfl, ?_⟩) (by assumption) ?_
       rotate_left 1
       ·(intro w hS; (try dsimp only at hS); go_simp; try with_reducible rfl)
       (try simp only [Act.put, pX])
       refine wT (i := 14) (v := ?_) rfl (by kernel_rfl) (by kernel_rfl) (by kernel_rfl) (fun _ _ _ h => h) (Or.inl ⟨by rfl, ?_⟩) (by assumption) ?_
       rotate_left 1
       ·(intro w hS; (try dsimp only at hS); go_simp; try with_reducible rfl)
       (try simp only [Act.put, pX])
       refine wR (rs := [0, 10]) (by kernel_rfl) (by simp) ?_
       refine aC rfl (fun K hK => ?_) ?_
       ·go_simp
        have U2 : Below wi1.heap.size wi1 (wi1.alloc (.cells #[] 41)) := (Below.refl _ _).alloc (Nat.le_refl _) _
        have J2 := bel_then J1 U2
        refine hK.out _ _ (⟨(J2.cell (p := ⟨w.heap.size, 3, none⟩) hpb).trans pd, (J2.cell (p := ⟨bx, ox + i * 3, none⟩) hbx).trans x0, (J2.cell (p := ⟨bx, ox + i * 3 + 1, none⟩) hbx).trans x1, (J2.cell (p := ⟨bx, ox + i * 3 + 2, none⟩) hbx).trans x2⟩) (fun hH => ?_)
        clear hK K
        (try simp only [Act.put, pX])
        have own := own_base (own_empty wi1 41 3) (show wv.heap.size ≤ wi1.heap.size from J1.size)
        generalize (wi1.alloc (.cells #[] 41)) = wi2 at *
        have ownP := own
        refine wR (rs := [4, 10]) (by kernel_rfl) (by simp) ?_
        refine aC rfl (fun K hK => ?_) ?_
        ·refine step_cat rfl _ _ _ (by rfl) Tryz.underlying26 info_impl_DeskRow rfl (by decide) (by rfl) own (by rfl) (m := k) (hpre.next J2) (row_all _) (by omega) (by omega) (by decide) (by have := J2.size; omega) ?_
         intro A3 c3 wi3 own3 o3 b3 q3
         have J3 := J2.trans b3
         refine hK.out _ _ (⟨(J3.cell (p := ⟨w.heap.size, 3, none⟩) hpb).trans pd, (J3.cell (p := ⟨bx, ox + i * 3, none⟩) hbx).trans x0, (J3.cell (p := ⟨bx, ox + i * 3 + 1, none⟩) hbx).trans x1, (J3.cell (p := ⟨bx, ox + i * 3 + 2, none⟩) hbx).trans x2⟩) (fun hH => ?_)
         clear hK K
         (try simp only [Act.put, pX])
         (try simp only [Nat.zero_add])
         simp only [Nat.zero_add, List.nil_append] at own3
         replace own := own3
         clear own3
         replace ownP := own
         refine wR (rs := [10]) (by kernel_rfl) (by simp) ?_
         refine aC rfl (fun K hK => ?_) aN
         go_simp
         have U4 : Below wi3.heap.size wi3 (wi3.alloc (.cells #[.int .i64 x.number, .int .i64 x.missing, .int .i64 x.time] 41)) := (Below.refl _ _).alloc (Nat.le_refl _) _
         have J4 := bel_then J3 U4
         refine hK.out _ _ (⟨(J4.cell (p := ⟨w.heap.size, 3, none⟩) hpb).trans pd, (J4.cell (p := ⟨bx, ox + i * 3, none⟩) hbx).trans x0, (J4.cell (p := ⟨bx, ox + i * 3 + 1, none⟩) hbx).trans x1, (J4.cell (p := ⟨bx, ox + i * 3 + 2, none⟩) hbx).trans x2⟩) (fun hH => ?_)
         clear hK K
         (try simp only [Act.put, pX])
         replace own := own_below own U4
         have box : Blk (wi3.alloc (.cells #[.int .i64 x.number, .int .i64 x.missing, .int .i64 x.time] 41)) wi3.heap.size 41 [.int .i64 x.number, .int .i64 x.missing, .int .i64 x.time] := Blk.at_ rfl
         have lb := box.lt
         have hne : ∀ b, OwnB A3 b → b ≠ wi3.heap.size := fun b hb => by have := (own_top ownP hb).2; omega
         generalize (wi3.alloc (.cells #[.int .i64 x.number, .int .i64 x.missing, .int .i64 x.time] 41)) = wi4 at *
         replace ownP := own
         refine wR (rs := [11]) (by kernel_rfl) (by simp) ?_
         refine aC rfl (fun K hK => ?_) aN
         refine step_cat rfl _ _ _ (by rfl) Tryz.underlying26 info_impl_DeskRow rfl (by decide) (by rfl) own (by rfl) (m := 1) (box.sees (s := 3) (Nat.zero_le _) rfl) (by simp [Value.oneCell']) (by omega) (by omega) (by decide) (by have := J4.size; omega) ?_
         intro A5 c5 wi5 own5 o5 b5 q5
         have J5 := J4.trans b5
         refine hK.out _ _ (⟨(J5.cell (p := ⟨w.heap.size, 3, none⟩) hpb).trans pd, (J5.cell (p := ⟨bx, ox + i * 3, none⟩) hbx).trans x0, (J5.cell (p := ⟨bx, ox + i * 3 + 1, none⟩) hbx).trans x1, (J5.cell (p := ⟨bx, ox + i * 3 + 2, none⟩) hbx).trans x2⟩) (fun hH => ?_)
         clear hK K
         (try simp only [Act.put, pX])
         replace own := own5
         clear own5
         refine wR (rs := [15]) (by kernel_rfl) (by simp) ?_
         refine aC rfl (fun K hK => ?_) aN
         refine step_cat rfl _ _ _ (by rfl) Tryz.underlying26 info_impl_DeskRow rfl (by decide) (by rfl) own (by rfl) (m := 0) (hsuf.next J5) (row_all _) (by omega) (by omega) (by decide) (by have := J5.size; omega) ?_
         intro A6 c6 wi6 own6 o6 b6 q6
         have J6 := J5.trans b6
         refine hK.out _ _ (⟨(J6.cell (p := ⟨w.heap.size, 3, none⟩) hpb).trans pd, (J6.cell (p := ⟨bx, ox + i * 3, none⟩) hbx).trans x0, (J6.cell (p := ⟨bx, ox + i * 3 + 1, none⟩) hbx).trans x1, (J6.cell (p := ⟨bx, ox + i * 3 + 2, none⟩) hbx).trans x2⟩) (fun hH => ?_)
         clear hK K
         (try simp only [Act.put, pX])
         replace own := own6
         clear own6
         refine wT (i := 16) (v := ?_) rfl (by kernel_rfl) (by kernel_rfl) (by kernel_rfl) (fun _ _ _ h => h) (Or.inl ⟨by rfl, ?_⟩) (by assumption) ?_
         rotate_left 1
         ·(intro w hS; (try dsimp only at hS); go_simp; try with_reducible rfl)
         (try simp only [Act.put, pX])
         refine wD (by kernel_rfl) ?_ _
         go_wp2_with fail
         rw [show k + 1 + 0 = i + 1 by omega] at own
         obtain ⟨g4, cap4, hv4, -, -⟩ := own.form (Nat.succ_pos _)
         injection hv4 with hA4 _ _
         subst hA4
         go_roundw
         case rel => exact ⟨i + 1, g4, _, by omega, by go_num, by congr 1; omega, by rw [HIN.out, HR2.out]; exact own_base own OB.lt, PB.next J6, OB.next J6, bel_then K J6⟩
         case measure => simp [intOf]; omega
        refine aC rfl (fun K hK => ?_) aN
        ·go_simp
         have U3 : Below wi2.heap.size wi2 (wi2.alloc (.cells #[.int .i64 x.number, .int .i64 x.missing, .int .i64 x.time] 41)) := (Below.refl _ _).alloc (Nat.le_refl _) _
         have J3 := bel_then J2 U3
         refine hK.out _ _ (⟨(J3.cell (p := ⟨w.heap.size, 3, none⟩) hpb).trans pd, (J3.cell (p := ⟨bx, ox + i * 3, none⟩) hbx).trans x0, (J3.cell (p := ⟨bx, ox + i * 3 + 1, none⟩) hbx).trans x1, (J3.cell (p := ⟨bx, ox + i * 3 + 2, none⟩) hbx).trans x2⟩) (fun hH => ?_)
         clear hK K
         (try simp only [Act.put, pX])
         replace own := own_below own U3
         have box : Blk (wi2.alloc (.cells #[.int .i64 x.number, .int .i64 x.missing, .int .i64 x.time] 41)) wi2.heap.size 41 [.int .i64 x.number, .int .i64 x.missing, .int .i64 x.time] := Blk.at_ rfl
         have lb := box.lt
         have hne : ∀ b, OwnB (some ⟨wi1.heap.size, 0, none⟩) b → b ≠ wi2.heap.size := fun b hb => by have := (own_top ownP hb).2; omega
         generalize (wi2.alloc (.cells #[.int .i64 x.number, .int .i64 x.missing, .int .i64 x.time] 41)) = wi3 at *
         replace ownP := own
         refine wR (rs := [4]) (by kernel_rfl) (by simp) ?_
         refine aC rfl (fun K hK => ?_) aN
         refine step_cat rfl _ _ _ (by rfl) Tryz.underlying26 info_impl_DeskRow rfl (by decide) (by rfl) own (by rfl) (m := k) (hpre.next J3) (row_all _) (by omega) (by omega) (by decide) (by have := J3.size; omega) ?_
         intro A4 c4 wi4 own4 o4 b4 q4
         have J4 := J3.trans b4
         refine hK.out _ _ (⟨(J4.cell (p := ⟨w.heap.size, 3, none⟩) hpb).trans pd, (J4.cell (p := ⟨bx, ox + i * 3, none⟩) hbx).trans x0, (J4.cell (p := ⟨bx, ox + i * 3 + 1, none⟩) hbx).trans x1, (J4.cell (p := ⟨bx, ox + i * 3 + 2, none⟩) hbx).trans x2⟩) (fun hH => ?_)
         clear hK K
         (try simp only [Act.put, pX])
         (try simp only [Nat.zero_add])
         replace box := box.only o4 (fun h => hne _ h rfl)
         simp only [Nat.zero_add, List.nil_append] at own4
         replace own := own4
         clear own4
         replace ownP := own
         refine wR (rs := [11]) (by kernel_rfl) (by simp) ?_
         refine aC rfl (fun K hK => ?_) aN
         refine step_cat rfl _ _ _ (by rfl) Tryz.underlying26 info_impl_DeskRow rfl (by decide) (by rfl) own (by rfl) (m := 1) (box.sees (s := 3) (Nat.zero_le _) rfl) (by simp [Value.oneCell']) (by omega) (by omega) (by decide) (by have := J4.size; omega) ?_
         intro A5 c5 wi5 own5 o5 b5 q5
         have J5 := J4.trans b5
         refine hK.out _ _ (⟨(J5.cell (p := ⟨w.heap.size, 3, none⟩) hpb).trans pd, (J5.cell (p := ⟨bx, ox + i * 3, none⟩) hbx).trans x0, (J5.cell (p := ⟨bx, ox + i * 3 + 1, none⟩) hbx).trans x1, (J5.cell (p := ⟨bx, ox + i * 3 + 2, none⟩) hbx).trans x2⟩) (fun hH => ?_)
         clear hK K
         (try simp only [Act.put, pX])
         replace own := own5
         clear own5
         refine wR (rs := [15]) (by kernel_rfl) (by simp) ?_
         refine aC rfl (fun K hK => ?_) aN
         refine step_cat rfl _ _ _ (by rfl) Tryz.underlying26 info_impl_DeskRow rfl (by decide) (by rfl) own (by rfl) (m := 0) (hsuf.next J5) (row_all _) (by omega) (by omega) (by decide) (by have := J5.size; omega) ?_
         intro A6 c6 wi6 own6 o6 b6 q6
         have J6 := J5.trans b6
         refine hK.out _ _ (⟨(J6.cell (p := ⟨w.heap.size, 3, none⟩) hpb).trans pd, (J6.cell (p := ⟨bx, ox + i * 3, none⟩) hbx).trans x0, (J6.cell (p := ⟨bx, ox + i * 3 + 1, none⟩) hbx).trans x1, (J6.cell (p := ⟨bx, ox + i * 3 + 2, none⟩) hbx).trans x2⟩) (fun hH => ?_)
         clear hK K
         (try simp only [Act.put, pX])
         replace own := own6
         clear own6
         refine wT (i := 16) (v := ?_) rfl (by kernel_rfl) (by kernel_rfl) (by kernel_rfl) (fun _ _ _ h => h) (Or.inl ⟨by rfl, ?_⟩) (by assumption) ?_
         rotate_left 1
         ·(intro w hS; (try dsimp only at hS); go_simp; try with_reducible rfl)
         (try simp only [Act.put, pX])
         refine wD (by kernel_rfl) ?_ _
         go_wp2_with fail
         rw [show k + 1 + 0 = i + 1 by omega] at own
         obtain ⟨g4, cap4, hv4, -, -⟩ := own.form (Nat.succ_pos _)
         injection hv4 with hA4 _ _
         subst hA4
         go_roundw
         case rel => exact ⟨i + 1, g4, _, by omega, by go_num, by congr 1; omega, by rw [HIN.out, HR2.out]; exact own_base own OB.lt, PB.next J6, OB.next J6, bel_then K J6⟩
         case measure => simp [intOf]; omega
       refine aC rfl (fun K hK => ?_) aN
       ·go_simp
        have U2 : Below wi1.heap.size wi1 (wi1.alloc (.cells #[.int .i64 x.number, .int .i64 x.missing, .int .i64 x.time] 41)) := (Below.refl _ _).alloc (Nat.le_refl _) _
        have J2 := bel_then J1 U2
        refine hK.out _ _ (⟨(J2.cell (p := ⟨w.heap.size, 3, none⟩) hpb).trans pd, (J2.cell (p := ⟨bx, ox + i * 3, none⟩) hbx).trans x0, (J2.cell (p := ⟨bx, ox + i * 3 + 1, none⟩) hbx).trans x1, (J2.cell (p := ⟨bx, ox + i * 3 + 2, none⟩) hbx).trans x2⟩) (fun hH => ?_)
        clear hK K
        (try simp only [Act.put, pX])
        have box : Blk (wi1.alloc (.cells #[.int .i64 x.number, .int .i64 x.missing, .int .i64 x.time] 41)) wi1.heap.size 41 [.int .i64 x.number, .int .i64 x.missing, .int .i64 x.time] := Blk.at_ rfl
        have lb := box.lt
        generalize (wi1.alloc (.cells #[.int .i64 x.number, .int .i64 x.missing, .int .i64 x.time] 41)) = wi2 at *
        refine wR (rs := [0]) (by kernel_rfl) (by simp) ?_
        refine aC rfl (fun K hK => ?_) aN
        go_simp
        have U3 : Below wi2.heap.size wi2 (wi2.alloc (.cells #[] 41)) := (Below.refl _ _).alloc (Nat.le_refl _) _
        have J3 := bel_then J2 U3
        refine hK.out _ _ (⟨(J3.cell (p := ⟨w.heap.size, 3, none⟩) hpb).trans pd, (J3.cell (p := ⟨bx, ox + i * 3, none⟩) hbx).trans x0, (J3.cell (p := ⟨bx, ox + i * 3 + 1, none⟩) hbx).trans x1, (J3.cell (p := ⟨bx, ox + i * 3 + 2, none⟩) hbx).trans x2⟩) (fun hH => ?_)
        clear hK K
        (try simp only [Act.put, pX])
        replace box := box.next U3
        have own := own_base (own_empty wi2 41 3) (show wv.heap.size ≤ wi2.heap.size from J2.size)
        have hne : ∀ b, OwnB (some ⟨wi2.heap.size, 0, none⟩) b → b ≠ wi1.heap.size := fun b hb => by have h4 : wi2.heap.size = b := (by simpa [OwnB, Value.ownBlock] using hb); have h5 := lb; omega
        generalize (wi2.alloc (.cells #[] 41)) = wi3 at *
        have ownP := own
        refine wR (rs := [4]) (by kernel_rfl) (by simp) ?_
        refine aC rfl (fun K hK => ?_) aN
        refine step_cat rfl _ _ _ (by rfl) Tryz.underlying26 info_impl_DeskRow rfl (by decide) (by rfl) own (by rfl) (m := k) (hpre.next J3) (row_all _) (by omega) (by omega) (by decide) (by have := J3.size; omega) ?_
        intro A4 c4 wi4 own4 o4 b4 q4
        have J4 := J3.trans b4
        refine hK.out _ _ (⟨(J4.cell (p := ⟨w.heap.size, 3, none⟩) hpb).trans pd, (J4.cell (p := ⟨bx, ox + i * 3, none⟩) hbx).trans x0, (J4.cell (p := ⟨bx, ox + i * 3 + 1, none⟩) hbx).trans x1, (J4.cell (p := ⟨bx, ox + i * 3 + 2, none⟩) hbx).trans x2⟩) (fun hH => ?_)
        clear hK K
        (try simp only [Act.put, pX])
        (try simp only [Nat.zero_add])
        replace box := box.only o4 (fun h => hne _ h rfl)
        simp only [Nat.zero_add, List.nil_append] at own4
        replace own := own4
        clear own4
        replace ownP := own
        refine wR (rs := [11]) (by kernel_rfl) (by simp) ?_
        refine aC rfl (fun K hK => ?_) aN
        refine step_cat rfl _ _ _ (by rfl) Tryz.underlying26 info_impl_DeskRow rfl (by decide) (by rfl) own (by rfl) (m := 1) (box.sees (s := 3) (Nat.zero_le _) rfl) (by simp [Value.oneCell']) (by omega) (by omega) (by decide) (by have := J4.size; omega) ?_
        intro A5 c5 wi5 own5 o5 b5 q5
        have J5 := J4.trans b5
        refine hK.out _ _ (⟨(J5.cell (p := ⟨w.heap.size, 3, none⟩) hpb).trans pd, (J5.cell (p := ⟨bx, ox + i * 3, none⟩) hbx).trans x0, (J5.cell (p := ⟨bx, ox + i * 3 + 1, none⟩) hbx).trans x1, (J5.cell (p := ⟨bx, ox + i * 3 + 2, none⟩) hbx).trans x2⟩) (fun hH => ?_)
        clear hK K
        (try simp only [Act.put, pX])
        replace own := own5
        clear own5
        refine wR (rs := [15]) (by kernel_rfl) (by simp) ?_
        refine aC rfl (fun K hK => ?_) aN
        refine step_cat rfl _ _ _ (by rfl) Tryz.underlying26 info_impl_DeskRow rfl (by decide) (by rfl) own (by rfl) (m := 0) (hsuf.next J5) (row_all _) (by omega) (by omega) (by decide) (by have := J5.size; omega) ?_
        intro A6 c6 wi6 own6 o6 b6 q6
        have J6 := J5.trans b6
        refine hK.out _ _ (⟨(J6.cell (p := ⟨w.heap.size, 3, none⟩) hpb).trans pd, (J6.cell (p := ⟨bx, ox + i * 3, none⟩) hbx).trans x0, (J6.cell (p := ⟨bx, ox + i * 3 + 1, none⟩) hbx).trans x1, (J6.cell (p := ⟨bx, ox + i * 3 + 2, none⟩) hbx).trans x2⟩) (fun hH => ?_)
        clear hK K
        (try simp only [Act.put, pX])
        replace own := own6
        clear own6
        refine wT (i := 16) (v := ?_) rfl (by kernel_rfl) (by kernel_rfl) (by kernel_rfl) (fun _ _ _ h => h) (Or.inl ⟨by rfl, ?_⟩) (by assumption) ?_
        rotate_left 1
        ·(intro w hS; (try dsimp only at hS); go_simp; try with_reducible rfl)
        (try simp only [Act.put, pX])
        refine wD (by kernel_rfl) ?_ _
        go_wp2_with fail
        rw [show k + 1 + 0 = i + 1 by omega] at own
        obtain ⟨g4, cap4, hv4, -, -⟩ := own.form (Nat.succ_pos _)
        injection hv4 with hA4 _ _
        subst hA4
        go_roundw
        case rel => exact ⟨i + 1, g4, _, by omega, by go_num, by congr 1; omega, by rw [HIN.out, HR2.out]; exact own_base own OB.lt, PB.next J6, OB.next J6, bel_then K J6⟩
        case measure => simp [intOf]; omega
      ·have hsuf := SeesFlat.drop (Sees.of_own own) (by decide) (fun _ => rfl) k hk
       have hk1 : k ≤ c' := by omega
       clear own
       go_wp2_with fail
       have J1 := (Quiet.one wv).below wv.heap.size
       refine wp_region_held_drew (S := fun w' => w'.cell? ⟨w.heap.size, 3, none⟩ = some (.slice (some ⟨bx, ox, none⟩) n3 c3) ∧ w'.cell? ⟨bx, ox + i * 3, none⟩ = some (.int .i64 x.number) ∧ w'.cell? ⟨bx, ox + i * 3 + 1, none⟩ = some (.int .i64 x.missing) ∧ w'.cell? ⟨bx, ox + i * 3 + 2, none⟩ = some (.int .i64 x.time)) (by kernel_rfl) (⟨(J1.cell (p := ⟨w.heap.size, 3, none⟩) hpb).trans pd, (J1.cell (p := ⟨bx, ox + i * 3, none⟩) hbx).trans x0, (J1.cell (p := ⟨bx, ox + i * 3 + 1, none⟩) hbx).trans x1, (J1.cell (p := ⟨bx, ox + i * 3 + 2, none⟩) hbx).trans x2⟩) (fun hH => ?_)
       generalize wv.drew = wi1 at *
       refine wT (i := 1) (v := ?_) rfl (by kernel_rfl) (by kernel_rfl) (by kernel_rfl) (fun _ _ _ h => h) (Or.inl ⟨by rfl, ?_⟩) (by assumption) ?_
       rotate_left 1
       ·(intro w hS; (try dsimp only at hS); go_simp; try with_reducible rfl)
       (try simp only [Act.put, pX])
       refine wT (i := 2) (v := ?_) rfl (by kernel_rfl) (by kernel_rfl) (by kernel_rfl) (fun _ _ _ h => h) (Or.inl ⟨by rfl, ?_⟩) (by assumption) ?_
       rotate_left 1
       ·(intro w hS; (try dsimp only at hS); go_simp; try with_reducible rfl)
       (try simp only [Act.put, pX])
       refine wT (i := 3) (v := ?_) rfl (by kernel_rfl) (by kernel_rfl) (by kernel_rfl) (fun _ _ _ h => h) (Or.inl ⟨by rfl, ?_⟩) (by assumption) ?_
       rotate_left 1
       ·(intro w hS; (try dsimp only at hS); go_simp; try with_reducible rfl)
       (try simp only [Act.put, pX])
       refine wT (i := 5) (v := ?_) rfl (by kernel_rfl) (by kernel_rfl) (by kernel_rfl) (fun _ _ _ h => h) (Or.inl ⟨by rfl, ?_⟩) (by assumption) ?_
       rotate_left 1
       ·(intro w hS; (try dsimp only at hS); go_simp; try with_reducible rfl)
       (try simp only [Act.put, pX])
       refine wT (i := 6) (v := ?_) rfl (by kernel_rfl) (by kernel_rfl) (by kernel_rfl) (fun _ _ _ h => h) (Or.inl ⟨by rfl, ?_⟩) (by assumption) ?_
       rotate_left 1
       ·(intro w hS; (try dsimp only at hS); go_simp; try with_reducible rfl)
       (try simp only [Act.put, pX])
       refine wT (i := 7) (v := ?_) rfl (by kernel_rfl) (by kernel_rfl) (by kernel_rfl) (fun _ _ _ h => h) (Or.inl ⟨by rfl, ?_⟩) (by assumption) ?_
       rotate_left 1
       ·(intro w hS; (try dsimp only at hS); go_simp; try with_reducible rfl)
       (try simp only [Act.put, pX])
       refine wT (i := 8) (v := ?_) rfl (by kernel_rfl) (by kernel_rfl) (by kernel_rfl) (fun _ _ _ h => h) (Or.inl ⟨by rfl, ?_⟩) (by assumption) ?_
       rotate_left 1
       ·(intro w hS; (try dsimp only at hS); go_simp; try with_reducible rfl)
       (try simp only [Act.put, pX])
       refine wT (i := 9) (v := ?_) rfl (by kernel_rfl) (by kernel_rfl) (by kernel_rfl) (fun _ _ _ h => h) (Or.inl ⟨by rfl, ?_⟩) (by assumption) ?_
       rotate_left 1
       ·(intro w hS; (try dsimp only at hS); go_simp; try with_reducible rfl)
       (try simp only [Act.put, pX])
       refine wT (i := 12) (v := ?_) rfl (by kernel_rfl) (by kernel_rfl) (by kernel_rfl) (fun _ _ _ h => h) (Or.inl ⟨by rfl, ?_⟩) (by assumption) ?_
       rotate_left 1
       ·(intro w hS; (try dsimp only at hS); go_simp; try with_reducible rfl)
       (try simp only [Act.put, pX])
       refine wT (i := 13) (v := ?_) rfl (by kernel_rfl) (by kernel_rfl) (by kernel_rfl) (fun _ _ _ h => h) (Or.inl ⟨by rfl, ?_⟩) (by assumption) ?_
       rotate_left 1
       ·(intro w hS; (try dsimp only at hS); go_simp; try with_reducible rfl)
       (try simp only [Act.put, pX])
       refine wT (i := 14) (v := ?_) rfl (by kernel_rfl) (by kernel_rfl) (by kernel_rfl) (fun _ _ _ h => h) (Or.inl ⟨by rfl, ?_⟩) (by assumption) ?_
       rotate_left 1
       ·(intro w hS; (try dsimp only at hS); go_simp; try with_reducible rfl)
       (try simp only [Act.put, pX])
       refine wR (rs := [0, 10]) (by kernel_rfl) (by simp) ?_
       refine aC rfl (fun K hK => ?_) ?_
       ·go_simp
        have U2 : Below wi1.heap.size wi1 (wi1.alloc (.cells #[] 41)) := (Below.refl _ _).alloc (Nat.le_refl _) _
        have J2 := bel_then J1 U2
        refine hK.out _ _ (⟨(J2.cell (p := ⟨w.heap.size, 3, none⟩) hpb).trans pd, (J2.cell (p := ⟨bx, ox + i * 3, none⟩) hbx).trans x0, (J2.cell (p := ⟨bx, ox + i * 3 + 1, none⟩) hbx).trans x1, (J2.cell (p := ⟨bx, ox + i * 3 + 2, none⟩) hbx).trans x2⟩) (fun hH => ?_)
        clear hK K
        (try simp only [Act.put, pX])
        have own := own_base (own_empty wi1 41 3) (show wv.heap.size ≤ wi1.heap.size from J1.size)
        generalize (wi1.alloc (.cells #[] 41)) = wi2 at *
        have ownP := own
        refine wR (rs := [4, 10]) (by kernel_rfl) (by simp) ?_
        refine aC rfl (fun K hK => ?_) ?_
        ·refine step_cat rfl _ _ _ (by rfl) Tryz.underlying26 info_impl_DeskRow rfl (by decide) (by rfl) own (by rfl) (m := k) (hpre.next J2) (row_all _) (by omega) (by omega) (by decide) (by have := J2.size; omega) ?_
         intro A3 c3 wi3 own3 o3 b3 q3
         have J3 := J2.trans b3
         refine hK.out _ _ (⟨(J3.cell (p := ⟨w.heap.size, 3, none⟩) hpb).trans pd, (J3.cell (p := ⟨bx, ox + i * 3, none⟩) hbx).trans x0, (J3.cell (p := ⟨bx, ox + i * 3 + 1, none⟩) hbx).trans x1, (J3.cell (p := ⟨bx, ox + i * 3 + 2, none⟩) hbx).trans x2⟩) (fun hH => ?_)
         clear hK K
         (try simp only [Act.put, pX])
         (try simp only [Nat.zero_add])
         simp only [Nat.zero_add, List.nil_append] at own3
         replace own := own3
         clear own3
         replace ownP := own
         refine wR (rs := [10]) (by kernel_rfl) (by simp) ?_
         refine aC rfl (fun K hK => ?_) aN
         go_simp
         have U4 : Below wi3.heap.size wi3 (wi3.alloc (.cells #[.int .i64 x.number, .int .i64 x.missing, .int .i64 x.time] 41)) := (Below.refl _ _).alloc (Nat.le_refl _) _
         have J4 := bel_then J3 U4
         refine hK.out _ _ (⟨(J4.cell (p := ⟨w.heap.size, 3, none⟩) hpb).trans pd, (J4.cell (p := ⟨bx, ox + i * 3, none⟩) hbx).trans x0, (J4.cell (p := ⟨bx, ox + i * 3 + 1, none⟩) hbx).trans x1, (J4.cell (p := ⟨bx, ox + i * 3 + 2, none⟩) hbx).trans x2⟩) (fun hH => ?_)
         clear hK K
         (try simp only [Act.put, pX])
         replace own := own_below own U4
         have box : Blk (wi3.alloc (.cells #[.int .i64 x.number, .int .i64 x.missing, .int .i64 x.time] 41)) wi3.heap.size 41 [.int .i64 x.number, .int .i64 x.missing, .int .i64 x.time] := Blk.at_ rfl
         have lb := box.lt
         have hne : ∀ b, OwnB A3 b → b ≠ wi3.heap.size := fun b hb => by have := (own_top ownP hb).2; omega
         generalize (wi3.alloc (.cells #[.int .i64 x.number, .int .i64 x.missing, .int .i64 x.time] 41)) = wi4 at *
         replace ownP := own
         refine wR (rs := [11]) (by kernel_rfl) (by simp) ?_
         refine aC rfl (fun K hK => ?_) aN
         refine step_cat rfl _ _ _ (by rfl) Tryz.underlying26 info_impl_DeskRow rfl (by decide) (by rfl) own (by rfl) (m := 1) (box.sees (s := 3) (Nat.zero_le _) rfl) (by simp [Value.oneCell']) (by omega) (by omega) (by decide) (by have := J4.size; omega) ?_
         intro A5 c5 wi5 own5 o5 b5 q5
         have J5 := J4.trans b5
         refine hK.out _ _ (⟨(J5.cell (p := ⟨w.heap.size, 3, none⟩) hpb).trans pd, (J5.cell (p := ⟨bx, ox + i * 3, none⟩) hbx).trans x0, (J5.cell (p := ⟨bx, ox + i * 3 + 1, none⟩) hbx).trans x1, (J5.cell (p := ⟨bx, ox + i * 3 + 2, none⟩) hbx).trans x2⟩) (fun hH => ?_)
         clear hK K
         (try simp only [Act.put, pX])
         replace own := own5
         clear own5
         refine wR (rs := [15]) (by kernel_rfl) (by simp) ?_
         refine aC rfl (fun K hK => ?_) aN
         refine step_cat rfl _ _ _ (by rfl) Tryz.underlying26 info_impl_DeskRow rfl (by decide) (by rfl) own (by rfl) (m := (i - k)) (hsuf.next J5) (row_all _) (by omega) (by omega) (by decide) (by have := J5.size; omega) ?_
         intro A6 c6 wi6 own6 o6 b6 q6
         have J6 := J5.trans b6
         refine hK.out _ _ (⟨(J6.cell (p := ⟨w.heap.size, 3, none⟩) hpb).trans pd, (J6.cell (p := ⟨bx, ox + i * 3, none⟩) hbx).trans x0, (J6.cell (p := ⟨bx, ox + i * 3 + 1, none⟩) hbx).trans x1, (J6.cell (p := ⟨bx, ox + i * 3 + 2, none⟩) hbx).trans x2⟩) (fun hH => ?_)
         clear hK K
         (try simp only [Act.put, pX])
         replace own := own6
         clear own6
         refine wT (i := 16) (v := ?_) rfl (by kernel_rfl) (by kernel_rfl) (by kernel_rfl) (fun _ _ _ h => h) (Or.inl ⟨by rfl, ?_⟩) (by assumption) ?_
         rotate_left 1
         ·(intro w hS; (try dsimp only at hS); go_simp; try with_reducible rfl)
         (try simp only [Act.put, pX])
         refine wD (by kernel_rfl) ?_ _
         go_wp2_with fail
         rw [show k + 1 + (i - k) = i + 1 by omega] at own
         obtain ⟨g4, cap4, hv4, -, -⟩ := own.form (Nat.succ_pos _)
         injection hv4 with hA4 _ _
         subst hA4
         go_roundw
         case rel => exact ⟨i + 1, g4, _, by omega, by go_num, by congr 1; omega, by rw [HIN.out, HR2.out]; exact own_base own OB.lt, PB.next J6, OB.next J6, bel_then K J6⟩
         case measure => simp [intOf]; omega
        refine aC rfl (fun K hK => ?_) aN
        ·go_simp
         have U3 : Below wi2.heap.size wi2 (wi2.alloc (.cells #[.int .i64 x.number, .int .i64 x.missing, .int .i64 x.time] 41)) := (Below.refl _ _).alloc (Nat.le_refl _) _
         have J3 := bel_then J2 U3
         refine hK.out _ _ (⟨(J3.cell (p := ⟨w.heap.size, 3, none⟩) hpb).trans pd, (J3.cell (p := ⟨bx, ox + i * 3, none⟩) hbx).trans x0, (J3.cell (p := ⟨bx, ox + i * 3 + 1, none⟩) hbx).trans x1, (J3.cell (p := ⟨bx, ox + i * 3 + 2, none⟩) hbx).trans x2⟩) (fun hH => ?_)
         clear hK K
         (try simp only [Act.put, pX])
         replace own := own_below own U3
         have box : Blk (wi2.alloc (.cells #[.int .i64 x.number, .int .i64 x.missing, .int .i64 x.time] 41)) wi2.heap.size 41 [.int .i64 x.number, .int .i64 x.missing, .int .i64 x.time] := Blk.at_ rfl
         have lb := box.lt
         have hne : ∀ b, OwnB (some ⟨wi1.heap.size, 0, none⟩) b → b ≠ wi2.heap.size := fun b hb => by have := (own_top ownP hb).2; omega
         generalize (wi2.alloc (.cells #[.int .i64 x.number, .int .i64 x.missing, .int .i64 x.time] 41)) = wi3 at *
         replace ownP := own
         refine wR (rs := [4]) (by kernel_rfl) (by simp) ?_
         refine aC rfl (fun K hK => ?_) aN
         refine step_cat rfl _ _ _ (by rfl) Tryz.underlying26 info_impl_DeskRow rfl (by decide) (by rfl) own (by rfl) (m := k) (hpre.next J3) (row_all _) (by omega) (by omega) (by decide) (by have := J3.size; omega) ?_
         intro A4 c4 wi4 own4 o4 b4 q4
         have J4 := J3.trans b4
         refine hK.out _ _ (⟨(J4.cell (p := ⟨w.heap.size, 3, none⟩) hpb).trans pd, (J4.cell (p := ⟨bx, ox + i * 3, none⟩) hbx).trans x0, (J4.cell (p := ⟨bx, ox + i * 3 + 1, none⟩) hbx).trans x1, (J4.cell (p := ⟨bx, ox + i * 3 + 2, none⟩) hbx).trans x2⟩) (fun hH => ?_)
         clear hK K
         (try simp only [Act.put, pX])
         (try simp only [Nat.zero_add])
         replace box := box.only o4 (fun h => hne _ h rfl)
         simp only [Nat.zero_add, List.nil_append] at own4
         replace own := own4
         clear own4
         replace ownP := own
         refine wR (rs := [11]) (by kernel_rfl) (by simp) ?_
         refine aC rfl (fun K hK => ?_) aN
         refine step_cat rfl _ _ _ (by rfl) Tryz.underlying26 info_impl_DeskRow rfl (by decide) (by rfl) own (by rfl) (m := 1) (box.sees (s := 3) (Nat.zero_le _) rfl) (by simp [Value.oneCell']) (by omega) (by omega) (by decide) (by have := J4.size; omega) ?_
         intro A5 c5 wi5 own5 o5 b5 q5
         have J5 := J4.trans b5
         refine hK.out _ _ (⟨(J5.cell (p := ⟨w.heap.size, 3, none⟩) hpb).trans pd, (J5.cell (p := ⟨bx, ox + i * 3, none⟩) hbx).trans x0, (J5.cell (p := ⟨bx, ox + i * 3 + 1, none⟩) hbx).trans x1, (J5.cell (p := ⟨bx, ox + i * 3 + 2, none⟩) hbx).trans x2⟩) (fun hH => ?_)
         clear hK K
         (try simp only [Act.put, pX])
         replace own := own5
         clear own5
         refine wR (rs := [15]) (by kernel_rfl) (by simp) ?_
         refine aC rfl (fun K hK => ?_) aN
         refine step_cat rfl _ _ _ (by rfl) Tryz.underlying26 info_impl_DeskRow rfl (by decide) (by rfl) own (by rfl) (m := (i - k)) (hsuf.next J5) (row_all _) (by omega) (by omega) (by decide) (by have := J5.size; omega) ?_
         intro A6 c6 wi6 own6 o6 b6 q6
         have J6 := J5.trans b6
         refine hK.out _ _ (⟨(J6.cell (p := ⟨w.heap.size, 3, none⟩) hpb).trans pd, (J6.cell (p := ⟨bx, ox + i * 3, none⟩) hbx).trans x0, (J6.cell (p := ⟨bx, ox + i * 3 + 1, none⟩) hbx).trans x1, (J6.cell (p := ⟨bx, ox + i * 3 + 2, none⟩) hbx).trans x2⟩) (fun hH => ?_)
         clear hK K
         (try simp only [Act.put, pX])
         replace own := own6
         clear own6
         refine wT (i := 16) (v := ?_) rfl (by kernel_rfl) (by kernel_rfl) (by kernel_rfl) (fun _ _ _ h => h) (Or.inl ⟨by rfl, ?_⟩) (by assumption) ?_
         rotate_left 1
         ·(intro w hS; (try dsimp only at hS); go_simp; try with_reducible rfl)
         (try simp only [Act.put, pX])
         refine wD (by kernel_rfl) ?_ _
         go_wp2_with fail
         rw [show k + 1 + (i - k) = i + 1 by omega] at own
         obtain ⟨g4, cap4, hv4, -, -⟩ := own.form (Nat.succ_pos _)
         injection hv4 with hA4 _ _
         subst hA4
         go_roundw
         case rel => exact ⟨i + 1, g4, _, by omega, by go_num, by congr 1; omega, by rw [HIN.out, HR2.out]; exact own_base own OB.lt, PB.next J6, OB.next J6, bel_then K J6⟩
         case measure => simp [intOf]; omega
       refine aC rfl (fun K hK => ?_) aN
       ·go_simp
        have U2 : Below wi1.heap.size wi1 (wi1.alloc (.cells #[.int .i64 x.number, .int .i64 x.missing, .int .i64 x.time] 41)) := (Below.refl _ _).alloc (Nat.le_refl _) _
        have J2 := bel_then J1 U2
        refine hK.out _ _ (⟨(J2.cell (p := ⟨w.heap.size, 3, none⟩) hpb).trans pd, (J2.cell (p := ⟨bx, ox + i * 3, none⟩) hbx).trans x0, (J2.cell (p := ⟨bx, ox + i * 3 + 1, none⟩) hbx).trans x1, (J2.cell (p := ⟨bx, ox + i * 3 + 2, none⟩) hbx).trans x2⟩) (fun hH => ?_)
        clear hK K
        (try simp only [Act.put, pX])
        have box : Blk (wi1.alloc (.cells #[.int .i64 x.number, .int .i64 x.missing, .int .i64 x.time] 41)) wi1.heap.size 41 [.int .i64 x.number, .int .i64 x.missing, .int .i64 x.time] := Blk.at_ rfl
        have lb := box.lt
        generalize (wi1.alloc (.cells #[.int .i64 x.number, .int .i64 x.missing, .int .i64 x.time] 41)) = wi2 at *
        refine wR (rs := [0]) (by kernel_rfl) (by simp) ?_
        refine aC rfl (fun K hK => ?_) aN
        go_simp
        have U3 : Below wi2.heap.size wi2 (wi2.alloc (.cells #[] 41)) := (Below.refl _ _).alloc (Nat.le_refl _) _
        have J3 := bel_then J2 U3
        refine hK.out _ _ (⟨(J3.cell (p := ⟨w.heap.size, 3, none⟩) hpb).trans pd, (J3.cell (p := ⟨bx, ox + i * 3, none⟩) hbx).trans x0, (J3.cell (p := ⟨bx, ox + i * 3 + 1, none⟩) hbx).trans x1, (J3.cell (p := ⟨bx, ox + i * 3 + 2, none⟩) hbx).trans x2⟩) (fun hH => ?_)
        clear hK K
        (try simp only [Act.put, pX])
        replace box := box.next U3
        have own := own_base (own_empty wi2 41 3) (show wv.heap.size ≤ wi2.heap.size from J2.size)
        have hne : ∀ b, OwnB (some ⟨wi2.heap.size, 0, none⟩) b → b ≠ wi1.heap.size := fun b hb => by have h4 : wi2.heap.size = b := (by simpa [OwnB, Value.ownBlock] using hb); have h5 := lb; omega
        generalize (wi2.alloc (.cells #[] 41)) = wi3 at *
        have ownP := own
        refine wR (rs := [4]) (by kernel_rfl) (by simp) ?_
        refine aC rfl (fun K hK => ?_) aN
        refine step_cat rfl _ _ _ (by rfl) Tryz.underlying26 info_impl_DeskRow rfl (by decide) (by rfl) own (by rfl) (m := k) (hpre.next J3) (row_all _) (by omega) (by omega) (by decide) (by have := J3.size; omega) ?_
        intro A4 c4 wi4 own4 o4 b4 q4
        have J4 := J3.trans b4
        refine hK.out _ _ (⟨(J4.cell (p := ⟨w.heap.size, 3, none⟩) hpb).trans pd, (J4.cell (p := ⟨bx, ox + i * 3, none⟩) hbx).trans x0, (J4.cell (p := ⟨bx, ox + i * 3 + 1, none⟩) hbx).trans x1, (J4.cell (p := ⟨bx, ox + i * 3 + 2, none⟩) hbx).trans x2⟩) (fun hH => ?_)
        clear hK K
        (try simp only [Act.put, pX])
        (try simp only [Nat.zero_add])
        replace box := box.only o4 (fun h => hne _ h rfl)
        simp only [Nat.zero_add, List.nil_append] at own4
        replace own := own4
        clear own4
        replace ownP := own
        refine wR (rs := [11]) (by kernel_rfl) (by simp) ?_
        refine aC rfl (fun K hK => ?_) aN
        refine step_cat rfl _ _ _ (by rfl) Tryz.underlying26 info_impl_DeskRow rfl (by decide) (by rfl) own (by rfl) (m := 1) (box.sees (s := 3) (Nat.zero_le _) rfl) (by simp [Value.oneCell']) (by omega) (by omega) (by decide) (by have := J4.size; omega) ?_
        intro A5 c5 wi5 own5 o5 b5 q5
        have J5 := J4.trans b5
        refine hK.out _ _ (⟨(J5.cell (p := ⟨w.heap.size, 3, none⟩) hpb).trans pd, (J5.cell (p := ⟨bx, ox + i * 3, none⟩) hbx).trans x0, (J5.cell (p := ⟨bx, ox + i * 3 + 1, none⟩) hbx).trans x1, (J5.cell (p := ⟨bx, ox + i * 3 + 2, none⟩) hbx).trans x2⟩) (fun hH => ?_)
        clear hK K
        (try simp only [Act.put, pX])
        replace own := own5
        clear own5
        refine wR (rs := [15]) (by kernel_rfl) (by simp) ?_
        refine aC rfl (fun K hK => ?_) aN
        refine step_cat rfl _ _ _ (by rfl) Tryz.underlying26 info_impl_DeskRow rfl (by decide) (by rfl) own (by rfl) (m := (i - k)) (hsuf.next J5) (row_all _) (by omega) (by omega) (by decide) (by have := J5.size; omega) ?_
        intro A6 c6 wi6 own6 o6 b6 q6
        have J6 := J5.trans b6
        refine hK.out _ _ (⟨(J6.cell (p := ⟨w.heap.size, 3, none⟩) hpb).trans pd, (J6.cell (p := ⟨bx, ox + i * 3, none⟩) hbx).trans x0, (J6.cell (p := ⟨bx, ox + i * 3 + 1, none⟩) hbx).trans x1, (J6.cell (p := ⟨bx, ox + i * 3 + 2, none⟩) hbx).trans x2⟩) (fun hH => ?_)
        clear hK K
        (try simp only [Act.put, pX])
        replace own := own6
        clear own6
        refine wT (i := 16) (v := ?_) rfl (by kernel_rfl) (by kernel_rfl) (by kernel_rfl) (fun _ _ _ h => h) (Or.inl ⟨by rfl, ?_⟩) (by assumption) ?_
        rotate_left 1
        ·(intro w hS; (try dsimp only at hS); go_simp; try with_reducible rfl)
        (try simp only [Act.put, pX])
        refine wD (by kernel_rfl) ?_ _
        go_wp2_with fail
        rw [show k + 1 + (i - k) = i + 1 by omega] at own
        obtain ⟨g4, cap4, hv4, -, -⟩ := own.form (Nat.succ_pos _)
        injection hv4 with hA4 _ _
        subst hA4
        go_roundw
        case rel => exact ⟨i + 1, g4, _, by omega, by go_num, by congr 1; omega, by rw [HIN.out, HR2.out]; exact own_base own OB.lt, PB.next J6, OB.next J6, bel_then K J6⟩
        case measure => simp [intOf]; omega
     ·obtain ⟨q, hkq⟩ : ∃ q, k = q + 1 := ⟨k - 1, by omega⟩
      have hq : q < ys.length := by rw [HYL.out]; omega
      have HPT := Lib.hid (fun (h : lessR x ys[q] = true) => show posR lessR ys x ys.length = posR lessR ys x q by rw [HP.out, hkq, posR_yes lessR hq h])
      have HPF := Lib.hid (fun (h : lessR x ys[q] = false) => show posR lessR ys x ys.length = k by rw [HP.out, hkq, posR_no lessR hq h])
      have hw1 : IntKind.i64.wrap ((k : Int) - 1) = (q : Int) := by rw [IntWalk.i64_in _ (by omega)]; omega
      have hgt : decide ((0 : Int) < (k : Int)) = true := decide_eq_true (by omega)
      have hi2 : (0 : Int) ≤ (q : Int) := by omega
      have hi3 : (q : Int) < (i : Int) := by omega
      have bq := (Quiet.one wr).below wr.heap.size
      replace own := own_below own bq
      replace K := bel_then K bq
      replace PB := PB.next bq
      replace OB := OB.next bq
      replace pd := (bq.cell (p := ⟨w.heap.size, 3, none⟩) hpb).trans pd
      replace x0 := (bq.cell (p := ⟨bx, ox + i * 3, none⟩) hbx).trans x0
      replace x1 := (bq.cell (p := ⟨bx, ox + i * 3 + 1, none⟩) hbx).trans x1
      replace x2 := (bq.cell (p := ⟨bx, ox + i * 3 + 2, none⟩) hbx).trans x2
      replace hbx := Nat.lt_of_lt_of_le hbx bq.size
      replace hpb := Nat.lt_of_lt_of_le hpb bq.size
      replace HHB := Lib.hid (bel_then HHB.out bq)
      obtain ⟨by_, oy, ey, hky, y0, y1, y2⟩ := (Sees.of_own own).elem3 (fun _ => rfl) (show q < i by omega)
      injection ey with ey
      injection ey with e1 e2
      subst e1 e2
      simp only [Nat.zero_add] at y0 y1 y2
      obtain ⟨y, hy⟩ : ∃ y, ys[q] = y := ⟨_, rfl⟩
      rw [show ys[q] = y from hy] at y0 y1 y2
      rw [hy] at HPT HPF
      have HKQ := Lib.hid hkq
      have HY := Lib.hid hy
      clear bq HP hy hkq
      have hgl := hgb
      go_wp2_with fail
      go_region_held3 (fun w' => w'.cell? ⟨w.heap.size, 3, none⟩ = some (.slice (some ⟨bx, ox, none⟩) n3 c3) ∧ w'.cell? ⟨bx, ox + i * 3, none⟩ = some (.int .i64 x.number) ∧ w'.cell? ⟨bx, ox + i * 3 + 1, none⟩ = some (.int .i64 x.missing) ∧ w'.cell? ⟨bx, ox + i * 3 + 2, none⟩ = some (.int .i64 x.time) ∧ w'.cell? ⟨g, q * 3, none⟩ = some (.int .i64 y.number) ∧ w'.cell? ⟨g, q * 3 + 1, none⟩ = some (.int .i64 y.missing) ∧ w'.cell? ⟨g, q * 3 + 2, none⟩ = some (.int .i64 y.time)) (go_keep)
       (first
         | (go_at_call 66
            refine (l25Before_any x y _).mono ?_
            rintro e wv ⟨rfl, b3⟩
            replace own := own_below own b3
            replace K := bel_then K b3
            replace PB := PB.next b3
            replace OB := OB.next b3
            replace pd := (b3.cell (p := ⟨w.heap.size, 3, none⟩) hpb).trans pd
            replace x0 := (b3.cell (p := ⟨bx, ox + i * 3, none⟩) hbx).trans x0
            replace x1 := (b3.cell (p := ⟨bx, ox + i * 3 + 1, none⟩) hbx).trans x1
            replace x2 := (b3.cell (p := ⟨bx, ox + i * 3 + 2, none⟩) hbx).trans x2
            replace hbx := Nat.lt_of_lt_of_le hbx b3.size
            replace hpb := Nat.lt_of_lt_of_le hpb b3.size
            replace HHB := Lib.hid (bel_then HHB.out b3)
            clear y0 y1 y2
            obtain ⟨by_, oy, ey, hky, y0, y1, y2⟩ := (Sees.of_own own).elem3 (fun _ => rfl) (show q < i by omega)
            injection ey with ey
            injection ey with e1 e2
            subst e1 e2
            simp only [Nat.zero_add] at y0 y1 y2
            rw [show ys[q] = y from HY.out] at y0 y1 y2
            clear b3))
      cases hlt2 : lessR x y
      ·have HPE := Lib.hid (HPF.out hlt2)
       clear HPT HPF y0 y1 y2 hw1 hgt hi2 hi3 hlt2
       have hk1' : k ≤ i := hk
       clear HY HKQ
       go_wp2_with fail
       have HR2 := Lib.hid (show (insR lessR ys x).flatMap DeskRow.enc = (ys.take k).flatMap DeskRow.enc ++ [.int .i64 x.number, .int .i64 x.missing, .int .i64 x.time] ++ (ys.drop k).flatMap DeskRow.enc by
        rw [insR_at lessR HPE.out, List.flatMap_append, List.flatMap_cons, List.append_assoc]; rfl)
       have hpre := SeesFlat.take (Sees.of_own own) (by decide) (fun _ => rfl) k hk
       by_cases hck : c' = k
       ·have hsuf : Sees wv 0 3 (some ⟨g, 0, none⟩) 0 ((ys.drop k).flatMap DeskRow.enc) := by
         rw [List.drop_of_length_le (by rw [HYL.out]; omega)]; exact Sees.nil _ _ _ _
        have hkc : k = c' := hck.symm
        subst hkc
        clear own
        go_wp2_with fail
        have J1 := (Quiet.one wv).below wv.heap.size
        refine wp_region_held_drew (S := fun w' => w'.cell? ⟨w.heap.size, 3, none⟩ = some (.slice (some ⟨bx, ox, none⟩) n3 c3) ∧ w'.cell? ⟨bx, ox + i * 3, none⟩ = some (.int .i64 x.number) ∧ w'.cell? ⟨bx, ox + i * 3 + 1, none⟩ = some (.int .i64 x.missing) ∧ w'.cell? ⟨bx, ox + i * 3 + 2, none⟩ = some (.int .i64 x.time)) (by kernel_rfl) (⟨(J1.cell (p := ⟨w.heap.size, 3, none⟩) hpb).trans pd, (J1.cell (p := ⟨bx, ox + i * 3, none⟩) hbx).trans x0, (J1.cell (p := ⟨bx, ox + i * 3 + 1, none⟩) hbx).trans x1, (J1.cell (p := ⟨bx, ox + i * 3 + 2, none⟩) hbx).trans x2⟩) (fun hH => ?_)
        generalize wv.drew = wi1 at *
        refine wT (i := 1) (v := ?_) rfl (by kernel_rfl) (by kernel_rfl) (by kernel_rfl) (fun _ _ _ h => h) (Or.inl ⟨by rfl, ?_⟩) (by assumption) ?_
        rotate_left 1
        ·(intro w hS; (try dsimp only at hS); go_simp; try with_reducible rfl)
        (try simp only [Act.put, pX])
        refine wT (i := 2) (v := ?_) rfl (by kernel_rfl) (by kernel_rfl) (by kernel_rfl) (fun _ _ _ h => h) (Or.inl ⟨by rfl, ?_⟩) (by assumption) ?_
        rotate_left 1
        ·(intro w hS; (try dsimp only at hS); go_simp; try with_reducible rfl)
        (try simp only [Act.put, pX])
        refine wT (i := 3) (v := ?_) rfl (by kernel_rfl) (by kernel_rfl) (by kernel_rfl) (fun _ _ _ h => h) (Or.inl ⟨by rfl, ?_⟩) (by assumption) ?_
        rotate_left 1
        ·(intro w hS; (try dsimp only at hS); go_simp; try with_reducible rfl)
        (try simp only [Act.put, pX])
        refine wT (i := 5) (v := ?_) rfl (by kernel_rfl) (by kernel_rfl) (by kernel_rfl) (fun _ _ _ h => h) (Or.inl ⟨by rfl, ?_⟩) (by assumption) ?_
        rotate_left 1
        ·(intro w hS; (try dsimp only at hS); go_simp; try with_reducible rfl)
        (try simp only [Act.put, pX])
        refine wT (i := 6) (v := ?_) rfl (by kernel_rfl) (by kernel_rfl) (by kernel_rfl) (fun _ _ _ h => h) (Or.inl ⟨by rfl, ?_⟩) (by assumption) ?_
        rotate_left 1
        ·(intro w hS; (try dsimp only at hS); go_simp; try with_reducible rfl)
        (try simp only [Act.put, pX])
        refine wT (i := 7) (v := ?_) rfl (by kernel_rfl) (by kernel_rfl) (by kernel_rfl) (fun _ _ _ h => h) (Or.inl ⟨by rfl, ?_⟩) (by assumption) ?_
        rotate_left 1
        ·(intro w hS; (try dsimp only at hS); go_simp; try with_reducible rfl)
        (try simp only [Act.put, pX])
        refine wT (i := 8) (v := ?_) rfl (by kernel_rfl) (by kernel_rfl) (by kernel_rfl) (fun _ _ _ h => h) (Or.inl ⟨by rfl, ?_⟩) (by assumption) ?_
        rotate_left 1
        ·(intro w hS; (try dsimp only at hS); go_simp; try with_reducible rfl)
        (try simp only [Act.put, pX])
        refine wT (i := 9) (v := ?_) rfl (by kernel_rfl) (by kernel_rfl) (by kernel_rfl) (fun _ _ _ h => h) (Or.inl ⟨by rfl, ?_⟩) (by assumption) ?_
        rotate_left 1
        ·(intro w hS; (try dsimp only at hS); go_simp; try with_reducible rfl)
        (try simp only [Act.put, pX])
        refine wT (i := 12) (v := ?_) rfl (by kernel_rfl) (by kernel_rfl) (by kernel_rfl) (fun _ _ _ h => h) (Or.inl ⟨by rfl, ?_⟩) (by assumption) ?_
        rotate_left 1
        ·(intro w hS; (try dsimp only at hS); go_simp; try with_reducible rfl)
        (try simp only [Act.put, pX])
        refine wT (i := 13) (v := ?_) rfl (by kernel_rfl) (by kernel_rfl) (by kernel_rfl) (fun _ _ _ h => h) (Or.inl ⟨by rfl, ?_⟩) (by assumption) ?_
        rotate_left 1
        ·(intro w hS; (try dsimp only at hS); go_simp; try with_reducible rfl)
        (try simp only [Act.put, pX])
        refine wT (i := 14) (v := ?_) rfl (by kernel_rfl) (by kernel_rfl) (by kernel_rfl) (fun _ _ _ h => h) (Or.inl ⟨by rfl, ?_⟩) (by assumption) ?_
        rotate_left 1
        ·(intro w hS; (try dsimp only at hS); go_simp; try with_reducible rfl)
        (try simp only [Act.put, pX])
        refine wR (rs := [0, 10]) (by kernel_rfl) (by simp) ?_
        refine aC rfl (fun K hK => ?_) ?_
        ·go_simp
         have U2 : Below wi1.heap.size wi1 (wi1.alloc (.cells #[] 41)) := (Below.refl _ _).alloc (Nat.le_refl _) _
         have J2 := bel_then J1 U2
         refine hK.out _ _ (⟨(J2.cell (p := ⟨w.heap.size, 3, none⟩) hpb).trans pd, (J2.cell (p := ⟨bx, ox + i * 3, none⟩) hbx).trans x0, (J2.cell (p := ⟨bx, ox + i * 3 + 1, none⟩) hbx).trans x1, (J2.cell (p := ⟨bx, ox + i * 3 + 2, none⟩) hbx).trans x2⟩) (fun hH => ?_)
         clear hK K
         (try simp only [Act.put, pX])
         have own := own_base (own_empty wi1 41 3) (show wv.heap.size ≤ wi1.heap.size from J1.size)
         generalize (wi1.alloc (.cells #[] 41)) = wi2 at *
         have ownP := own
         refine wR (rs := [4, 10]) (by kernel_rfl) (by simp) ?_
         refine aC rfl (fun K hK => ?_) ?_
         ·refine step_cat rfl _ _ _ (by rfl) Tryz.underlying26 info_impl_DeskRow rfl (by decide) (by rfl) own (by rfl) (m := k) (hpre.next J2) (row_all _) (by omega) (by omega) (by decide) (by have := J2.size; omega) ?_
          intro A3 c3 wi3 own3 o3 b3 q3
          have J3 := J2.trans b3
          refine hK.out _ _ (⟨(J3.cell (p := ⟨w.heap.size, 3, none⟩) hpb).trans pd, (J3.cell (p := ⟨bx, ox + i * 3, none⟩) hbx).trans x0, (J3.cell (p := ⟨bx, ox + i * 3 + 1, none⟩) hbx).trans x1, (J3.cell (p := ⟨bx, ox + i * 3 + 2, none⟩) hbx).trans x2⟩) (fun hH => ?_)
          clear hK K
          (try simp only [Act.put, pX])
          (try simp only [Nat.zero_add])
          simp only [Nat.zero_add, List.nil_append] at own3
          replace own := own3
          clear own3
          replace ownP := own
          refine wR (rs := [10]) (by kernel_rfl) (by simp) ?_
          refine aC rfl (fun K hK => ?_) aN
          go_simp
          have U4 : Below wi3.heap.size wi3 (wi3.alloc (.cells #[.int .i64 x.number, .int .i64 x.missing, .int .i64 x.time] 41)) := (Below.refl _ _).alloc (Nat.le_refl _) _
          have J4 := bel_then J3 U4
          refine hK.out _ _ (⟨(J4.cell (p := ⟨w.heap.size, 3, none⟩) hpb).trans pd, (J4.cell (p := ⟨bx, ox + i * 3, none⟩) hbx).trans x0, (J4.cell (p := ⟨bx, ox + i * 3 + 1, none⟩) hbx).trans x1, (J4.cell (p := ⟨bx, ox + i * 3 + 2, none⟩) hbx).trans x2⟩) (fun hH => ?_)
          clear hK K
          (try simp only [Act.put, pX])
          replace own := own_below own U4
          have box : Blk (wi3.alloc (.cells #[.int .i64 x.number, .int .i64 x.missing, .int .i64 x.time] 41)) wi3.heap.size 41 [.int .i64 x.number, .int .i64 x.missing, .int .i64 x.time] := Blk.at_ rfl
          have lb := box.lt
          have hne : ∀ b, OwnB A3 b → b ≠ wi3.heap.size := fun b hb => by have := (own_top ownP hb).2; omega
          generalize (wi3.alloc (.cells #[.int .i64 x.number, .int .i64 x.missing, .int .i64 x.time] 41)) = wi4 at *
          replace ownP := own
          refine wR (rs := [11]) (by kernel_rfl) (by simp) ?_
          refine aC rfl (fun K hK => ?_) aN
          refine step_cat rfl _ _ _ (by rfl) Tryz.underlying26 info_impl_DeskRow rfl (by decide) (by rfl) own (by rfl) (m := 1) (box.sees (s := 3) (Nat.zero_le _) rfl) (by simp [Value.oneCell']) (by omega) (by omega) (by decide) (by have := J4.size; omega) ?_
          intro A5 c5 wi5 own5 o5 b5 q5
          have J5 := J4.trans b5
          refine hK.out _ _ (⟨(J5.cell (p := ⟨w.heap.size, 3, none⟩) hpb).trans pd, (J5.cell (p := ⟨bx, ox + i * 3, none⟩) hbx).trans x0, (J5.cell (p := ⟨bx, ox + i * 3 + 1, none⟩) hbx).trans x1, (J5.cell (p := ⟨bx, ox + i * 3 + 2, none⟩) hbx).trans x2⟩) (fun hH => ?_)
          clear hK K
          (try simp only [Act.put, pX])
          replace own := own5
          clear own5
          refine wR (rs := [15]) (by kernel_rfl) (by simp) ?_
          refine aC rfl (fun K hK => ?_) aN
          refine step_cat rfl _ _ _ (by rfl) Tryz.underlying26 info_impl_DeskRow rfl (by decide) (by rfl) own (by rfl) (m := 0) (hsuf.next J5) (row_all _) (by omega) (by omega) (by decide) (by have := J5.size; omega) ?_
          intro A6 c6 wi6 own6 o6 b6 q6
          have J6 := J5.trans b6
          refine hK.out _ _ (⟨(J6.cell (p := ⟨w.heap.size, 3, none⟩) hpb).trans pd, (J6.cell (p := ⟨bx, ox + i * 3, none⟩) hbx).trans x0, (J6.cell (p := ⟨bx, ox + i * 3 + 1, none⟩) hbx).trans x1, (J6.cell (p := ⟨bx, ox + i * 3 + 2, none⟩) hbx).trans x2⟩) (fun hH => ?_)
          clear hK K
          (try simp only [Act.put, pX])
          replace own := own6
          clear own6
          refine wT (i := 16) (v := ?_) rfl (by kernel_rfl) (by kernel_rfl) (by kernel_rfl) (fun _ _ _ h => h) (Or.inl ⟨by rfl, ?_⟩) (by assumption) ?_
          rotate_left 1
          ·(intro w hS; (try dsimp only at hS); go_simp; try with_reducible rfl)
          (try simp only [Act.put, pX])
          refine wD (by kernel_rfl) ?_ _
          go_wp2_with fail
          rw [show k + 1 + 0 = i + 1 by omega] at own
          obtain ⟨g4, cap4, hv4, -, -⟩ := own.form (Nat.succ_pos _)
          injection hv4 with hA4 _ _
          subst hA4
          go_roundw
          case rel => exact ⟨i + 1, g4, _, by omega, by go_num, by congr 1; omega, by rw [HIN.out, HR2.out]; exact own_base own OB.lt, PB.next J6, OB.next J6, bel_then K J6⟩
          case measure => simp [intOf]; omega
         refine aC rfl (fun K hK => ?_) aN
         ·go_simp
          have U3 : Below wi2.heap.size wi2 (wi2.alloc (.cells #[.int .i64 x.number, .int .i64 x.missing, .int .i64 x.time] 41)) := (Below.refl _ _).alloc (Nat.le_refl _) _
          have J3 := bel_then J2 U3
          refine hK.out _ _ (⟨(J3.cell (p := ⟨w.heap.size, 3, none⟩) hpb).trans pd, (J3.cell (p := ⟨bx, ox + i * 3, none⟩) hbx).trans x0, (J3.cell (p := ⟨bx, ox + i * 3 + 1, none⟩) hbx).trans x1, (J3.cell (p := ⟨bx, ox + i * 3 + 2, none⟩) hbx).trans x2⟩) (fun hH => ?_)
          clear hK K
          (try simp only [Act.put, pX])
          replace own := own_below own U3
          have box : Blk (wi2.alloc (.cells #[.int .i64 x.number, .int .i64 x.missing, .int .i64 x.time] 41)) wi2.heap.size 41 [.int .i64 x.number, .int .i64 x.missing, .int .i64 x.time] := Blk.at_ rfl
          have lb := box.lt
          have hne : ∀ b, OwnB (some ⟨wi1.heap.size, 0, none⟩) b → b ≠ wi2.heap.size := fun b hb => by have := (own_top ownP hb).2; omega
          generalize (wi2.alloc (.cells #[.int .i64 x.number, .int .i64 x.missing, .int .i64 x.time] 41)) = wi3 at *
          replace ownP := own
          refine wR (rs := [4]) (by kernel_rfl) (by simp) ?_
          refine aC rfl (fun K hK => ?_) aN
          refine step_cat rfl _ _ _ (by rfl) Tryz.underlying26 info_impl_DeskRow rfl (by decide) (by rfl) own (by rfl) (m := k) (hpre.next J3) (row_all _) (by omega) (by omega) (by decide) (by have := J3.size; omega) ?_
          intro A4 c4 wi4 own4 o4 b4 q4
          have J4 := J3.trans b4
          refine hK.out _ _ (⟨(J4.cell (p := ⟨w.heap.size, 3, none⟩) hpb).trans pd, (J4.cell (p := ⟨bx, ox + i * 3, none⟩) hbx).trans x0, (J4.cell (p := ⟨bx, ox + i * 3 + 1, none⟩) hbx).trans x1, (J4.cell (p := ⟨bx, ox + i * 3 + 2, none⟩) hbx).trans x2⟩) (fun hH => ?_)
          clear hK K
          (try simp only [Act.put, pX])
          (try simp only [Nat.zero_add])
          replace box := box.only o4 (fun h => hne _ h rfl)
          simp only [Nat.zero_add, List.nil_append] at own4
          replace own := own4
          clear own4
          replace ownP := own
          refine wR (rs := [11]) (by kernel_rfl) (by simp) ?_
          refine aC rfl (fun K hK => ?_) aN
          refine step_cat rfl _ _ _ (by rfl) Tryz.underlying26 info_impl_DeskRow rfl (by decide) (by rfl) own (by rfl) (m := 1) (box.sees (s := 3) (Nat.zero_le _) rfl) (by simp [Value.oneCell']) (by omega) (by omega) (by decide) (by have := J4.size; omega) ?_
          intro A5 c5 wi5 own5 o5 b5 q5
          have J5 := J4.trans b5
          refine hK.out _ _ (⟨(J5.cell (p := ⟨w.heap.size, 3, none⟩) hpb).trans pd, (J5.cell (p := ⟨bx, ox + i * 3, none⟩) hbx).trans x0, (J5.cell (p := ⟨bx, ox + i * 3 + 1, none⟩) hbx).trans x1, (J5.cell (p := ⟨bx, ox + i * 3 + 2, none⟩) hbx).trans x2⟩) (fun hH => ?_)
          clear hK K
          (try simp only [Act.put, pX])
          replace own := own5
          clear own5
          refine wR (rs := [15]) (by kernel_rfl) (by simp) ?_
          refine aC rfl (fun K hK => ?_) aN
          refine step_cat rfl _ _ _ (by rfl) Tryz.underlying26 info_impl_DeskRow rfl (by decide) (by rfl) own (by rfl) (m := 0) (hsuf.next J5) (row_all _) (by omega) (by omega) (by decide) (by have := J5.size; omega) ?_
          intro A6 c6 wi6 own6 o6 b6 q6
          have J6 := J5.trans b6
          refine hK.out _ _ (⟨(J6.cell (p := ⟨w.heap.size, 3, none⟩) hpb).trans pd, (J6.cell (p := ⟨bx, ox + i * 3, none⟩) hbx).trans x0, (J6.cell (p := ⟨bx, ox + i * 3 + 1, none⟩) hbx).trans x1, (J6.cell (p := ⟨bx, ox + i * 3 + 2, none⟩) hbx).trans x2⟩) (fun hH => ?_)
          clear hK K
          (try simp only [Act.put, pX])
          replace own := own6
          clear own6
          refine wT (i := 16) (v := ?_) rfl (by kernel_rfl) (by kernel_rfl) (by kernel_rfl) (fun _ _ _ h => h) (Or.inl ⟨by rfl, ?_⟩) (by assumption) ?_
          rotate_left 1
          ·(intro w hS; (try dsimp only at hS); go_simp; try with_reducible rfl)
          (try simp only [Act.put, pX])
          refine wD (by kernel_rfl) ?_ _
          go_wp2_with fail
          rw [show k + 1 + 0 = i + 1 by omega] at own
          obtain ⟨g4, cap4, hv4, -, -⟩ := own.form (Nat.succ_pos _)
          injection hv4 with hA4 _ _
          subst hA4
          go_roundw
          case rel => exact ⟨i + 1, g4, _, by omega, by go_num, by congr 1; omega, by rw [HIN.out, HR2.out]; exact own_base own OB.lt, PB.next J6, OB.next J6, bel_then K J6⟩
          case measure => simp [intOf]; omega
        refine aC rfl (fun K hK => ?_) aN
        ·go_simp
         have U2 : Below wi1.heap.size wi1 (wi1.alloc (.cells #[.int .i64 x.number, .int .i64 x.missing, .int .i64 x.time] 41)) := (Below.refl _ _).alloc (Nat.le_refl _) _
         have J2 := bel_then J1 U2
         refine hK.out _ _ (⟨(J2.cell (p := ⟨w.heap.size, 3, none⟩) hpb).trans pd, (J2.cell (p := ⟨bx, ox + i * 3, none⟩) hbx).trans x0, (J2.cell (p := ⟨bx, ox + i * 3 + 1, none⟩) hbx).trans x1, (J2.cell (p := ⟨bx, ox + i * 3 + 2, none⟩) hbx).trans x2⟩) (fun hH => ?_)
         clear hK K
         (try simp only [Act.put, pX])
         have box : Blk (wi1.alloc (.cells #[.int .i64 x.number, .int .i64 x.missing, .int .i64 x.time] 41)) wi1.heap.size 41 [.int .i64 x.number, .int .i64 x.missing, .int .i64 x.time] := Blk.at_ rfl
         have lb := box.lt
         generalize (wi1.alloc (.cells #[.int .i64 x.number, .int .i64 x.missing, .int .i64 x.time] 41)) = wi2 at *
         refine wR (rs := [0]) (by kernel_rfl) (by simp) ?_
         refine aC rfl (fun K hK => ?_) aN
         go_simp
         have U3 : Below wi2.heap.size wi2 (wi2.alloc (.cells #[] 41)) := (Below.refl _ _).alloc (Nat.le_refl _) _
         have J3 := bel_then J2 U3
         refine hK.out _ _ (⟨(J3.cell (p := ⟨w.heap.size, 3, none⟩) hpb).trans pd, (J3.cell (p := ⟨bx, ox + i * 3, none⟩) hbx).trans x0, (J3.cell (p := ⟨bx, ox + i * 3 + 1, none⟩) hbx).trans x1, (J3.cell (p := ⟨bx, ox + i * 3 + 2, none⟩) hbx).trans x2⟩) (fun hH => ?_)
         clear hK K
         (try simp only [Act.put, pX])
         replace box := box.next U3
         have own := own_base (own_empty wi2 41 3) (show wv.heap.size ≤ wi2.heap.size from J2.size)
         have hne : ∀ b, OwnB (some ⟨wi2.heap.size, 0, none⟩) b → b ≠ wi1.heap.size := fun b hb => by have h4 : wi2.heap.size = b := (by simpa [OwnB, Value.ownBlock] using hb); have h5 := lb; omega
         generalize (wi2.alloc (.cells #[] 41)) = wi3 at *
         have ownP := own
         refine wR (rs := [4]) (by kernel_rfl) (by simp) ?_
         refine aC rfl (fun K hK => ?_) aN
         refine step_cat rfl _ _ _ (by rfl) Tryz.underlying26 info_impl_DeskRow rfl (by decide) (by rfl) own (by rfl) (m := k) (hpre.next J3) (row_all _) (by omega) (by omega) (by decide) (by have := J3.size; omega) ?_
         intro A4 c4 wi4 own4 o4 b4 q4
         have J4 := J3.trans b4
         refine hK.out _ _ (⟨(J4.cell (p := ⟨w.heap.size, 3, none⟩) hpb).trans pd, (J4.cell (p := ⟨bx, ox + i * 3, none⟩) hbx).trans x0, (J4.cell (p := ⟨bx, ox + i * 3 + 1, none⟩) hbx).trans x1, (J4.cell (p := ⟨bx, ox + i * 3 + 2, none⟩) hbx).trans x2⟩) (fun hH => ?_)
         clear hK K
         (try simp only [Act.put, pX])
         (try simp only [Nat.zero_add])
         replace box := box.only o4 (fun h => hne _ h rfl)
         simp only [Nat.zero_add, List.nil_append] at own4
         replace own := own4
         clear own4
         replace ownP := own
         refine wR (rs := [11]) (by kernel_rfl) (by simp) ?_
         refine aC rfl (fun K hK => ?_) aN
         refine step_cat rfl _ _ _ (by rfl) Tryz.underlying26 info_impl_DeskRow rfl (by decide) (by rfl) own (by rfl) (m := 1) (box.sees (s := 3) (Nat.zero_le _) rfl) (by simp [Value.oneCell']) (by omega) (by omega) (by decide) (by have := J4.size; omega) ?_
         intro A5 c5 wi5 own5 o5 b5 q5
         have J5 := J4.trans b5
         refine hK.out _ _ (⟨(J5.cell (p := ⟨w.heap.size, 3, none⟩) hpb).trans pd, (J5.cell (p := ⟨bx, ox + i * 3, none⟩) hbx).trans x0, (J5.cell (p := ⟨bx, ox + i * 3 + 1, none⟩) hbx).trans x1, (J5.cell (p := ⟨bx, ox + i * 3 + 2, none⟩) hbx).trans x2⟩) (fun hH => ?_)
         clear hK K
         (try simp only [Act.put, pX])
         replace own := own5
         clear own5
         refine wR (rs := [15]) (by kernel_rfl) (by simp) ?_
         refine aC rfl (fun K hK => ?_) aN
         refine step_cat rfl _ _ _ (by rfl) Tryz.underlying26 info_impl_DeskRow rfl (by decide) (by rfl) own (by rfl) (m := 0) (hsuf.next J5) (row_all _) (by omega) (by omega) (by decide) (by have := J5.size; omega) ?_
         intro A6 c6 wi6 own6 o6 b6 q6
         have J6 := J5.trans b6
         refine hK.out _ _ (⟨(J6.cell (p := ⟨w.heap.size, 3, none⟩) hpb).trans pd, (J6.cell (p := ⟨bx, ox + i * 3, none⟩) hbx).trans x0, (J6.cell (p := ⟨bx, ox + i * 3 + 1, none⟩) hbx).trans x1, (J6.cell (p := ⟨bx, ox + i * 3 + 2, none⟩) hbx).trans x2⟩) (fun hH => ?_)
         clear hK K
         (try simp only [Act.put, pX])
         replace own := own6
         clear own6
         refine wT (i := 16) (v := ?_) rfl (by kernel_rfl) (by kernel_rfl) (by kernel_rfl) (fun _ _ _ h => h) (Or.inl ⟨by rfl, ?_⟩) (by assumption) ?_
         rotate_left 1
         ·(intro w hS; (try dsimp only at hS); go_simp; try with_reducible rfl)
         (try simp only [Act.put, pX])
         refine wD (by kernel_rfl) ?_ _
         go_wp2_with fail
         rw [show k + 1 + 0 = i + 1 by omega] at own
         obtain ⟨g4, cap4, hv4, -, -⟩ := own.form (Nat.succ_pos _)
         injection hv4 with hA4 _ _
         subst hA4
         go_roundw
         case rel => exact ⟨i + 1, g4, _, by omega, by go_num, by congr 1; omega, by rw [HIN.out, HR2.out]; exact own_base own OB.lt, PB.next J6, OB.next J6, bel_then K J6⟩
         case measure => simp [intOf]; omega
       ·have hsuf := SeesFlat.drop (Sees.of_own own) (by decide) (fun _ => rfl) k hk
        have hk1 : k ≤ c' := by omega
        clear own
        go_wp2_with fail
        have J1 := (Quiet.one wv).below wv.heap.size
        refine wp_region_held_drew (S := fun w' => w'.cell? ⟨w.heap.size, 3, none⟩ = some (.slice (some ⟨bx, ox, none⟩) n3 c3) ∧ w'.cell? ⟨bx, ox + i * 3, none⟩ = some (.int .i64 x.number) ∧ w'.cell? ⟨bx, ox + i * 3 + 1, none⟩ = some (.int .i64 x.missing) ∧ w'.cell? ⟨bx, ox + i * 3 + 2, none⟩ = some (.int .i64 x.time)) (by kernel_rfl) (⟨(J1.cell (p := ⟨w.heap.size, 3, none⟩) hpb).trans pd, (J1.cell (p := ⟨bx, ox + i * 3, none⟩) hbx).trans x0, (J1.cell (p := ⟨bx, ox + i * 3 + 1, none⟩) hbx).trans x1, (J1.cell (p := ⟨bx, ox + i * 3 + 2, none⟩) hbx).trans x2⟩) (fun hH => ?_)
        generalize wv.drew = wi1 at *
        refine wT (i := 1) (v := ?_) rfl (by kernel_rfl) (by kernel_rfl) (by kernel_rfl) (fun _ _ _ h => h) (Or.inl ⟨by rfl, ?_⟩) (by assumption) ?_
        rotate_left 1
        ·(intro w hS; (try dsimp only at hS); go_simp; try with_reducible rfl)
        (try simp only [Act.put, pX])
        refine wT (i := 2) (v := ?_) rfl (by kernel_rfl) (by kernel_rfl) (by kernel_rfl) (fun _ _ _ h => h) (Or.inl ⟨by rfl, ?_⟩) (by assumption) ?_
        rotate_left 1
        ·(intro w hS; (try dsimp only at hS); go_simp; try with_reducible rfl)
        (try simp only [Act.put, pX])
        refine wT (i := 3) (v := ?_) rfl (by kernel_rfl) (by kernel_rfl) (by kernel_rfl) (fun _ _ _ h => h) (Or.inl ⟨by rfl, ?_⟩) (by assumption) ?_
        rotate_left 1
        ·(intro w hS; (try dsimp only at hS); go_simp; try with_reducible rfl)
        (try simp only [Act.put, pX])
        refine wT (i := 5) (v := ?_) rfl (by kernel_rfl) (by kernel_rfl) (by kernel_rfl) (fun _ _ _ h => h) (Or.inl ⟨by rfl, ?_⟩) (by assumption) ?_
        rotate_left 1
        ·(intro w hS; (try dsimp only at hS); go_simp; try with_reducible rfl)
        (try simp only [Act.put, pX])
        refine wT (i := 6) (v := ?_) rfl (by kernel_rfl) (by kernel_rfl) (by kernel_rfl) (fun _ _ _ h => h) (Or.inl ⟨by rfl, ?_⟩) (by assumption) ?_
        rotate_left 1
        ·(intro w hS; (try dsimp only at hS); go_simp; try with_reducible rfl)
        (try simp only [Act.put, pX])
        refine wT (i := 7) (v := ?_) rfl (by kernel_rfl) (by kernel_rfl) (by kernel_rfl) (fun _ _ _ h => h) (Or.inl ⟨by rfl, ?_⟩) (by assumption) ?_
        rotate_left 1
        ·(intro w hS; (try dsimp only at hS); go_simp; try with_reducible rfl)
        (try simp only [Act.put, pX])
        refine wT (i := 8) (v := ?_) rfl (by kernel_rfl) (by kernel_rfl) (by kernel_rfl) (fun _ _ _ h => h) (Or.inl ⟨by rfl, ?_⟩) (by assumption) ?_
        rotate_left 1
        ·(intro w hS; (try dsimp only at hS); go_simp; try with_reducible rfl)
        (try simp only [Act.put, pX])
        refine wT (i := 9) (v := ?_) rfl (by kernel_rfl) (by kernel_rfl) (by kernel_rfl) (fun _ _ _ h => h) (Or.inl ⟨by rfl, ?_⟩) (by assumption) ?_
        rotate_left 1
        ·(intro w hS; (try dsimp only at hS); go_simp; try with_reducible rfl)
        (try simp only [Act.put, pX])
        refine wT (i := 12) (v := ?_) rfl (by kernel_rfl) (by kernel_rfl) (by kernel_rfl) (fun _ _ _ h => h) (Or.inl ⟨by rfl, ?_⟩) (by assumption) ?_
        rotate_left 1
        ·(intro w hS; (try dsimp only at hS); go_simp; try with_reducible rfl)
        (try simp only [Act.put, pX])
        refine wT (i := 13) (v := ?_) rfl (by kernel_rfl) (by kernel_rfl) (by kernel_rfl) (fun _ _ _ h => h) (Or.inl ⟨by rfl, ?_⟩) (by assumption) ?_
        rotate_left 1
        ·(intro w hS; (try dsimp only at hS); go_simp; try with_reducible rfl)
        (try simp only [Act.put, pX])
        refine wT (i := 14) (v := ?_) rfl (by kernel_rfl) (by kernel_rfl) (by kernel_rfl) (fun _ _ _ h => h) (Or.inl ⟨by rfl, ?_⟩) (by assumption) ?_
        rotate_left 1
        ·(intro w hS; (try dsimp only at hS); go_simp; try with_reducible rfl)
        (try simp only [Act.put, pX])
        refine wR (rs := [0, 10]) (by kernel_rfl) (by simp) ?_
        refine aC rfl (fun K hK => ?_) ?_
        ·go_simp
         have U2 : Below wi1.heap.size wi1 (wi1.alloc (.cells #[] 41)) := (Below.refl _ _).alloc (Nat.le_refl _) _
         have J2 := bel_then J1 U2
         refine hK.out _ _ (⟨(J2.cell (p := ⟨w.heap.size, 3, none⟩) hpb).trans pd, (J2.cell (p := ⟨bx, ox + i * 3, none⟩) hbx).trans x0, (J2.cell (p := ⟨bx, ox + i * 3 + 1, none⟩) hbx).trans x1, (J2.cell (p := ⟨bx, ox + i * 3 + 2, none⟩) hbx).trans x2⟩) (fun hH => ?_)
         clear hK K
         (try simp only [Act.put, pX])
         have own := own_base (own_empty wi1 41 3) (show wv.heap.size ≤ wi1.heap.size from J1.size)
         generalize (wi1.alloc (.cells #[] 41)) = wi2 at *
         have ownP := own
         refine wR (rs := [4, 10]) (by kernel_rfl) (by simp) ?_
         refine aC rfl (fun K hK => ?_) ?_
         ·refine step_cat rfl _ _ _ (by rfl) Tryz.underlying26 info_impl_DeskRow rfl (by decide) (by rfl) own (by rfl) (m := k) (hpre.next J2) (row_all _) (by omega) (by omega) (by decide) (by have := J2.size; omega) ?_
          intro A3 c3 wi3 own3 o3 b3 q3
          have J3 := J2.trans b3
          refine hK.out _ _ (⟨(J3.cell (p := ⟨w.heap.size, 3, none⟩) hpb).trans pd, (J3.cell (p := ⟨bx, ox + i * 3, none⟩) hbx).trans x0, (J3.cell (p := ⟨bx, ox + i * 3 + 1, none⟩) hbx).trans x1, (J3.cell (p := ⟨bx, ox + i * 3 + 2, none⟩) hbx).trans x2⟩) (fun hH => ?_)
          clear hK K
          (try simp only [Act.put, pX])
          (try simp only [Nat.zero_add])
          simp only [Nat.zero_add, List.nil_append] at own3
          replace own := own3
          clear own3
          replace ownP := own
          refine wR (rs := [10]) (by kernel_rfl) (by simp) ?_
          refine aC rfl (fun K hK => ?_) aN
          go_simp
          have U4 : Below wi3.heap.size wi3 (wi3.alloc (.cells #[.int .i64 x.number, .int .i64 x.missing, .int .i64 x.time] 41)) := (Below.refl _ _).alloc (Nat.le_refl _) _
          have J4 := bel_then J3 U4
          refine hK.out _ _ (⟨(J4.cell (p := ⟨w.heap.size, 3, none⟩) hpb).trans pd, (J4.cell (p := ⟨bx, ox + i * 3, none⟩) hbx).trans x0, (J4.cell (p := ⟨bx, ox + i * 3 + 1, none⟩) hbx).trans x1, (J4.cell (p := ⟨bx, ox + i * 3 + 2, none⟩) hbx).trans x2⟩) (fun hH => ?_)
          clear hK K
          (try simp only [Act.put, pX])
          replace own := own_below own U4
          have box : Blk (wi3.alloc (.cells #[.int .i64 x.number, .int .i64 x.missing, .int .i64 x.time] 41)) wi3.heap.size 41 [.int .i64 x.number, .int .i64 x.missing, .int .i64 x.time] := Blk.at_ rfl
          have lb := box.lt
          have hne : ∀ b, OwnB A3 b → b ≠ wi3.heap.size := fun b hb => by have := (own_top ownP hb).2; omega
          generalize (wi3.alloc (.cells #[.int .i64 x.number, .int .i64 x.missing, .int .i64 x.time] 41)) = wi4 at *
          replace ownP := own
          refine wR (rs := [11]) (by kernel_rfl) (by simp) ?_
          refine aC rfl (fun K hK => ?_) aN
          refine step_cat rfl _ _ _ (by rfl) Tryz.underlying26 info_impl_DeskRow rfl (by decide) (by rfl) own (by rfl) (m := 1) (box.sees (s := 3) (Nat.zero_le _) rfl) (by simp [Value.oneCell']) (by omega) (by omega) (by decide) (by have := J4.size; omega) ?_
          intro A5 c5 wi5 own5 o5 b5 q5
          have J5 := J4.trans b5
          refine hK.out _ _ (⟨(J5.cell (p := ⟨w.heap.size, 3, none⟩) hpb).trans pd, (J5.cell (p := ⟨bx, ox + i * 3, none⟩) hbx).trans x0, (J5.cell (p := ⟨bx, ox + i * 3 + 1, none⟩) hbx).trans x1, (J5.cell (p := ⟨bx, ox + i * 3 + 2, none⟩) hbx).trans x2⟩) (fun hH => ?_)
          clear hK K
          (try simp only [Act.put, pX])
          replace own := own5
          clear own5
          refine wR (rs := [15]) (by kernel_rfl) (by simp) ?_
          refine aC rfl (fun K hK => ?_) aN
          refine step_cat rfl _ _ _ (by rfl) Tryz.underlying26 info_impl_DeskRow rfl (by decide) (by rfl) own (by rfl) (m := (i - k)) (hsuf.next J5) (row_all _) (by omega) (by omega) (by decide) (by have := J5.size; omega) ?_
          intro A6 c6 wi6 own6 o6 b6 q6
          have J6 := J5.trans b6
          refine hK.out _ _ (⟨(J6.cell (p := ⟨w.heap.size, 3, none⟩) hpb).trans pd, (J6.cell (p := ⟨bx, ox + i * 3, none⟩) hbx).trans x0, (J6.cell (p := ⟨bx, ox + i * 3 + 1, none⟩) hbx).trans x1, (J6.cell (p := ⟨bx, ox + i * 3 + 2, none⟩) hbx).trans x2⟩) (fun hH => ?_)
          clear hK K
          (try simp only [Act.put, pX])
          replace own := own6
          clear own6
          refine wT (i := 16) (v := ?_) rfl (by kernel_rfl) (by kernel_rfl) (by kernel_rfl) (fun _ _ _ h => h) (Or.inl ⟨by rfl, ?_⟩) (by assumption) ?_
          rotate_left 1
          ·(intro w hS; (try dsimp only at hS); go_simp; try with_reducible rfl)
          (try simp only [Act.put, pX])
          refine wD (by kernel_rfl) ?_ _
          go_wp2_with fail
          rw [show k + 1 + (i - k) = i + 1 by omega] at own
          obtain ⟨g4, cap4, hv4, -, -⟩ := own.form (Nat.succ_pos _)
          injection hv4 with hA4 _ _
          subst hA4
          go_roundw
          case rel => exact ⟨i + 1, g4, _, by omega, by go_num, by congr 1; omega, by rw [HIN.out, HR2.out]; exact own_base own OB.lt, PB.next J6, OB.next J6, bel_then K J6⟩
          case measure => simp [intOf]; omega
         refine aC rfl (fun K hK => ?_) aN
         ·go_simp
          have U3 : Below wi2.heap.size wi2 (wi2.alloc (.cells #[.int .i64 x.number, .int .i64 x.missing, .int .i64 x.time] 41)) := (Below.refl _ _).alloc (Nat.le_refl _) _
          have J3 := bel_then J2 U3
          refine hK.out _ _ (⟨(J3.cell (p := ⟨w.heap.size, 3, none⟩) hpb).trans pd, (J3.cell (p := ⟨bx, ox + i * 3, none⟩) hbx).trans x0, (J3.cell (p := ⟨bx, ox + i * 3 + 1, none⟩) hbx).trans x1, (J3.cell (p := ⟨bx, ox + i * 3 + 2, none⟩) hbx).trans x2⟩) (fun hH => ?_)
          clear hK K
          (try simp only [Act.put, pX])
          replace own := own_below own U3
          have box : Blk (wi2.alloc (.cells #[.int .i64 x.number, .int .i64 x.missing, .int .i64 x.time] 41)) wi2.heap.size 41 [.int .i64 x.number, .int .i64 x.missing, .int .i64 x.time] := Blk.at_ rfl
          have lb := box.lt
          have hne : ∀ b, OwnB (some ⟨wi1.heap.size, 0, none⟩) b → b ≠ wi2.heap.size := fun b hb => by have := (own_top ownP hb).2; omega
          generalize (wi2.alloc (.cells #[.int .i64 x.number, .int .i64 x.missing, .int .i64 x.time] 41)) = wi3 at *
          replace ownP := own
          refine wR (rs := [4]) (by kernel_rfl) (by simp) ?_
          refine aC rfl (fun K hK => ?_) aN
          refine step_cat rfl _ _ _ (by rfl) Tryz.underlying26 info_impl_DeskRow rfl (by decide) (by rfl) own (by rfl) (m := k) (hpre.next J3) (row_all _) (by omega) (by omega) (by decide) (by have := J3.size; omega) ?_
          intro A4 c4 wi4 own4 o4 b4 q4
          have J4 := J3.trans b4
          refine hK.out _ _ (⟨(J4.cell (p := ⟨w.heap.size, 3, none⟩) hpb).trans pd, (J4.cell (p := ⟨bx, ox + i * 3, none⟩) hbx).trans x0, (J4.cell (p := ⟨bx, ox + i * 3 + 1, none⟩) hbx).trans x1, (J4.cell (p := ⟨bx, ox + i * 3 + 2, none⟩) hbx).trans x2⟩) (fun hH => ?_)
          clear hK K
          (try simp only [Act.put, pX])
          (try simp only [Nat.zero_add])
          replace box := box.only o4 (fun h => hne _ h rfl)
          simp only [Nat.zero_add, List.nil_append] at own4
          replace own := own4
          clear own4
          replace ownP := own
          refine wR (rs := [11]) (by kernel_rfl) (by simp) ?_
          refine aC rfl (fun K hK => ?_) aN
          refine step_cat rfl _ _ _ (by rfl) Tryz.underlying26 info_impl_DeskRow rfl (by decide) (by rfl) own (by rfl) (m := 1) (box.sees (s := 3) (Nat.zero_le _) rfl) (by simp [Value.oneCell']) (by omega) (by omega) (by decide) (by have := J4.size; omega) ?_
          intro A5 c5 wi5 own5 o5 b5 q5
          have J5 := J4.trans b5
          refine hK.out _ _ (⟨(J5.cell (p := ⟨w.heap.size, 3, none⟩) hpb).trans pd, (J5.cell (p := ⟨bx, ox + i * 3, none⟩) hbx).trans x0, (J5.cell (p := ⟨bx, ox + i * 3 + 1, none⟩) hbx).trans x1, (J5.cell (p := ⟨bx, ox + i * 3 + 2, none⟩) hbx).trans x2⟩) (fun hH => ?_)
          clear hK K
          (try simp only [Act.put, pX])
          replace own := own5
          clear own5
          refine wR (rs := [15]) (by kernel_rfl) (by simp) ?_
          refine aC rfl (fun K hK => ?_) aN
          refine step_cat rfl _ _ _ (by rfl) Tryz.underlying26 info_impl_DeskRow rfl (by decide) (by rfl) own (by rfl) (m := (i - k)) (hsuf.next J5) (row_all _) (by omega) (by omega) (by decide) (by have := J5.size; omega) ?_
          intro A6 c6 wi6 own6 o6 b6 q6
          have J6 := J5.trans b6
          refine hK.out _ _ (⟨(J6.cell (p := ⟨w.heap.size, 3, none⟩) hpb).trans pd, (J6.cell (p := ⟨bx, ox + i * 3, none⟩) hbx).trans x0, (J6.cell (p := ⟨bx, ox + i * 3 + 1, none⟩) hbx).trans x1, (J6.cell (p := ⟨bx, ox + i * 3 + 2, none⟩) hbx).trans x2⟩) (fun hH => ?_)
          clear hK K
          (try simp only [Act.put, pX])
          replace own := own6
          clear own6
          refine wT (i := 16) (v := ?_) rfl (by kernel_rfl) (by kernel_rfl) (by kernel_rfl) (fun _ _ _ h => h) (Or.inl ⟨by rfl, ?_⟩) (by assumption) ?_
          rotate_left 1
          ·(intro w hS; (try dsimp only at hS); go_simp; try with_reducible rfl)
          (try simp only [Act.put, pX])
          refine wD (by kernel_rfl) ?_ _
          go_wp2_with fail
          rw [show k + 1 + (i - k) = i + 1 by omega] at own
          obtain ⟨g4, cap4, hv4, -, -⟩ := own.form (Nat.succ_pos _)
          injection hv4 with hA4 _ _
          subst hA4
          go_roundw
          case rel => exact ⟨i + 1, g4, _, by omega, by go_num, by congr 1; omega, by rw [HIN.out, HR2.out]; exact own_base own OB.lt, PB.next J6, OB.next J6, bel_then K J6⟩
          case measure => simp [intOf]; omega
        refine aC rfl (fun K hK => ?_) aN
        ·go_simp
         have U2 : Below wi1.heap.size wi1 (wi1.alloc (.cells #[.int .i64 x.number, .int .i64 x.missing, .int .i64 x.time] 41)) := (Below.refl _ _).alloc (Nat.le_refl _) _
         have J2 := bel_then J1 U2
         refine hK.out _ _ (⟨(J2.cell (p := ⟨w.heap.size, 3, none⟩) hpb).trans pd, (J2.cell (p := ⟨bx, ox + i * 3, none⟩) hbx).trans x0, (J2.cell (p := ⟨bx, ox + i * 3 + 1, none⟩) hbx).trans x1, (J2.cell (p := ⟨bx, ox + i * 3 + 2, none⟩) hbx).trans x2⟩) (fun hH => ?_)
         clear hK K
         (try simp only [Act.put, pX])
         have box : Blk (wi1.alloc (.cells #[.int .i64 x.number, .int .i64 x.missing, .int .i64 x.time] 41)) wi1.heap.size 41 [.int .i64 x.number, .int .i64 x.missing, .int .i64 x.time] := Blk.at_ rfl
         have lb := box.lt
         generalize (wi1.alloc (.cells #[.int .i64 x.number, .int .i64 x.missing, .int .i64 x.time] 41)) = wi2 at *
         refine wR (rs := [0]) (by kernel_rfl) (by simp) ?_
         refine aC rfl (fun K hK => ?_) aN
         go_simp
         have U3 : Below wi2.heap.size wi2 (wi2.alloc (.cells #[] 41)) := (Below.refl _ _).alloc (Nat.le_refl _) _
         have J3 := bel_then J2 U3
         refine hK.out _ _ (⟨(J3.cell (p := ⟨w.heap.size, 3, none⟩) hpb).trans pd, (J3.cell (p := ⟨bx, ox + i * 3, none⟩) hbx).trans x0, (J3.cell (p := ⟨bx, ox + i * 3 + 1, none⟩) hbx).trans x1, (J3.cell (p := ⟨bx, ox + i * 3 + 2, none⟩) hbx).trans x2⟩) (fun hH => ?_)
         clear hK K
         (try simp only [Act.put, pX])
         replace box := box.next U3
         have own := own_base (own_empty wi2 41 3) (show wv.heap.size ≤ wi2.heap.size from J2.size)
         have hne : ∀ b, OwnB (some ⟨wi2.heap.size, 0, none⟩) b → b ≠ wi1.heap.size := fun b hb => by have h4 : wi2.heap.size = b := (by simpa [OwnB, Value.ownBlock] using hb); have h5 := lb; omega
         generalize (wi2.alloc (.cells #[] 41)) = wi3 at *
         have ownP := own
         refine wR (rs := [4]) (by kernel_rfl) (by simp) ?_
         refine aC rfl (fun K hK => ?_) aN
         refine step_cat rfl _ _ _ (by rfl) Tryz.underlying26 info_impl_DeskRow rfl (by decide) (by rfl) own (by rfl) (m := k) (hpre.next J3) (row_all _) (by omega) (by omega) (by decide) (by have := J3.size; omega) ?_
         intro A4 c4 wi4 own4 o4 b4 q4
         have J4 := J3.trans b4
         refine hK.out _ _ (⟨(J4.cell (p := ⟨w.heap.size, 3, none⟩) hpb).trans pd, (J4.cell (p := ⟨bx, ox + i * 3, none⟩) hbx).trans x0, (J4.cell (p := ⟨bx, ox + i * 3 + 1, none⟩) hbx).trans x1, (J4.cell (p := ⟨bx, ox + i * 3 + 2, none⟩) hbx).trans x2⟩) (fun hH => ?_)
         clear hK K
         (try simp only [Act.put, pX])
         (try simp only [Nat.zero_add])
         replace box := box.only o4 (fun h => hne _ h rfl)
         simp only [Nat.zero_add, List.nil_append] at own4
         replace own := own4
         clear own4
         replace ownP := own
         refine wR (rs := [11]) (by kernel_rfl) (by simp) ?_
         refine aC rfl (fun K hK => ?_) aN
         refine step_cat rfl _ _ _ (by rfl) Tryz.underlying26 info_impl_DeskRow rfl (by decide) (by rfl) own (by rfl) (m := 1) (box.sees (s := 3) (Nat.zero_le _) rfl) (by simp [Value.oneCell']) (by omega) (by omega) (by decide) (by have := J4.size; omega) ?_
         intro A5 c5 wi5 own5 o5 b5 q5
         have J5 := J4.trans b5
         refine hK.out _ _ (⟨(J5.cell (p := ⟨w.heap.size, 3, none⟩) hpb).trans pd, (J5.cell (p := ⟨bx, ox + i * 3, none⟩) hbx).trans x0, (J5.cell (p := ⟨bx, ox + i * 3 + 1, none⟩) hbx).trans x1, (J5.cell (p := ⟨bx, ox + i * 3 + 2, none⟩) hbx).trans x2⟩) (fun hH => ?_)
         clear hK K
         (try simp only [Act.put, pX])
         replace own := own5
         clear own5
         refine wR (rs := [15]) (by kernel_rfl) (by simp) ?_
         refine aC rfl (fun K hK => ?_) aN
         refine step_cat rfl _ _ _ (by rfl) Tryz.underlying26 info_impl_DeskRow rfl (by decide) (by rfl) own (by rfl) (m := (i - k)) (hsuf.next J5) (row_all _) (by omega) (by omega) (by decide) (by have := J5.size; omega) ?_
         intro A6 c6 wi6 own6 o6 b6 q6
         have J6 := J5.trans b6
         refine hK.out _ _ (⟨(J6.cell (p := ⟨w.heap.size, 3, none⟩) hpb).trans pd, (J6.cell (p := ⟨bx, ox + i * 3, none⟩) hbx).trans x0, (J6.cell (p := ⟨bx, ox + i * 3 + 1, none⟩) hbx).trans x1, (J6.cell (p := ⟨bx, ox + i * 3 + 2, none⟩) hbx).trans x2⟩) (fun hH => ?_)
         clear hK K
         (try simp only [Act.put, pX])
         replace own := own6
         clear own6
         refine wT (i := 16) (v := ?_) rfl (by kernel_rfl) (by kernel_rfl) (by kernel_rfl) (fun _ _ _ h => h) (Or.inl ⟨by rfl, ?_⟩) (by assumption) ?_
         rotate_left 1
         ·(intro w hS; (try dsimp only at hS); go_simp; try with_reducible rfl)
         (try simp only [Act.put, pX])
         refine wD (by kernel_rfl) ?_ _
         go_wp2_with fail
         rw [show k + 1 + (i - k) = i + 1 by omega] at own
         obtain ⟨g4, cap4, hv4, -, -⟩ := own.form (Nat.succ_pos _)
         injection hv4 with hA4 _ _
         subst hA4
         go_roundw
         case rel => exact ⟨i + 1, g4, _, by omega, by go_num, by congr 1; omega, by rw [HIN.out, HR2.out]; exact own_base own OB.lt, PB.next J6, OB.next J6, bel_then K J6⟩
         case measure => simp [intOf]; omega
      ·have HPE := Lib.hid (HPT.out hlt2)
       have hkq := HKQ.out
       clear HPT HPF y0 y1 y2 hgt hlt2
       go_wp2_with fail
       go_roundw
       case rel => exact ⟨q, by omega, rfl, HPE, HHB.out⟩
       case measure => simp [intOf]; omega
   ·obtain rfl : i = n3 := by omega
    rw [List.take_of_length_le (by rw [HL.out]; exact Nat.le_refl _)] at own
    obtain ⟨R, hR⟩ : ∃ R, sortR lessR d.done = R := ⟨_, rfl⟩
    rw [hR] at own HRM
    have HRL := Lib.hid (show R.length = i by rw [← hR, sortR_length]; exact HL.out)
    have hO := OB.own (base := w.heap.size + 1) (s := 1) (n := 0) (Nat.le_refl _) rfl (by simp [maxLen])
    have hne : ¬ OwnB (some ⟨w.heap.size + 1, 0, none⟩) g := fun hb => by
     have h5 : w.heap.size + 1 = g := (by simpa [OwnB, Value.ownBlock] using hb)
     have h6 := (own_top own (b := g) (by simp [OwnB, Value.ownBlock])).1
     omega
    clear hR
    go_wp2_with fail
    clear pc PB hpb
    obtain ⟨wo, hwo⟩ : ∃ wo : World, wo = wr := ⟨_, rfl⟩
    subst hwo
    go_loopw [4, 8] (fun v iv wr => ∃ (t : Nat) (A' : Option Addr) (cz : Nat), t ≤ i ∧ iv = .int .i64 (t : Int) ∧ v = .slice A' t cz ∧ wr.ownsRow (w.heap.size + 1) 3 1 (.slice A' t cz) t (ints ((R.take t).map DeskRow.number)) ∧ wr.ownsRow (w.heap.size + 2) 41 3 (.slice (some ⟨g, 0, none⟩) i c') i (R.flatMap DeskRow.enc) ∧ (¬ OwnB A' g) ∧ wo.heap.size ≤ wr.heap.size ∧ Below w.heap.size w wr) (fun _ iv _ => i - (intOf iv).toNat)
    case atStart => exact ⟨0, _, 0, Nat.zero_le _, rfl, rfl, hO, own, hne, Nat.le_refl _, K⟩
    case round =>
     obtain ⟨t, A', cz, ht, rfl, rfl, ow, orow, hap, hzr, hb⟩ := hrel
     by_cases hlt3 : t < i
     ·have htR : t < R.length := by rw [HRL.out]; exact hlt3
      obtain ⟨bb, off, ebb, hkx, x0, x1, x2⟩ := (Sees.of_own orow).elem3 (fun _ => rfl) hlt3
      injection ebb with ebb
      injection ebb with e1 e2
      subst e1 e2
      simp only [Nat.zero_add] at x0 x1 x2
      have HN := Lib.hid (nums_next R htR)
      have hblt := World.block_lt_of_cell? wr _ x0
      have hnp : (t : Int) < (i : Int) := by omega
      have hgz := (own_top orow (b := g) (by simp [OwnB, Value.ownBlock])).2
      have hzo := OB.lt
      go_wp2_with (at_builtin; go_loud (refine wpList_pushNew rfl _ _ _ rfl Tryz.underlying24 info_int rfl (by decide) rfl ow rfl (by simp) (by rfl) (by rfl) (by omega) (by decide) (by omega) ?_); intro A9 c9 w9 o9 h9 b9 q9)
      go_roundw
      case rel => exact ⟨t + 1, A9, c9, by omega, by go_num, rfl, by rw [HN.out]; simpa [ints] using o9, own_only orow h9 (fun b' hb' hb2 => by have h5 : g = b' := (by simpa [OwnB, Value.ownBlock] using hb'); subst h5; exact hap hb2), (fun hb' => (q9 g hb').elim hap (fun h5 => by omega)), by have h8 := h9.size; omega, hb.trans (b9.mono (by omega))⟩
      case measure => simp [intOf]; omega
     ·obtain rfl : t = i := by omega
      go_wp2_with fail
      go_ret2
      rw [HRM.out]
      have e1 : R.take t = R := List.take_of_length_le (by rw [HRL.out]; exact Nat.le_refl _)
      rw [e1] at ow
      have e2 : (R.map DeskRow.number).length = t := by rw [List.length_map]; exact HRL.out
      exact ⟨A', cz, by show Ending.returned (.tuple #[.slice A' t cz, .bool true]) = .returned (.tuple #[.slice A' (R.map DeskRow.number).length cz, .bool true]); rw [e2], by show wr.ownsRow w.heap.size 3 1 (.slice A' (R.map DeskRow.number).length cz) (R.map DeskRow.number).length (ints (R.map DeskRow.number)); rw [e2]; exact own_low ow (by omega), hb⟩

end Go.Proofs.YtkimlajfhepfgaaGreat

namespace Go.Proofs.YtkimlajfhepfgaaGreat
open Go.RowKit

theorem vInts_any (A A' : Option Addr) (n n' c c' lo lo' : Nat) (xs ys : List Int) (w : World) (hx : Sees w lo 1 A n (ints xs)) (hy : Sees w lo' 1 A' n' (ints ys)) (he : xs = ys) (hn : n ≤ 140737488355328) :
    Calls Tryz.prog 26 #[.slice A n c, .slice A' n' c'] w fun e w' => e = .returned (.bool true) ∧ Quiet w w' := by
  subst he
  have hl := hx.icount
  have hl' := hy.icount
  obtain rfl : n = n' := by omega
  go_enter Tryz.func26, Tryz.ntmps26
  go_wp2
  go_loopw [5] (fun v wr => ∃ k : Nat, k ≤ n ∧ v = .int .i64 k ∧ Quiet w wr) (fun v _ => n - (intOf v).toNat)
  case atStart => exact ⟨0, Nat.zero_le _, rfl, Quiet.refl _⟩
  case round =>
    obtain ⟨k, hk, rfl, hq⟩ := hrel
    by_cases hlt : k < n
    · obtain ⟨b, off, rfl, hkx, hcx⟩ := (hx.quiet hq).int hlt
      obtain ⟨b', off', rfl, hky, hcy⟩ := (hy.quiet hq).int hlt
      go_wp2
      go_quiet (fail)
      go_wp2
      go_roundw
      case rel => exact ⟨k + 1, by omega, by go_num, hq.more _⟩
      case measure => simp [intOf]; omega
    · go_wp2
      go_ret
      exact ⟨rfl, hq⟩
theorem vPunches_any (A A' : Option Addr) (n n' c c' lo lo' : Nat) (xs ys : List Punch) (w : World) (hx : Sees w lo 2 A n (xs.flatMap Punch.enc)) (hy : Sees w lo' 2 A' n' (ys.flatMap Punch.enc)) (he : xs = ys) (hn : n ≤ 140737488355328) :
    Calls Tryz.prog 107 #[.slice A n c, .slice A' n' c'] w fun e w' => e = .returned (.bool true) ∧ Quiet w w' := by
  subst he
  have hl := hx.count (by decide) (fun _ => rfl)
  have hl' := hy.count (by decide) (fun _ => rfl)
  obtain rfl : n = n' := by omega
  go_enter Tryz.func107, Tryz.ntmps107
  go_wp2
  go_loopw [5] (fun v wr => ∃ k : Nat, k ≤ n ∧ v = .int .i64 k ∧ Quiet w wr) (fun v _ => n - (intOf v).toNat)
  case atStart => exact ⟨0, Nat.zero_le _, rfl, Quiet.refl _⟩
  case round =>
    obtain ⟨k, hk, rfl, hq⟩ := hrel
    by_cases hlt : k < n
    · obtain ⟨b, off, rfl, hkx, hcx⟩ := (hx.quiet hq).elem (by decide) (fun _ => rfl) hlt
      obtain ⟨b', off', rfl, hky, hcy⟩ := (hy.quiet hq).elem (by decide) (fun _ => rfl) hlt
      have x0 : wr.cell? ⟨b, off + k * 2, none⟩ = some (.int .i64 xs[k].code) := hcx 0 _ rfl
      have y0 : wr.cell? ⟨b', off' + k * 2, none⟩ = some (.int .i64 xs[k].code) := hcy 0 _ rfl
      have x1 : wr.cell? ⟨b, off + k * 2 + 1, none⟩ = some (.int .i64 xs[k].time) := hcx 1 _ rfl
      have y1 : wr.cell? ⟨b', off' + k * 2 + 1, none⟩ = some (.int .i64 xs[k].time) := hcy 1 _ rfl
      clear hcx hcy
      go_wp2
      go_quiet (fail)
      go_wp2
      go_roundw
      case rel => exact ⟨k + 1, by omega, by go_num, hq.more _⟩
      case measure => simp [intOf]; omega
    · go_wp2
      go_ret
      exact ⟨rfl, hq⟩
theorem vRows_any (A A' : Option Addr) (n n' c c' lo lo' : Nat) (xs ys : List DeskRow) (w : World) (hx : Sees w lo 3 A n (xs.flatMap DeskRow.enc)) (hy : Sees w lo' 3 A' n' (ys.flatMap DeskRow.enc)) (he : xs = ys) (hn : n ≤ 140737488355328) :
    Calls Tryz.prog 39 #[.slice A n c, .slice A' n' c'] w fun e w' => e = .returned (.bool true) ∧ Quiet w w' := by
  subst he
  have hl := hx.count (by decide) (fun _ => rfl)
  have hl' := hy.count (by decide) (fun _ => rfl)
  obtain rfl : n = n' := by omega
  go_enter Tryz.func39, Tryz.ntmps39
  go_wp2
  go_loopw [5] (fun v wr => ∃ k : Nat, k ≤ n ∧ v = .int .i64 k ∧ Quiet w wr) (fun v _ => n - (intOf v).toNat)
  case atStart => exact ⟨0, Nat.zero_le _, rfl, Quiet.refl _⟩
  case round =>
    obtain ⟨k, hk, rfl, hq⟩ := hrel
    by_cases hlt : k < n
    · obtain ⟨b, off, rfl, hkx, hcx⟩ := (hx.quiet hq).elem (by decide) (fun _ => rfl) hlt
      obtain ⟨b', off', rfl, hky, hcy⟩ := (hy.quiet hq).elem (by decide) (fun _ => rfl) hlt
      have x0 : wr.cell? ⟨b, off + k * 3, none⟩ = some (.int .i64 xs[k].number) := hcx 0 _ rfl
      have y0 : wr.cell? ⟨b', off' + k * 3, none⟩ = some (.int .i64 xs[k].number) := hcy 0 _ rfl
      have x1 : wr.cell? ⟨b, off + k * 3 + 1, none⟩ = some (.int .i64 xs[k].missing) := hcx 1 _ rfl
      have y1 : wr.cell? ⟨b', off' + k * 3 + 1, none⟩ = some (.int .i64 xs[k].missing) := hcy 1 _ rfl
      have x2 : wr.cell? ⟨b, off + k * 3 + 2, none⟩ = some (.int .i64 xs[k].time) := hcx 2 _ rfl
      have y2 : wr.cell? ⟨b', off' + k * 3 + 2, none⟩ = some (.int .i64 xs[k].time) := hcy 2 _ rfl
      clear hcx hcy
      go_wp2
      go_quiet (fail)
      go_wp2
      go_roundw
      case rel => exact ⟨k + 1, by omega, by go_num, hq.more _⟩
      case measure => simp [intOf]; omega
    · go_wp2
      go_ret
      exact ⟨rfl, hq⟩
theorem vCard_any (A B : Option Addr) (n n' c c' lo lo' : Nat) (x y : Card) (w : World) (hx : Sees w lo 2 A n (x.punches.flatMap Punch.enc)) (hy : Sees w lo' 2 B n' (y.punches.flatMap Punch.enc)) (he : x = y) (hn : n ≤ 1048576) :
    Calls Tryz.prog 84 #[.agg #[(.int .i64 x.number), (.int .i64 x.start), (.int .i64 x.finish), (.slice A n c)], .agg #[(.int .i64 y.number), (.int .i64 y.start), (.int .i64 y.finish), (.slice B n' c')]] w fun e w' => e = .returned (.bool true) ∧ Below w.heap.size w w' := by
  subst he
  have K0 : Below w.heap.size w ((w.alloc (.cells #[.int .i64 x.number, .int .i64 x.start, .int .i64 x.finish, .slice A n c] 31)).alloc (.cells #[.int .i64 x.number, .int .i64 x.start, .int .i64 x.finish, .slice B n' c'] 31)) := ((Below.refl _ _).alloc (Nat.le_refl _) _).alloc (by simp) _
  have hx0 := hx.next K0
  have hy0 := hy.next K0
  go_enter Tryz.func84, Tryz.ntmps84
  go_wp2_with (go_at_call 107; refine (vPunches_any _ _ _ _ _ _ _ _ x.punches x.punches _ hx0 hy0 rfl (by omega)).mono ?_; rintro e w1 ⟨rfl, q1⟩; have K1 := bel_quiet K0 q1)
  go_ret
  exact ⟨rfl, K1⟩
set_option maxRecDepth 100000 in
theorem vCards_any (A A' : Option Addr) (n n' c c' lo lo' : Nat) (xs ys : List Card) (w : World) (hx : SeesN cardSh w lo A n xs) (hy : SeesN cardSh w lo' A' n' ys) (he : xs = ys) (hn : n ≤ 140737488355328) (hi : ∀ x ∈ xs, x.cnt ≤ 1048576) :
    Calls Tryz.prog 38 #[.slice A n c, .slice A' n' c'] w fun e w' => e = .returned (.bool true) ∧ Below w.heap.size w w' := by
  subst he
  have hl := hx.count
  have hl' := hy.count
  obtain rfl : n = n' := by omega
  go_enter Tryz.func38, Tryz.ntmps38
  go_wp2_with fail
  go_loopw [5] (fun v wr => ∃ k : Nat, k ≤ n ∧ v = .int .i64 k ∧ Below w.heap.size w wr) (fun v _ => n - (intOf v).toNat)
  case atStart => exact ⟨0, Nat.zero_le _, rfl, Below.refl _ _⟩
  case round =>
    obtain ⟨k, hk, rfl, hb⟩ := hrel
    by_cases hlt : k < n
    · obtain ⟨b, off, B0, m, cc0, rfl, hkx, c0, c1, c2, c3, hxi⟩ := SeesCard.elem (hx.next hb) hlt
      obtain ⟨b', off', B0', m', cc1, rfl, hky, d0, d1, d2, d3, hyi⟩ := SeesCard.elem (hy.next hb) hlt
      have hm : m ≤ 1048576 := by
        have h1 := hi xs[k] (List.getElem_mem hkx)
        have h2 := hxi.count (by decide) (fun _ => rfl)
        unfold Card.cnt at h1
        omega
      have hb' := bel_quiet hb (Quiet.one wr)
      replace hxi := hxi.quiet (Quiet.one wr)
      replace hyi := hyi.quiet (Quiet.one wr)
      go_wp2_with fail
      refine wp_region_still_tail 8 (by kernel_rfl) (by kernel_rfl) ?_
      simp only [List.take_succ_cons, List.take_zero, List.drop_succ_cons, List.drop_zero]
      change wpStill _ _ wr.drew _ _ _
      repeat still_step
      refine wpStill_nil ?_
      change wpList _ _ _ _ _ wr.drew
      generalize wr.drew = w2 at *
      go_wp2_with fail
      refine (vCard_any _ _ _ _ cc0 cc1 _ _ xs[k] xs[k] _ hxi hyi rfl hm).mono ?_
      rintro e w1 ⟨rfl, hb1⟩
      go_wp2_with fail
      go_roundw
      case rel => exact ⟨k + 1, by omega, by go_num, bel_then hb' hb1⟩
      case measure => simp [intOf]; omega
    · go_wp2_with fail
      go_ret
      exact ⟨rfl, hb⟩

set_option maxRecDepth 100000 in
set_option maxHeartbeats 4000000 in
theorem vDesk_any (h h' : DeskH) (d : DeskV) (lo lo' : Nat) (w : World) (ha : SeesDesk w lo h d) (hb : SeesDesk w lo' h' d) (hf : DeskFit 1048576 h d) :
    Calls Tryz.prog 9 #[.agg #[.slice h.A0 h.n0 h.c0, .slice h.A1 h.n1 h.c1, .slice h.A2 h.n2 h.c2, .slice h.A3 h.n3 h.c3, .slice h.A4 h.n4 h.c4], .agg #[.slice h'.A0 h'.n0 h'.c0, .slice h'.A1 h'.n1 h'.c1, .slice h'.A2 h'.n2 h'.c2, .slice h'.A3 h'.n3 h'.c3, .slice h'.A4 h'.n4 h'.c4]] w fun e w' => e = .returned (.bool true) ∧ Below w.heap.size w w' := by
  have Kq : Below w.heap.size w ((w.alloc (.cells #[.slice h.A0 h.n0 h.c0, .slice h.A1 h.n1 h.c1, .slice h.A2 h.n2 h.c2, .slice h.A3 h.n3 h.c3, .slice h.A4 h.n4 h.c4] 28)).alloc (.cells #[.slice h'.A0 h'.n0 h'.c0, .slice h'.A1 h'.n1 h'.c1, .slice h'.A2 h'.n2 h'.c2, .slice h'.A3 h'.n3 h'.c3, .slice h'.A4 h'.n4 h'.c4] 28)) := ((Below.refl _ _).alloc (Nat.le_refl _) _).alloc (by simp) _
  have P : Blk ((w.alloc (.cells #[.slice h.A0 h.n0 h.c0, .slice h.A1 h.n1 h.c1, .slice h.A2 h.n2 h.c2, .slice h.A3 h.n3 h.c3, .slice h.A4 h.n4 h.c4] 28)).alloc (.cells #[.slice h'.A0 h'.n0 h'.c0, .slice h'.A1 h'.n1 h'.c1, .slice h'.A2 h'.n2 h'.c2, .slice h'.A3 h'.n3 h'.c3, .slice h'.A4 h'.n4 h'.c4] 28)) w.heap.size 28 [.slice h.A0 h.n0 h.c0, .slice h.A1 h.n1 h.c1, .slice h.A2 h.n2 h.c2, .slice h.A3 h.n3 h.c3, .slice h.A4 h.n4 h.c4] := (Blk.at_ rfl).alloc _
  have Q : Blk ((w.alloc (.cells #[.slice h.A0 h.n0 h.c0, .slice h.A1 h.n1 h.c1, .slice h.A2 h.n2 h.c2, .slice h.A3 h.n3 h.c3, .slice h.A4 h.n4 h.c4] 28)).alloc (.cells #[.slice h'.A0 h'.n0 h'.c0, .slice h'.A1 h'.n1 h'.c1, .slice h'.A2 h'.n2 h'.c2, .slice h'.A3 h'.n3 h'.c3, .slice h'.A4 h'.n4 h'.c4] 28)) (w.heap.size + 1) 28 [.slice h'.A0 h'.n0 h'.c0, .slice h'.A1 h'.n1 h'.c1, .slice h'.A2 h'.n2 h'.c2, .slice h'.A3 h'.n3 h'.c3, .slice h'.A4 h'.n4 h'.c4] := Blk.at_ (by simp)
  have n0 := hf.n0
  have n1 := hf.n1
  have n2 := hf.n2
  have n3 := hf.n3
  have n4 := hf.n4
  replace ha := ha.next Kq
  replace hb := hb.next Kq
  go_enter Tryz.func9, Tryz.ntmps9
  go_upto_region 1 with fail
  generalize ((w.alloc (.cells #[.slice h.A0 h.n0 h.c0, .slice h.A1 h.n1 h.c1, .slice h.A2 h.n2 h.c2, .slice h.A3 h.n3 h.c3, .slice h.A4 h.n4 h.c4] 28)).alloc (.cells #[.slice h'.A0 h'.n0 h'.c0, .slice h'.A1 h'.n1 h'.c1, .slice h'.A2 h'.n2 h'.c2, .slice h'.A3 h'.n3 h'.c3, .slice h'.A4 h'.n4 h'.c4] 28)) = w1 at *
  have pc := P.cell
  have qc := Q.cell
  go_wp2_with (first
  | (go_at_call 26
     first
       | with_reducible refine (vInts_any h.A0 h'.A0 h.n0 h'.n0 h.c0 h'.c0 lo lo' d.codes d.codes _ ha.f0 hb.f0 rfl (by omega)).mono ?_
       | with_reducible refine (vInts_any h.A1 h'.A1 h.n1 h'.n1 h.c1 h'.c1 lo lo' d.known d.known _ ha.f1 hb.f1 rfl (by omega)).mono ?_
     rintro e w' ⟨rfl, q⟩
     replace ha := ha.next (q.below _)
     replace hb := hb.next (q.below _)
     replace P := P.next (q.below _)
     replace Q := Q.next (q.below _)
     replace Kq := bel_then Kq (q.below _)
     clear q pc qc
     have pc := P.cell
     have qc := Q.cell)
  | (go_at_call 38
     first
       | with_reducible refine (vCards_any h.A2 h'.A2 h.n2 h'.n2 h.c2 h'.c2 lo lo' d.queue d.queue _ ha.f2 hb.f2 rfl (by omega) hf.k2).mono ?_
       | with_reducible refine (vCards_any h.A4 h'.A4 h.n4 h'.n4 h.c4 h'.c4 lo lo' d.trouble d.trouble _ ha.f4 hb.f4 rfl (by omega) hf.k4).mono ?_
     rintro e w' ⟨rfl, b⟩
     replace ha := ha.next b
     replace hb := hb.next b
     replace P := P.next b
     replace Q := Q.next b
     replace Kq := bel_then Kq b
     clear b pc qc
     have pc := P.cell
     have qc := Q.cell)
  | (go_at_call 39
     refine (vRows_any _ _ _ _ _ _ _ _ _ _ _ ha.f3 hb.f3 rfl (by omega)).mono ?_
     rintro e w' ⟨rfl, q⟩
     replace ha := ha.next (q.below _)
     replace hb := hb.next (q.below _)
     replace P := P.next (q.below _)
     replace Q := Q.next (q.below _)
     replace Kq := bel_then Kq (q.below _)
     clear q pc qc
     have pc := P.cell
     have qc := Q.cell))
  go_ret
  exact ⟨rfl, Kq⟩

end Go.Proofs.YtkimlajfhepfgaaGreat

namespace Go.Proofs.YtkimlajfhepfgaaGreat
open Go.RowKit

theorem vHas_no (A : Option Addr) (n c lo : Nat) (xs : List Int) (v : Int) (w : World) (hx : Sees w lo 1 A n (ints xs)) (hno : v ∉ xs) (hn : n ≤ 140737488355328) :
    Calls Tryz.prog 23 #[.slice A n c, .int .i64 v] w fun e w' => e = .returned (.bool false) ∧ Quiet w w' := by
  have hl := hx.icount
  go_enter Tryz.func23, Tryz.ntmps23
  go_wp2
  go_loopw [5] (fun i wr => ∃ k : Nat, k ≤ n ∧ i = .int .i64 k ∧ Quiet w wr) (fun i _ => n - (intOf i).toNat)
  case atStart => exact ⟨0, Nat.zero_le _, rfl, Quiet.refl _⟩
  case round =>
    obtain ⟨k, hk, rfl, hq⟩ := hrel
    by_cases hlt : k < n
    · obtain ⟨b, off, rfl, hkx, hcx⟩ := (hx.quiet hq).int hlt
      have hne : (xs[k] == v) = false := beq_eq_false_iff_ne.2 (fun e => hno (e ▸ List.getElem_mem hkx))
      go_wp2
      go_roundw
      case rel => exact ⟨k + 1, by omega, by go_num, hq⟩
      case measure => simp [intOf]; omega
    · go_wp2
      go_ret
      exact ⟨rfl, hq⟩

end Go.Proofs.YtkimlajfhepfgaaGreat

namespace Go.Proofs.YtkimlajfhepfgaaGreat
open Go.RowKit

theorem vBig_any (A : Option Addr) (m c : Nat) (w : World) (hm : m ≤ 9223372036854775807) : Calls Tryz.prog 5 #[.slice A m c] w fun e w' => e = .returned (.bool (decide (65536 < m))) ∧ w = w' := by
  by_cases h : 65536 < m
  · have h' : (65536 : Int) < (m : Int) := by omega
    have hd := Lib.hid (decide_eq_true h)
    go_enter Tryz.func5, Tryz.ntmps5
    go_wp2_with fail
    go_ret
    exact ⟨ret_bool (a := true) hd.out.symm, rfl⟩
  · have h' : ¬ (65536 : Int) < (m : Int) := by omega
    go_enter Tryz.func5, Tryz.ntmps5
    go_wp2_with fail
    go_ret
    exact ⟨rfl, rfl⟩

end Go.Proofs.YtkimlajfhepfgaaGreat

namespace Go.Proofs.YtkimlajfhepfgaaGreat
open Go.RowKit

set_option maxRecDepth 100000 in
set_option maxHeartbeats 20000000 in
theorem FnDeskLists_any (A0 : Option Addr) (n0 c0 : Nat) (w : World) (hC : CodeIn w A0 n0) (hn : n0 ≤ 9223372036854775807) :
  Calls Tryz.prog 4 #[.slice A0 n0 c0] w fun e w' => e = .returned (.bool true) ∧ Below w.heap.size w w' := by
 have K := Below.refl w.heap.size w
 go_enter Tryz.func4, Tryz.ntmps4
 go_wp2_with fail
 refine (vBig_any A0 n0 c0 w hn).mono ?_
 rintro e w' ⟨rfl, rfl⟩
 by_cases hbig : 65536 < n0
 ·rw [decide_eq_true hbig]
  go_wp2_with fail
  go_ret
  exact ⟨rfl, K⟩
 rw [decide_eq_false hbig]
 go_wp2_with fail
 refine (DrawCheckAll_any A0 n0 c0 w hC (by omega)).mono ?_
 rintro e w1 ⟨H, d, rfl, sd, fd, pd, b⟩
 replace hC := hC.next b
 replace K := bel_then K b
 clear b
 replace sd := sd.less (Nat.zero_le _)
 have U : Below w1.heap.size w1 (w1.alloc (.cells #[.slice H.A0 H.n0 H.c0, .slice H.A1 H.n1 H.c1, .slice H.A2 H.n2 H.c2, .slice H.A3 H.n3 H.c3, .slice H.A4 H.n4 H.c4] 28)) := (Below.refl _ _).alloc (Nat.le_refl _) _
 have Gd : Blk (w1.alloc (.cells #[.slice H.A0 H.n0 H.c0, .slice H.A1 H.n1 H.c1, .slice H.A2 H.n2 H.c2, .slice H.A3 H.n3 H.c3, .slice H.A4 H.n4 H.c4] 28)) w1.heap.size 28 [.slice H.A0 H.n0 H.c0, .slice H.A1 H.n1 H.c1, .slice H.A2 H.n2 H.c2, .slice H.A3 H.n3 H.c3, .slice H.A4 H.n4 H.c4] := Blk.at_ rfl
 replace hC := hC.next U
 replace sd := sd.next U
 replace K := bel_then K U
 clear U
 go_upto_region 4 with fail
 generalize (w1.alloc (.cells #[.slice H.A0 H.n0 H.c0, .slice H.A1 H.n1 H.c1, .slice H.A2 H.n2 H.c2, .slice H.A3 H.n3 H.c3, .slice H.A4 H.n4 H.c4] 28)) = w2 at *
 generalize w1.heap.size = gd at *
 have F0 := fd.mono (show 2000 ≤ 1048576 by decide)
 have cGd := Gd.cell
 go_wp2_with fail
 refine (CheckAllP_any H d w2 sd F0 pd).mono ?_
 rintro e w3 ⟨H1, rfl, M1, F1, C1, b⟩
 clear cGd
 replace hC := hC.next b
 replace sd := sd.next b
 replace Gd := Gd.next b
 replace K := bel_then K b
 clear b
 have s1 := M1.sees
 clear M1
 have U : Below w3.heap.size w3 (w3.alloc (.cells #[.slice H1.A0 H1.n0 H1.c0, .slice H1.A1 H1.n1 H1.c1, .slice H1.A2 H1.n2 H1.c2, .slice H1.A3 H1.n3 H1.c3, .slice H1.A4 H1.n4 H1.c4] 28)) := (Below.refl _ _).alloc (Nat.le_refl _) _
 have Go : Blk (w3.alloc (.cells #[.slice H1.A0 H1.n0 H1.c0, .slice H1.A1 H1.n1 H1.c1, .slice H1.A2 H1.n2 H1.c2, .slice H1.A3 H1.n3 H1.c3, .slice H1.A4 H1.n4 H1.c4] 28)) w3.heap.size 28 [.slice H1.A0 H1.n0 H1.c0, .slice H1.A1 H1.n1 H1.c1, .slice H1.A2 H1.n2 H1.c2, .slice H1.A3 H1.n3 H1.c3, .slice H1.A4 H1.n4 H1.c4] := Blk.at_ rfl
 replace hC := hC.next U
 replace sd := sd.next U
 replace Gd := Gd.next U
 replace s1 := s1.next U
 replace K := bel_then K U
 clear U
 go_upto_region 5 with fail
 generalize (w3.alloc (.cells #[.slice H1.A0 H1.n0 H1.c0, .slice H1.A1 H1.n1 H1.c1, .slice H1.A2 H1.n2 H1.c2, .slice H1.A3 H1.n3 H1.c3, .slice H1.A4 H1.n4 H1.c4] 28)) = w4 at *
 generalize w3.heap.size = go at *
 have cGd := Gd.cell
 go_wp2_with fail
 refine (specCheckAllP_any H d w4 sd F0 pd).mono ?_
 rintro e w5 ⟨H2, rfl, M2, -, -, b⟩
 clear cGd
 replace hC := hC.next b
 replace sd := sd.next b
 replace Gd := Gd.next b
 replace Go := Go.next b
 replace s1 := s1.next b
 replace K := bel_then K b
 clear b
 have s2 := M2.sees
 clear M2
 have U : Below w5.heap.size w5 (w5.alloc (.cells #[.slice H2.A0 H2.n0 H2.c0, .slice H2.A1 H2.n1 H2.c1, .slice H2.A2 H2.n2 H2.c2, .slice H2.A3 H2.n3 H2.c3, .slice H2.A4 H2.n4 H2.c4] 28)) := (Below.refl _ _).alloc (Nat.le_refl _) _
 have Gw : Blk (w5.alloc (.cells #[.slice H2.A0 H2.n0 H2.c0, .slice H2.A1 H2.n1 H2.c1, .slice H2.A2 H2.n2 H2.c2, .slice H2.A3 H2.n3 H2.c3, .slice H2.A4 H2.n4 H2.c4] 28)) w5.heap.size 28 [.slice H2.A0 H2.n0 H2.c0, .slice H2.A1 H2.n1 H2.c1, .slice H2.A2 H2.n2 H2.c2, .slice H2.A3 H2.n3 H2.c3, .slice H2.A4 H2.n4 H2.c4] := Blk.at_ rfl
 replace hC := hC.next U
 replace sd := sd.next U
 replace Gd := Gd.next U
 replace Go := Go.next U
 replace s1 := s1.next U
 replace s2 := s2.next U
 replace K := bel_then K U
 clear U
 go_upto_region 6 with fail
 generalize (w5.alloc (.cells #[.slice H2.A0 H2.n0 H2.c0, .slice H2.A1 H2.n1 H2.c1, .slice H2.A2 H2.n2 H2.c2, .slice H2.A3 H2.n3 H2.c3, .slice H2.A4 H2.n4 H2.c4] 28)) = w6 at *
 generalize w5.heap.size = gw at *
 have HR := Lib.hid (fun (h : (checkAllP d).1.isSome = true) => lists_facts h)
 obtain ⟨q, hq⟩ : ∃ q, (checkAllP d).1.getD deskZ = q := ⟨_, rfl⟩
 obtain ⟨o0, ho0⟩ : ∃ o0, (checkAllP d).1.isSome = o0 := ⟨_, rfl⟩
 obtain ⟨m0, hm0⟩ : ∃ m0, (checkAllP d).2 = m0 := ⟨_, rfl⟩
 rw [hq] at s1 s2 F1
 rw [hq, ho0, hm0] at HR
 try rw [ho0]
 try rw [hm0]
 clear hq ho0 hm0
 have hoo : (o0 != o0) = false := bne_self_eq_false o0
 have hmm : (m0 != m0) = false := bne_self_eq_false m0
 have cGo := Go.cell
 have cGw := Gw.cell
 go_wp2_with fail
 refine (vDesk_any H1 H2 q 0 0 _ s1 s2 F1).mono ?_
 rintro e w7 ⟨rfl, b⟩
 clear cGo cGw s2 Gw hoo hmm
 replace hC := hC.next b
 replace sd := sd.next b
 replace Gd := Gd.next b
 replace Go := Go.next b
 replace s1 := s1.next b
 replace K := bel_then K b
 clear b
 go_upto_if 65 with fail
 go_cut [] from 66 to 125 (fun wr => CodeIn wr A0 n0 ∧ Below w.heap.size w wr)
 case first =>
  cases o0
  ·go_wp2_with fail
   go_meet
   exact ⟨hC, K⟩
  ·obtain ⟨g1, g2, g3, g4, g5⟩ := HR.out rfl
   clear HR
   obtain ⟨R, hR, hRl, hRn⟩ := rankM_good g2
   have hW1 := waitM_good g1
   have hW2 := waitM_good g2
   have hz := s1.f2.count
   have hl3 := s1.f3.count (by decide) (fun _ => rfl)
   have hb1 := sd.f1.icount
   have hb2 : (waitL d).length ≤ 2000 := by
    have h1 : (waitL d).length ≤ d.known.length := List.length_filter_le _ _
    have h2 := fd.n1
    omega
   have HRN := Lib.hid hRn
   have h1n : ((H1.n2 : Int) != 0) = false := by
    rw [g3] at hz
    simp only [List.length_nil] at hz
    rw [← hz]
    rfl
   have h2n : ((R.length : Int) != (H1.n3 : Int)) = false := by rw [hRl, hl3]; exact bne_self_eq_false _
   have hRb : R.length ≤ 1048576 := by have := F1.n3; omega
   have HW1 := Lib.hid hW1
   have HW2 := Lib.hid hW2
   have HR1 := Lib.hid hR
   have HMM := Lib.hid g4
   clear g1 g2 g3 g4 hR hRl hRn hW1 hW2 hz hl3 hb1
   have cGd := Gd.cell
   go_wp2_with fail
   refine (WaitingFor_any H d _ sd F0 pd).mono ?_
   rw [HW1.out]
   rintro e y1 ⟨A1, k1, rfl, o1, b⟩
   simp only [Option.getD_some, Option.isSome_some] at o1 ⊢
   clear cGd o1
   replace hC := hC.next b
   replace Go := Go.next b
   replace s1 := s1.next b
   replace K := bel_then K b
   clear b
   have cGo := Go.cell
   go_wp2_with fail
   refine (WaitingFor_any H1 q _ s1 F1 C1).mono ?_
   rw [HW2.out]
   rintro e y2 ⟨A2, k2, rfl, o2, b⟩
   simp only [Option.getD_some, Option.isSome_some] at o2 ⊢
   clear cGo
   replace hC := hC.next b
   replace Go := Go.next b
   replace s1 := s1.next b
   replace K := bel_then K b
   clear b
   have uw2 := (Sees.of_own o2).less (Nat.zero_le _)
   clear o2
   have cGo := Go.cell
   go_wp2_with fail
   refine (DeskRanking_any H1 q _ s1 F1 C1).mono ?_
   rw [HR1.out]
   rintro e y3 ⟨A3, k3, rfl, o3, b⟩
   simp only [Option.getD_some, Option.isSome_some] at o3 ⊢
   clear cGo
   replace hC := hC.next b
   replace Go := Go.next b
   replace uw2 := uw2.next b
   replace K := bel_then K b
   clear b
   have uw3 := (Sees.of_own o3).less (Nat.zero_le _)
   clear o3 s1 sd Gd
   have cGo := Go.cell
   obtain ⟨l1, hl1⟩ : ∃ l1, (waitL d).length = l1 := ⟨_, rfl⟩
   obtain ⟨W2, hW2⟩ : ∃ W2, waitL q = W2 := ⟨_, rfl⟩
   have HMM2 := HMM.out
   rw [hl1, hW2] at HMM2
   rw [hl1] at hb2
   rw [hl1, hW2] at g5
   rw [hW2] at uw2 HRN
   rw [hl1, hW2]
   clear hl1 hW2 HMM HW1 HW2 HR1
   have h3n : ((l1 : Int) - (W2.length : Int) != m0) = false := by rw [HMM2]; exact bne_self_eq_false m0
   clear HMM2
   have hub : W2.length ≤ 2000 := by omega
   go_wp2_with fail
   clear cGo h1n h2n h3n
   go_loopw [16] (fun iv wr => ∃ i : Nat, i ≤ R.length ∧ iv = .int .i64 (i : Int) ∧ Sees wr 0 1 A2 W2.length (ints W2) ∧ Sees wr 0 1 A3 R.length (ints R) ∧ CodeIn wr A0 n0 ∧ Below w.heap.size w wr) (fun iv _ => R.length - (intOf iv).toNat)
   case atStart => exact ⟨0, Nat.zero_le _, rfl, uw2, uw3, hC, K⟩
   case round =>
    clear uw2 uw3 hC K
    obtain ⟨i, hi, rfl, uw2, uw3, hC, K⟩ := hrel
    by_cases hlt : i < R.length
    ·have hlti : (i : Int) < (R.length : Int) := by omega
     obtain ⟨b1, o1, rfl, hx1, y1⟩ := uw3.int hlt
     have hnot := HRN.out R[i] (List.getElem_mem hx1)
     obtain ⟨v, hv⟩ : ∃ v, R[i] = v := ⟨_, rfl⟩
     rw [hv] at hnot
     rw [show R[i] = v from hv] at y1
     clear hv
     go_wp2_with fail
     refine (vHas_no A2 _ _ 0 W2 v _ uw2 hnot (by omega)).mono ?_
     rintro e y5 ⟨rfl, qq⟩
     clear y1
     have b := qq.below wr.heap.size
     replace hC := hC.next b
     replace uw2 := uw2.next b
     replace uw3 := uw3.next b
     replace K := bel_then K b
     clear b
     go_wp2_with fail
     go_roundw
     case rel => exact ⟨i + 1, by omega, by go_num, uw2, uw3, hC, K⟩
     case measure => simp [intOf]; omega
    ·have hlti : ¬ (i : Int) < (R.length : Int) := by omega
     go_wp2_with fail
     go_meet
     exact ⟨hC, K⟩
 case rest =>
  clear sd Gd Go s1 hC K
  obtain ⟨hC, K⟩ := hcut
  obtain ⟨x0, rfl⟩ : ∃ w' : World, w' = wc := ⟨_, rfl⟩
  clear HR F0 F1 C1 fd pd
  go_wp2_with fail
  refine (DrawWaitingFor_any A0 n0 c0 x0 hC (by omega)).mono ?_
  rintro e x0a ⟨H, d, rfl, sd, fd, pd, b⟩
  replace hC := hC.next b
  replace K := bel_then K b
  clear b
  replace sd := sd.less (Nat.zero_le _)
  have U : Below x0a.heap.size x0a (x0a.alloc (.cells #[.slice H.A0 H.n0 H.c0, .slice H.A1 H.n1 H.c1, .slice H.A2 H.n2 H.c2, .slice H.A3 H.n3 H.c3, .slice H.A4 H.n4 H.c4] 28)) := (Below.refl _ _).alloc (Nat.le_refl _) _
  have Gd : Blk (x0a.alloc (.cells #[.slice H.A0 H.n0 H.c0, .slice H.A1 H.n1 H.c1, .slice H.A2 H.n2 H.c2, .slice H.A3 H.n3 H.c3, .slice H.A4 H.n4 H.c4] 28)) x0a.heap.size 28 [.slice H.A0 H.n0 H.c0, .slice H.A1 H.n1 H.c1, .slice H.A2 H.n2 H.c2, .slice H.A3 H.n3 H.c3, .slice H.A4 H.n4 H.c4] := Blk.at_ rfl
  replace hC := hC.next U
  replace sd := sd.next U
  replace K := bel_then K U
  clear U
  go_upto_region 20 with fail
  generalize (x0a.alloc (.cells #[.slice H.A0 H.n0 H.c0, .slice H.A1 H.n1 H.c1, .slice H.A2 H.n2 H.c2, .slice H.A3 H.n3 H.c3, .slice H.A4 H.n4 H.c4] 28)) = x0b at *
  generalize x0a.heap.size = gd at *
  have F0 := fd.mono (show 2000 ≤ 1048576 by decide)
  have cGd := Gd.cell
  go_wp2_with fail
  refine (WaitingFor_any H d _ sd F0 pd).mono ?_
  rintro e x0c ⟨A1, k1, rfl, o1, b⟩
  clear cGd
  replace hC := hC.next b
  replace sd := sd.next b
  replace Gd := Gd.next b
  replace K := bel_then K b
  clear b
  have uw1 := (Sees.of_own o1).less (Nat.zero_le _)
  clear o1
  have cGd := Gd.cell
  go_wp2_with fail
  refine (specWaitingFor_any H d _ sd F0 pd).mono ?_
  rintro e x0d ⟨A2, k2, rfl, o2, b⟩
  clear cGd
  replace hC := hC.next b
  replace sd := sd.next b
  replace Gd := Gd.next b
  replace uw1 := uw1.next b
  replace K := bel_then K b
  clear b
  have uw2 := (Sees.of_own o2).less (Nat.zero_le _)
  clear o2
  have hLb := waitM_len d
  have hLn := sd.f1.icount

  obtain ⟨Q, hQ⟩ : ∃ Q, (waitM d).getD [] = Q := ⟨_, rfl⟩
  obtain ⟨o0, ho0⟩ : ∃ o0, (waitM d).isSome = o0 := ⟨_, rfl⟩
  rw [hQ] at uw1 uw2 hLb
  try rw [hQ]
  try rw [ho0]
  clear hQ ho0
  have hoo : (o0 != o0) = false := bne_self_eq_false o0
  have hQb : Q.length ≤ 2000 := by
   have h1 := fd.n1
   have h2 := fd.n3
   have h3 := fd.n4
   omega
  clear hLb hLn
  go_wp2_with fail
  refine (vInts_any A1 A2 Q.length Q.length k1 k2 0 0 Q Q _ uw1 uw2 rfl (by omega)).mono ?_
  rintro e x0e ⟨rfl, qq⟩
  have b := qq.below x0d.heap.size
  replace hC := hC.next b
  replace K := bel_then K b
  clear b qq
  clear sd Gd uw1 uw2 F0 fd pd hoo hQb
  go_wp2_with fail
  refine (DrawDeskRanking_any A0 n0 c0 x0e hC (by omega)).mono ?_
  rintro e x0ea ⟨H, d, rfl, sd, fd, pd, b⟩
  replace hC := hC.next b
  replace K := bel_then K b
  clear b
  replace sd := sd.less (Nat.zero_le _)
  have U : Below x0ea.heap.size x0ea (x0ea.alloc (.cells #[.slice H.A0 H.n0 H.c0, .slice H.A1 H.n1 H.c1, .slice H.A2 H.n2 H.c2, .slice H.A3 H.n3 H.c3, .slice H.A4 H.n4 H.c4] 28)) := (Below.refl _ _).alloc (Nat.le_refl _) _
  have Gd : Blk (x0ea.alloc (.cells #[.slice H.A0 H.n0 H.c0, .slice H.A1 H.n1 H.c1, .slice H.A2 H.n2 H.c2, .slice H.A3 H.n3 H.c3, .slice H.A4 H.n4 H.c4] 28)) x0ea.heap.size 28 [.slice H.A0 H.n0 H.c0, .slice H.A1 H.n1 H.c1, .slice H.A2 H.n2 H.c2, .slice H.A3 H.n3 H.c3, .slice H.A4 H.n4 H.c4] := Blk.at_ rfl
  replace hC := hC.next U
  replace sd := sd.next U
  replace K := bel_then K U
  clear U
  go_upto_region 25 with fail
  generalize (x0ea.alloc (.cells #[.slice H.A0 H.n0 H.c0, .slice H.A1 H.n1 H.c1, .slice H.A2 H.n2 H.c2, .slice H.A3 H.n3 H.c3, .slice H.A4 H.n4 H.c4] 28)) = x0eb at *
  generalize x0ea.heap.size = gd at *
  have F0 := fd.mono (show 2000 ≤ 1048576 by decide)
  have cGd := Gd.cell
  go_wp2_with fail
  refine (DeskRanking_any H d _ sd F0 pd).mono ?_
  rintro e x0ec ⟨A1, k1, rfl, o1, b⟩
  clear cGd
  replace hC := hC.next b
  replace sd := sd.next b
  replace Gd := Gd.next b
  replace K := bel_then K b
  clear b
  have uw1 := (Sees.of_own o1).less (Nat.zero_le _)
  clear o1
  have cGd := Gd.cell
  go_wp2_with fail
  refine (specDeskRanking_any H d _ sd F0 pd).mono ?_
  rintro e x0ed ⟨A2, k2, rfl, o2, b⟩
  clear cGd
  replace hC := hC.next b
  replace sd := sd.next b
  replace Gd := Gd.next b
  replace uw1 := uw1.next b
  replace K := bel_then K b
  clear b
  have uw2 := (Sees.of_own o2).less (Nat.zero_le _)
  clear o2
  have hLb := rankM_len d
  have hLn := sd.f3.count (by decide) (fun _ => rfl)

  obtain ⟨Q, hQ⟩ : ∃ Q, (rankM d).getD [] = Q := ⟨_, rfl⟩
  obtain ⟨o0, ho0⟩ : ∃ o0, (rankM d).isSome = o0 := ⟨_, rfl⟩
  rw [hQ] at uw1 uw2 hLb
  try rw [hQ]
  try rw [ho0]
  clear hQ ho0
  have hoo : (o0 != o0) = false := bne_self_eq_false o0
  have hQb : Q.length ≤ 2000 := by
   have h1 := fd.n1
   have h2 := fd.n3
   have h3 := fd.n4
   omega
  clear hLb hLn
  go_wp2_with fail
  refine (vInts_any A1 A2 Q.length Q.length k1 k2 0 0 Q Q _ uw1 uw2 rfl (by omega)).mono ?_
  rintro e x0ee ⟨rfl, qq⟩
  have b := qq.below x0ed.heap.size
  replace hC := hC.next b
  replace K := bel_then K b
  clear b qq
  clear sd Gd uw1 uw2 F0 fd pd hoo hQb
  go_wp2_with fail
  refine (DrawTroubleNumbers_any A0 n0 c0 x0ee hC (by omega)).mono ?_
  rintro e x0eea ⟨H, d, rfl, sd, fd, pd, b⟩
  replace hC := hC.next b
  replace K := bel_then K b
  clear b
  replace sd := sd.less (Nat.zero_le _)
  have U : Below x0eea.heap.size x0eea (x0eea.alloc (.cells #[.slice H.A0 H.n0 H.c0, .slice H.A1 H.n1 H.c1, .slice H.A2 H.n2 H.c2, .slice H.A3 H.n3 H.c3, .slice H.A4 H.n4 H.c4] 28)) := (Below.refl _ _).alloc (Nat.le_refl _) _
  have Gd : Blk (x0eea.alloc (.cells #[.slice H.A0 H.n0 H.c0, .slice H.A1 H.n1 H.c1, .slice H.A2 H.n2 H.c2, .slice H.A3 H.n3 H.c3, .slice H.A4 H.n4 H.c4] 28)) x0eea.heap.size 28 [.slice H.A0 H.n0 H.c0, .slice H.A1 H.n1 H.c1, .slice H.A2 H.n2 H.c2, .slice H.A3 H.n3 H.c3, .slice H.A4 H.n4 H.c4] := Blk.at_ rfl
  replace hC := hC.next U
  replace sd := sd.next U
  replace K := bel_then K U
  clear U
  go_upto_region 30 with fail
  generalize (x0eea.alloc (.cells #[.slice H.A0 H.n0 H.c0, .slice H.A1 H.n1 H.c1, .slice H.A2 H.n2 H.c2, .slice H.A3 H.n3 H.c3, .slice H.A4 H.n4 H.c4] 28)) = x0eeb at *
  generalize x0eea.heap.size = gd at *
  have F0 := fd.mono (show 2000 ≤ 1048576 by decide)
  have cGd := Gd.cell
  go_wp2_with fail
  refine (TroubleNumbers_any H d _ sd F0 pd).mono ?_
  rintro e x0eec ⟨A1, k1, rfl, o1, b⟩
  clear cGd
  replace hC := hC.next b
  replace sd := sd.next b
  replace Gd := Gd.next b
  replace K := bel_then K b
  clear b
  have uw1 := (Sees.of_own o1).less (Nat.zero_le _)
  clear o1
  have cGd := Gd.cell
  go_wp2_with fail
  refine (specTroubleNumbers_any H d _ sd F0 pd).mono ?_
  rintro e x0eed ⟨A2, k2, rfl, o2, b⟩
  clear cGd
  replace hC := hC.next b
  replace sd := sd.next b
  replace Gd := Gd.next b
  replace uw1 := uw1.next b
  replace K := bel_then K b
  clear b
  have uw2 := (Sees.of_own o2).less (Nat.zero_le _)
  clear o2
  have hLb := troubleM_len d
  have hLn := sd.f4.count
  have HRF := Lib.hid (fun (x : Int) (h : x ∈ (troubleM d).getD []) => refuse_all (d := d) h)
  obtain ⟨Q, hQ⟩ : ∃ Q, (troubleM d).getD [] = Q := ⟨_, rfl⟩
  obtain ⟨o0, ho0⟩ : ∃ o0, (troubleM d).isSome = o0 := ⟨_, rfl⟩
  rw [hQ] at uw1 uw2 hLb HRF
  try rw [hQ]
  try rw [ho0]
  clear hQ ho0
  have hoo : (o0 != o0) = false := bne_self_eq_false o0
  have hQb : Q.length ≤ 2000 := by
   have h1 := fd.n1
   have h2 := fd.n3
   have h3 := fd.n4
   omega
  clear hLb hLn
  go_wp2_with fail
  refine (vInts_any A1 A2 Q.length Q.length k1 k2 0 0 Q Q _ uw1 uw2 rfl (by omega)).mono ?_
  rintro e x0eee ⟨rfl, qq⟩
  have b := qq.below x0eed.heap.size
  replace sd := sd.next b
  replace Gd := Gd.next b
  replace uw1 := uw1.next b
  replace K := bel_then K b
  clear b qq
  clear uw2 hoo hC
  go_wp2_with fail
  go_loopw [32] (fun iv wr => ∃ i : Nat, i ≤ Q.length ∧ iv = .int .i64 (i : Int) ∧ Blk wr gd 28 [.slice H.A0 H.n0 H.c0, .slice H.A1 H.n1 H.c1, .slice H.A2 H.n2 H.c2, .slice H.A3 H.n3 H.c3, .slice H.A4 H.n4 H.c4] ∧ SeesDesk wr 0 H d ∧ Sees wr 0 1 A1 Q.length (ints Q) ∧ Below w.heap.size w wr) (fun iv _ => Q.length - (intOf iv).toNat)
  case atStart => exact ⟨0, Nat.zero_le _, rfl, Gd, sd, uw1, K⟩
  case round =>
   clear Gd sd uw1 K
   obtain ⟨i, hi, rfl, Gd, sd, uw1, K⟩ := hrel
   by_cases hlt : i < Q.length
   ·have hlti : (i : Int) < (Q.length : Int) := by omega
    obtain ⟨b1, o1, rfl, hx1, y1⟩ := uw1.int hlt
    have hok := HRF.out Q[i] (List.getElem_mem hx1)
    obtain ⟨v, hv⟩ : ∃ v, Q[i] = v := ⟨_, rfl⟩
    rw [hv] at hok
    rw [show Q[i] = v from hv] at y1
    clear hv
    obtain ⟨e2, hst⟩ := Option.isSome_iff_exists.1 hok
    clear hok
    have zb := World.block_lt_of_cell? wr _ y1
    have hSS : ∀ w' : World, Below wr.heap.size wr w' → w'.cell? ⟨gd, 0, none⟩ = some (.slice H.A0 H.n0 H.c0) ∧ w'.cell? ⟨gd, 1, none⟩ = some (.slice H.A1 H.n1 H.c1) ∧ w'.cell? ⟨gd, 2, none⟩ = some (.slice H.A2 H.n2 H.c2) ∧ w'.cell? ⟨gd, 3, none⟩ = some (.slice H.A3 H.n3 H.c3) ∧ w'.cell? ⟨gd, 4, none⟩ = some (.slice H.A4 H.n4 H.c4) ∧ w'.cell? ⟨b1, o1 + i, none⟩ = some (.int .i64 v) := fun w' hb => ⟨(Gd.next hb).cell 0, (Gd.next hb).cell 1, (Gd.next hb).cell 2, (Gd.next hb).cell 3, (Gd.next hb).cell 4, (hb.cell (p := ⟨b1, o1 + i, none⟩) zb).trans y1⟩
    go_upto_region 37 with fail
    obtain ⟨wi0, rfl⟩ : ∃ w' : World, w' = wr := ⟨_, rfl⟩
    have D := (Quiet.one wi0).below wi0.heap.size
    refine wp_region_held_drew (S := fun w' => w'.cell? ⟨gd, 0, none⟩ = some (.slice H.A0 H.n0 H.c0) ∧ w'.cell? ⟨gd, 1, none⟩ = some (.slice H.A1 H.n1 H.c1) ∧ w'.cell? ⟨gd, 2, none⟩ = some (.slice H.A2 H.n2 H.c2) ∧ w'.cell? ⟨gd, 3, none⟩ = some (.slice H.A3 H.n3 H.c3) ∧ w'.cell? ⟨gd, 4, none⟩ = some (.slice H.A4 H.n4 H.c4) ∧ w'.cell? ⟨b1, o1 + i, none⟩ = some (.int .i64 v)) (by kernel_rfl) (hSS _ D) (fun hH => ?_)
    try replace hc := hc.next ((Quiet.one wi0).below _)
    generalize wi0.drew = wi1 at *
    refine wT (i := 0) (v := ?_) rfl (by kernel_rfl) (by kernel_rfl) (by kernel_rfl) (fun _ _ _ h => h) (Or.inl ⟨by rfl, ?_⟩) (by assumption) ?_
    rotate_left 1
    ·(intro w hS; (try dsimp only at hS); go_simp; try with_reducible rfl)
    (try simp only [Act.put, pX])
    refine wT (i := 1) (v := ?_) rfl (by kernel_rfl) (by kernel_rfl) (by kernel_rfl) (fun _ _ _ h => h) (Or.inl ⟨by rfl, ?_⟩) (by assumption) ?_
    rotate_left 1
    ·(intro w hS; (try dsimp only at hS); go_simp; try with_reducible rfl)
    (try simp only [Act.put, pX])
    refine wT (i := 2) (v := ?_) rfl (by kernel_rfl) (by kernel_rfl) (by kernel_rfl) (fun _ _ _ h => h) (Or.inl ⟨by rfl, ?_⟩) (by assumption) ?_
    rotate_left 1
    ·(intro w hS; (try dsimp only at hS); go_simp; try with_reducible rfl)
    (try simp only [Act.put, pX])
    refine wT (i := 3) (v := ?_) rfl (by kernel_rfl) (by kernel_rfl) (by kernel_rfl) (fun _ _ _ h => h) (Or.inl ⟨by rfl, ?_⟩) (by assumption) ?_
    rotate_left 1
    ·(intro w hS; (try dsimp only at hS); go_simp; try with_reducible rfl)
    (try simp only [Act.put, pX])
    refine wT (i := 4) (v := ?_) rfl (by kernel_rfl) (by kernel_rfl) (by kernel_rfl) (fun _ _ _ h => h) (Or.inl ⟨by rfl, ?_⟩) (by assumption) ?_
    rotate_left 1
    ·(intro w hS; (try dsimp only at hS); go_simp; try with_reducible rfl)
    (try simp only [Act.put, pX])
    refine wT (i := 5) (v := ?_) rfl (by kernel_rfl) (by kernel_rfl) (by kernel_rfl) (fun _ _ _ h => h) (Or.inl ⟨by rfl, ?_⟩) (by assumption) ?_
    rotate_left 1
    ·(intro w hS; (try dsimp only at hS); go_simp; try with_reducible rfl)
    (try simp only [Act.put, pX])
    refine wR (rs := [6, 10]) (by kernel_rfl) (by simp) ?_
    refine aC rfl (fun K hK => ?_) ?_
    ·go_simp
     refine (StepDesk_any H d none 0 0 ⟨4, v, 0, 0, 0, []⟩ wi1 (sd.next D) F0 pd (Sees.nil _ _ _ _) (by omega)).mono ?_
     rw [hst]
     rintro e wi2 ⟨H3, rfl, -, -, -, b3⟩
     replace D := bel_then D b3
     try replace RB := RB.next b3
     clear b3
     simp only [Option.isSome_some]
     go_wp2_with fail
     refine hK.out _ _ (hSS _ D) (fun hH => ?_)
     clear hK K
     (try simp only [Act.put, pX])
     refine wT (i := 7) (v := ?_) rfl (by kernel_rfl) (by kernel_rfl) (by kernel_rfl) (fun _ _ _ h => h) (Or.inl ⟨by rfl, ?_⟩) (by assumption) ?_
     rotate_left 1
     ·(intro w hS; (try dsimp only at hS); go_simp; try with_reducible rfl)
     (try simp only [Act.put, pX])
     refine wT (i := 8) (v := ?_) rfl (by kernel_rfl) (by kernel_rfl) (by kernel_rfl) (fun _ _ _ h => h) (Or.inl ⟨by rfl, ?_⟩) (by assumption) ?_
     rotate_left 1
     ·(intro w hS; (try dsimp only at hS); go_simp; try with_reducible rfl)
     (try simp only [Act.put, pX])
     refine wT (i := 9) (v := ?_) rfl (by kernel_rfl) (by kernel_rfl) (by kernel_rfl) (fun _ _ _ h => h) (Or.inl ⟨by rfl, ?_⟩) (by assumption) ?_
     rotate_left 1
     ·(intro w hS; (try dsimp only at hS); go_simp; try with_reducible rfl)
     (try simp only [Act.put, pX])
     refine wR (rs := [10]) (by kernel_rfl) (by simp) ?_
     refine aC rfl (fun K hK => ?_) aN
     go_simp
     have U := (Below.refl wi2.heap.size wi2).alloc (Nat.le_refl _) (.cells #[.slice none 0 0, .slice none 0 0, .slice none 0 0, .slice none 0 0, .slice none 0 0] 28)
     have RB : Blk (wi2.alloc (.cells #[.slice none 0 0, .slice none 0 0, .slice none 0 0, .slice none 0 0, .slice none 0 0] 28)) wi2.heap.size 28 [.slice none 0 0, .slice none 0 0, .slice none 0 0, .slice none 0 0, .slice none 0 0] := Blk.at_ rfl
     have hgx : wi0.heap.size ≤ wi2.heap.size := D.size
     replace D := bel_then D U
     clear U
     refine hK.out _ _ (hSS _ D) (fun hH => ?_)
     clear hK K
     (try simp only [Act.put, pX])
     generalize wi2.alloc (.cells #[.slice none 0 0, .slice none 0 0, .slice none 0 0, .slice none 0 0, .slice none 0 0] 28) = wi3 at *
     generalize wi2.heap.size = gx at *
     refine wR (rs := [11]) (by kernel_rfl) (by simp) ?_
     refine aC rfl (fun K hK => ?_) aN
     go_simp
     have cr := RB.cell
     have fr := RB.frozen
     go_simp
     have ho : Only (fun b => b = gx) wi3 (((((wi3.setCell ⟨gx, 0, none⟩ (.slice H3.A0 H3.n0 H3.c0)).setCell ⟨gx, 1, none⟩ (.slice H3.A1 H3.n1 H3.c1)).setCell ⟨gx, 2, none⟩ (.slice H3.A2 H3.n2 H3.c2)).setCell ⟨gx, 3, none⟩ (.slice H3.A3 H3.n3 H3.c3)).setCell ⟨gx, 4, none⟩ (.slice H3.A4 H3.n4 H3.c4)) := only_set (only_set (only_set (only_set (only_set (Only.refl _ _) 0 _) 1 _) 2 _) 3 _) 4 _
     replace D := D.trans (ho.below (fun b (hb : b = gx) => by omega) D.size)
     clear cr fr RB ho
     refine hK.out _ (((((wi3.setCell ⟨gx, 0, none⟩ (.slice H3.A0 H3.n0 H3.c0)).setCell ⟨gx, 1, none⟩ (.slice H3.A1 H3.n1 H3.c1)).setCell ⟨gx, 2, none⟩ (.slice H3.A2 H3.n2 H3.c2)).setCell ⟨gx, 3, none⟩ (.slice H3.A3 H3.n3 H3.c3)).setCell ⟨gx, 4, none⟩ (.slice H3.A4 H3.n4 H3.c4)) (hSS _ D) (fun hH => ?_)
     clear hK K
     (try simp only [Act.put, pX])
     generalize (((((wi3.setCell ⟨gx, 0, none⟩ (.slice H3.A0 H3.n0 H3.c0)).setCell ⟨gx, 1, none⟩ (.slice H3.A1 H3.n1 H3.c1)).setCell ⟨gx, 2, none⟩ (.slice H3.A2 H3.n2 H3.c2)).setCell ⟨gx, 3, none⟩ (.slice H3.A3 H3.n3 H3.c3)).setCell ⟨gx, 4, none⟩ (.slice H3.A4 H3.n4 H3.c4)) = wi4 at *
     refine wT (i := 12) (v := ?_) rfl (by kernel_rfl) (by kernel_rfl) (by kernel_rfl) (fun _ _ _ h => h) (Or.inl ⟨by rfl, ?_⟩) (by assumption) ?_
     rotate_left 1
     ·(intro w hS; (try dsimp only at hS); go_simp; try with_reducible rfl)
     (try simp only [Act.put, pX])
     refine wD (by kernel_rfl) ?_ _
     clear hH
     go_wp2_with fail
     go_roundw
     case rel => exact ⟨i + 1, by omega, by go_num, Gd.next D, sd.next D, uw1.next D, bel_then K D⟩
     case measure => simp [intOf]; omega
    refine aC rfl (fun K hK => ?_) aN
    ·go_simp
     have U := (Below.refl wi1.heap.size wi1).alloc (Nat.le_refl _) (.cells #[.slice none 0 0, .slice none 0 0, .slice none 0 0, .slice none 0 0, .slice none 0 0] 28)
     have RB : Blk (wi1.alloc (.cells #[.slice none 0 0, .slice none 0 0, .slice none 0 0, .slice none 0 0, .slice none 0 0] 28)) wi1.heap.size 28 [.slice none 0 0, .slice none 0 0, .slice none 0 0, .slice none 0 0, .slice none 0 0] := Blk.at_ rfl
     have hgx : wi0.heap.size ≤ wi1.heap.size := D.size
     replace D := bel_then D U
     clear U
     refine hK.out _ _ (hSS _ D) (fun hH => ?_)
     clear hK K
     (try simp only [Act.put, pX])
     generalize wi1.alloc (.cells #[.slice none 0 0, .slice none 0 0, .slice none 0 0, .slice none 0 0, .slice none 0 0] 28) = wi2 at *
     generalize wi1.heap.size = gx at *
     refine wR (rs := [6]) (by kernel_rfl) (by simp) ?_
     refine aC rfl (fun K hK => ?_) aN
     go_simp
     refine (StepDesk_any H d none 0 0 ⟨4, v, 0, 0, 0, []⟩ wi2 (sd.next D) F0 pd (Sees.nil _ _ _ _) (by omega)).mono ?_
     rw [hst]
     rintro e wi3 ⟨H3, rfl, -, -, -, b3⟩
     replace D := bel_then D b3
     try replace RB := RB.next b3
     clear b3
     simp only [Option.isSome_some]
     go_wp2_with fail
     refine hK.out _ _ (hSS _ D) (fun hH => ?_)
     clear hK K
     (try simp only [Act.put, pX])
     refine wT (i := 7) (v := ?_) rfl (by kernel_rfl) (by kernel_rfl) (by kernel_rfl) (fun _ _ _ h => h) (Or.inl ⟨by rfl, ?_⟩) (by assumption) ?_
     rotate_left 1
     ·(intro w hS; (try dsimp only at hS); go_simp; try with_reducible rfl)
     (try simp only [Act.put, pX])
     refine wT (i := 8) (v := ?_) rfl (by kernel_rfl) (by kernel_rfl) (by kernel_rfl) (fun _ _ _ h => h) (Or.inl ⟨by rfl, ?_⟩) (by assumption) ?_
     rotate_left 1
     ·(intro w hS; (try dsimp only at hS); go_simp; try with_reducible rfl)
     (try simp only [Act.put, pX])
     refine wT (i := 9) (v := ?_) rfl (by kernel_rfl) (by kernel_rfl) (by kernel_rfl) (fun _ _ _ h => h) (Or.inl ⟨by rfl, ?_⟩) (by assumption) ?_
     rotate_left 1
     ·(intro w hS; (try dsimp only at hS); go_simp; try with_reducible rfl)
     (try simp only [Act.put, pX])
     refine wR (rs := [11]) (by kernel_rfl) (by simp) ?_
     refine aC rfl (fun K hK => ?_) aN
     go_simp
     have cr := RB.cell
     have fr := RB.frozen
     go_simp
     have ho : Only (fun b => b = gx) wi3 (((((wi3.setCell ⟨gx, 0, none⟩ (.slice H3.A0 H3.n0 H3.c0)).setCell ⟨gx, 1, none⟩ (.slice H3.A1 H3.n1 H3.c1)).setCell ⟨gx, 2, none⟩ (.slice H3.A2 H3.n2 H3.c2)).setCell ⟨gx, 3, none⟩ (.slice H3.A3 H3.n3 H3.c3)).setCell ⟨gx, 4, none⟩ (.slice H3.A4 H3.n4 H3.c4)) := only_set (only_set (only_set (only_set (only_set (Only.refl _ _) 0 _) 1 _) 2 _) 3 _) 4 _
     replace D := D.trans (ho.below (fun b (hb : b = gx) => by omega) D.size)
     clear cr fr RB ho
     refine hK.out _ (((((wi3.setCell ⟨gx, 0, none⟩ (.slice H3.A0 H3.n0 H3.c0)).setCell ⟨gx, 1, none⟩ (.slice H3.A1 H3.n1 H3.c1)).setCell ⟨gx, 2, none⟩ (.slice H3.A2 H3.n2 H3.c2)).setCell ⟨gx, 3, none⟩ (.slice H3.A3 H3.n3 H3.c3)).setCell ⟨gx, 4, none⟩ (.slice H3.A4 H3.n4 H3.c4)) (hSS _ D) (fun hH => ?_)
     clear hK K
     (try simp only [Act.put, pX])
     generalize (((((wi3.setCell ⟨gx, 0, none⟩ (.slice H3.A0 H3.n0 H3.c0)).setCell ⟨gx, 1, none⟩ (.slice H3.A1 H3.n1 H3.c1)).setCell ⟨gx, 2, none⟩ (.slice H3.A2 H3.n2 H3.c2)).setCell ⟨gx, 3, none⟩ (.slice H3.A3 H3.n3 H3.c3)).setCell ⟨gx, 4, none⟩ (.slice H3.A4 H3.n4 H3.c4)) = wi4 at *
     refine wT (i := 12) (v := ?_) rfl (by kernel_rfl) (by kernel_rfl) (by kernel_rfl) (fun _ _ _ h => h) (Or.inl ⟨by rfl, ?_⟩) (by assumption) ?_
     rotate_left 1
     ·(intro w hS; (try dsimp only at hS); go_simp; try with_reducible rfl)
     (try simp only [Act.put, pX])
     refine wD (by kernel_rfl) ?_ _
     clear hH
     go_wp2_with fail
     go_roundw
     case rel => exact ⟨i + 1, by omega, by go_num, Gd.next D, sd.next D, uw1.next D, bel_then K D⟩
     case measure => simp [intOf]; omega
   ·have hlti : ¬ (i : Int) < (Q.length : Int) := by omega
    go_wp2_with fail
    go_ret
    exact ⟨rfl, K⟩

end Go.Proofs.YtkimlajfhepfgaaGreat

namespace Go.Proofs.YtkimlajfhepfgaaGreat
open Go.ChangeShapes Go.WideShapes Go.ChangeAt Go.RowKit Go.Deep

section
variable {H : Type} {enc : TypeId × Value → H} {P : Program} {w : World} {base : Nat} {spare : Nat → Bool} {held : Bool}

/-- A slice whose elements each read as something of α. -/
theorem open_slice_enc {α : Type} [Inhabited α] {E : α → List Value} {s : Nat} {t e : TypeId} {fuel : Nat} {cs : List Value} {x : DataW H × List MemPlace}
    (ht : P.underlying t = some (.slice e)) (hC : P.cellsOf e = s) (hs : 0 < s) (hlen : ∀ d, (E d).length = s)
    (helem : ∀ n cs x, DataW.trod enc P w base spare held n e cs = some x → ∃ d : α, cs = E d)
    (h : DataW.trod enc P w base spare held fuel t cs = some x) :
    ∃ (A : Option Addr) (n c : Nat) (ds : List α), cs = [.slice A n c] ∧ n ≤ 9223372036854775807 ∧ Sees w base s A n (ds.flatMap E) := by
  rcases open_slice ht h with ⟨hcs, _⟩ | ⟨a, len, cap, m, n, D, Pl, hcs, hb, hl, hm, hmm, hx, hi⟩
  · exact ⟨none, 0, 0, [], hcs, by omega, Sees.nil _ _ _ _⟩
  · have hlm : len ≤ m := by rw [hmm]; split <;> omega
    have hex : ∀ i, i < len → ∃ d : α, ∀ j u, (E d)[j]? = some u → w.cell? (a.add (i * s + j)) = some u := by
      intro i hil
      obtain ⟨cs', hc, ht'⟩ := hi i (by omega)
      obtain ⟨d, rfl⟩ := helem _ _ _ ht'
      obtain ⟨_, hcl, hat⟩ := World.cells?_some hc
      refine ⟨d, fun j u hu => ?_⟩
      have hj : j < (E d).length := (List.getElem?_eq_some_iff.1 hu).1
      rw [← hu, ← hat j (by rw [← hcl]; exact hj), hC, Go.Deep.add_add]
    obtain ⟨f, hf⟩ := choose_lt hex
    have hl2 : ((List.range len).map f).length = len := by simp
    refine ⟨some a, len, cap, (List.range len).map f, hcs, by unfold maxLen at hm; omega, ?_, fun hn => ?_⟩
    · rw [flatMap_len _ (fun d _ => hlen d), hl2]
    · obtain ⟨b, off, spot⟩ := a
      have hlie : ∀ j u, (((List.range len).map f).flatMap E)[j]? = some u → w.cell? ((⟨b, off, spot⟩ : Addr).add j) = some u := by
        intro j u hu
        have hj := (List.getElem?_eq_some_iff.1 hu).1
        rw [flatMap_len _ (fun d _ => hlen d), hl2] at hj
        have hq : j / s < len := Nat.div_lt_of_lt_mul (by rw [Nat.mul_comm]; exact hj)
        have hr : j % s < s := Nat.mod_lt _ hs
        have hjj : j / s * s + j % s = j := by rw [Nat.mul_comm]; exact Nat.div_add_mod j s
        have h1 := flatMap_get (f := E) ((List.range len).map f) (fun d _ => hlen d) (j / s) (j % s) (by rw [hl2]; exact hq) hr
        rw [hjj, hu] at h1
        have h2 := hf (j / s) hq (j % s) u (by simpa using h1.symm)
        rwa [hjj] at h2
      have h0 : 0 < (((List.range len).map f).flatMap E).length := by
        rw [flatMap_len _ (fun d _ => hlen d), hl2]
        exact Nat.mul_pos hn hs
      have hc0 := hlie 0 _ (List.getElem?_eq_getElem h0)
      have hsp : spot = none := by simpa [Addr.add] using World.cell?_spot hc0
      subst hsp
      refine ⟨b, off, rfl, hb, by simpa [Addr.add] using World.block_lt_of_cell? w _ hc0, fun j u hu => ?_⟩
      have hadd : (⟨b, off, none⟩ : Addr).add j = ⟨b, off + j, none⟩ := by unfold Addr.add; split <;> simp_all
      have := hlie j u hu
      rwa [hadd] at this

/-- The fields of a struct, each of one cell. -/
theorem struct_fields {t : TypeId} {fs : Array Field} {fuel : Nat} {cs : List Value} {x : DataW H × List MemPlace} (hs : P.underlying t = some (.struct fs)) (hone : oneCellFields P fs = true) (hC : P.cellsOf t = fs.size)
    (h : DataW.trod enc P w base spare held fuel t cs = some x) :
    cs.length = fs.size ∧ ∃ n, ∀ (i : Nat) (f : Field), fs[i]? = some f → ∃ (v : Value) (y : DataW H × List MemPlace), cs[i]? = some v ∧ DataW.trod enc P w base spare held n f.type [v] = some y := by
  obtain ⟨xs, m, _, _, hcl, hl, hf⟩ := DataW.trod_struct hs h
  rw [hC] at hcl
  refine ⟨hcl, m, fun i f hi => ?_⟩
  obtain ⟨ho, hk⟩ := hone_of hone i f hi
  have hil : i < fs.size := (Array.getElem?_eq_some_iff.1 hi).1
  have h1 := hf i f hi
  rw [ho, hk, List.getElem?_eq_getElem (by rw [hl]; exact hil)] at h1
  have hone' : (cs.drop i).take 1 = [cs[i]'(by omega)] := by
    rw [List.drop_eq_getElem_cons (by omega)]
    rfl
  rw [hone'] at h1
  exact ⟨_, _, List.getElem?_eq_getElem (by omega), h1⟩
end
end Go.Proofs.YtkimlajfhepfgaaGreat

namespace Go.Proofs.YtkimlajfhepfgaaGreat
open Go.ChangeShapes Go.WideShapes Go.ChangeAt Go.RowKit Go.Deep

section
variable {H : Type} {enc : TypeId × Value → H} {P : Program} {w : World} {base : Nat} {spare : Nat → Bool} {held : Bool}
theorem open_slice_encP {α : Type} {Q : α → Prop} (d0 : α) (h0 : Q d0) {E : α → List Value} {s : Nat} {t e : TypeId} {fuel : Nat} {cs : List Value} {x : DataW H × List MemPlace}
    (ht : P.underlying t = some (.slice e)) (hC : P.cellsOf e = s) (hs : 0 < s) (hlen : ∀ d, (E d).length = s)
    (helem : ∀ n cs x, DataW.trod enc P w base spare held n e cs = some x → ∃ d : α, cs = E d ∧ Q d)
    (h : DataW.trod enc P w base spare held fuel t cs = some x) :
    ∃ (A : Option Addr) (n c : Nat) (ds : List α), cs = [.slice A n c] ∧ n ≤ 9223372036854775807 ∧ Sees w base s A n (ds.flatMap E) ∧ ∀ d ∈ ds, Q d := by
  haveI : Inhabited {d : α // Q d} := ⟨⟨d0, h0⟩⟩
  obtain ⟨A, n, c, ds, h1, h2, h3⟩ := open_slice_enc (α := {d : α // Q d}) (E := fun d => E d.1) ht hC hs (fun d => hlen d.1) (fun n cs x h => by
    obtain ⟨d, hd, hq⟩ := helem n cs x h
    exact ⟨⟨d, hq⟩, hd⟩) h
  refine ⟨A, n, c, ds.map Subtype.val, h1, h2, by rw [List.flatMap_map]; exact h3, fun d hd => ?_⟩
  obtain ⟨x, _, rfl⟩ := List.mem_map.1 hd
  exact x.2
end

end Go.Proofs.YtkimlajfhepfgaaGreat

namespace Go.Proofs.YtkimlajfhepfgaaGreat
open Go.ChangeShapes Go.WideShapes Go.ChangeAt Go.RowKit Go.Deep
section
variable {H : Type} {enc : TypeId × Value → H} {w : World} {spare : Nat → Bool} {held : Bool}
theorem cellsOf_u8 : Tryz.prog.cellsOf 5 = 1 := by kernel_rfl
theorem open_code {fuel : Nat} {cs : List Value} {x : DataW H × List MemPlace} (h : DataW.trod enc Tryz.prog w 0 spare held fuel 22 cs = some x) : ∃ (A : Option Addr) (n c : Nat), cs = [.slice A n c] ∧ n ≤ 9223372036854775807 ∧ CodeIn w A n := by
  obtain ⟨A, n, c, ds, h1, h2, h3, h4⟩ := open_slice_encP (α := Int) (Q := fun u => 0 ≤ u ∧ u ≤ 255) 0 ⟨by decide, by decide⟩ (E := fun u => [Value.int .u8 u]) Tryz.underlying22 cellsOf_u8 (by decide) (fun _ => rfl) (fun n cs x h => by
    obtain ⟨d, hd, _, hw⟩ := DataW.trod_int Tryz.underlying5 h
    refine ⟨d, hd, ?_⟩
    simp [Lit.wf, IntKind.bits, IntKind.signed, IntKind.min, IntKind.max] at hw
    omega) h
  refine ⟨A, n, c, h1, h2, fun hn => ?_⟩
  have hl := h3.count (by decide) (fun _ => rfl)
  obtain ⟨b, off, e, _, hb, hlie⟩ := h3.at' hn
  refine ⟨b, off, e, hb, fun j hj => ?_⟩
  have hj' : j < ds.length := by omega
  refine ⟨ds[j], hlie j _ ?_, h4 _ (List.getElem_mem hj')⟩
  have := flatMap_get (f := fun u => [Value.int .u8 u]) ds (s := 1) (fun _ _ => rfl) j 0 hj' (by decide)
  simpa using this
end
end Go.Proofs.YtkimlajfhepfgaaGreat
