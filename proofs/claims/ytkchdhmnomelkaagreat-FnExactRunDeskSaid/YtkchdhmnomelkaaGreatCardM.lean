/- The law's marks of cards: printed by nest.py. -/
import Derived.Test.YtkchdhmnomelkaaGreatCardT
namespace Go.Proofs.YtkchdhmnomelkaaGreat
open Go.RowKit

set_option maxRecDepth 100000 in
set_option maxHeartbeats 1000000 in
theorem markCardS_any (S : Nat → Prop) (n c : Nat) (A : Option Addr) (xs : List Card) (k0 : Int) (w : World) (hM : MineN cardSh w S 43 106 A n c xs) (h0 : 0 ≤ k0) (h1 : k0 + wtN Card.wt xs ≤ 1000000000) (hn : n ≤ 1048576) :
    Calls Tryz.prog 40 #[.slice A n c, .int .i64 k0] w fun e w' => e = .returned (.int .i64 (k0 + wtN Card.wt xs)) ∧ MineN cardSh w' S 43 106 A n c (marksN Card.mark Card.wt k0 xs) ∧ Only S w w' := by
  have hl := hM.count
  obtain ⟨rs0, hrs0, hM⟩ := hM
  rcases own_open hM.outer.own with ⟨rfl, rfl, rfl, hxs⟩ | ⟨g, cur, rfl, hg, hB, hcl, hnc, hcm, htk⟩
  · have hx0 : xs = [] := List.length_eq_zero_iff.1 hl
    subst hx0
    go_enter Tryz.func40, Tryz.ntmps40
    go_wp2_with fail
    refine wp_loop_rounds 1 ?_
    rw [rounds_succ]
    go_wp2_with fail
    go_ret
    exact ⟨by simp [wtN], MineN.nil _ _ _ _, Only.refl _ _⟩
  · have hS : S g := hM.outer.top g rfl
    have hag : ∀ r ∈ rs0, ¬ OwnB r.A g := fun r hr hb => hM.apart r hr g hb rfl
    have hl0 : rs0.length = n := by rw [← hl, ← hrs0, List.length_map]
    have hin0 := hM.inners
    have hcl' : n * 4 ≤ cur.length := by rw [hcl]; exact Nat.mul_le_mul_right _ hnc
    clear hM
    go_enter Tryz.func40, Tryz.ntmps40
    go_wp2_with fail
    go_loopw [1, 5] (fun q v wr => ∃ (k : Nat) (cs : List Value) (rs : List (Hd Card)), k ≤ n ∧ q = .int .i64 (k0 + wtN Card.wt (xs.take k)) ∧ v = .int .i64 k ∧ Blk wr g 43 cs ∧ cs.length = c * 4 ∧ Hid (rs.map Hd.x = marksN Card.mark Card.wt k0 (xs.take k) ++ xs.drop k) ∧ rs.length = n ∧ cs.take (n * 4) = rs.flatMap cardSh.enc ∧ Inners cardSh wr S 106 rs ∧ (∀ r ∈ rs, ¬ OwnB r.A g) ∧ Only S w wr) (fun _ v _ => n - (intOf v).toNat)
    case atStart => exact ⟨0, _, rs0, Nat.zero_le _, by simp [wtN], rfl, hB, hcl, Lib.hid (by simpa [marksN] using hrs0), hl0, htk, hin0, hag, Only.refl _ _⟩
    case round =>
      obtain ⟨k, cs, rs, hk, rfl, rfl, hB, hcl, HR, hrl, hcs, hin, hag, ho⟩ := hrel
      by_cases hlt : k < n
      · have hkx : k < xs.length := by omega
        have hkr : k < rs.length := by omega
        have hrk : rs[k].x = xs[k] := by
          have h2 : (rs.map Hd.x)[k]'(by simpa using hkr) = xs[k] := by
            simp only [HR.out]
            have hlm : (marksN Card.mark Card.wt k0 (xs.take k)).length = k := by rw [marksN_length, List.length_take]; omega
            rw [List.getElem_append_right (by omega)]
            simp [hlm]
          simpa using h2
        have hmi := (hin.each rs[k] (List.getElem_mem hkr))
        rw [hrk] at hmi
        have hagk := hag rs[k] (List.getElem_mem hkr)
        have hsl := hB.cell (k * 4 + 3)
        have hsl2 : cs[k * 4 + 3]? = some (.slice rs[k].A rs[k].n rs[k].c) := by
          have h2 := heads_get (sh := cardSh) rs k 3 hkr (by decide)
          rw [show (cardSh.enc rs[k])[3]? = some (Value.slice rs[k].A rs[k].n rs[k].c) from rfl, ← hcs, List.getElem?_take, if_pos (by show k * 4 + 3 < n * 4; omega)] at h2
          exact h2
        rw [hsl2] at hsl
        have hcnt := hmi.sees.count (by decide) (fun _ => rfl)
        have hwa := wtN_at Card.wt hkx
        have hwn := Lib.hid (wtN_next Card.wt hkx)
        have hw1 : Card.wt xs[k] = rs[k].n * 2 + 3 := by unfold Card.wt; rw [hcnt]
        have hlt4 : k * 4 + 4 ≤ cs.length := by rw [hcl]; omega
        have HRk := Lib.hid (show rs.set k ⟨Card.mark (k0 + wtN Card.wt (xs.take k)) xs[k], rs[k].A, rs[k].n, rs[k].c⟩ = rs.set k ⟨Card.mark (k0 + wtN Card.wt (xs.take k)) xs[k], rs[k].A, rs[k].n, rs[k].c⟩ from rfl)
        have hfz := hB.frozen
        generalize hK : k0 + (wtN Card.wt (xs.take k) : Int) = K at *
        generalize hm : rs[k].n = m at *
        generalize hrA : rs[k].A = Ak at *
        generalize hrc : rs[k].c = ck at *
        obtain ⟨v0, s0⟩ : ∃ u, wr.cell? ⟨g, k * 4, none⟩ = some u := ⟨_, (hB.cell _).trans (List.getElem?_eq_getElem (by omega))⟩
        obtain ⟨v1, s1⟩ : ∃ u, wr.cell? ⟨g, k * 4 + 1, none⟩ = some u := ⟨_, (hB.cell _).trans (List.getElem?_eq_getElem (by omega))⟩
        obtain ⟨v2, s2⟩ : ∃ u, wr.cell? ⟨g, k * 4 + 2, none⟩ = some u := ⟨_, (hB.cell _).trans (List.getElem?_eq_getElem (by omega))⟩
        have hK1 := Lib.hid hK
        have HA := Lib.hid hrA
        have HM := Lib.hid hm
        have HC := Lib.hid hrc
        have HX := Lib.hid hrk
        have H2 := Lib.hid hsl2
        have HCN := Lib.hid hcnt
        have hb1 : 0 ≤ K ∧ K ≤ 1000000000 - (m * 2 + 3) := by omega
        have hm2 : m * 2 ≤ 1000000000 := by omega
        clear hK hrA hm hrc hrk hsl2 hcnt
        go_wp2_with fail
        have B1 := (((hB.set_ (k * 4) (.int .i64 (K))).set_ (k * 4 + 1) (.int .i64 (K + 1))).set_ (k * 4 + 2) (.int .i64 (K + 1 + 1)))
        have O1 := (((ho.setCell (p := ⟨g, k * 4, none⟩) hS (.int .i64 (K))).setCell (p := ⟨g, k * 4 + 1, none⟩) hS (.int .i64 (K + 1))).setCell (p := ⟨g, k * 4 + 2, none⟩) hS (.int .i64 (K + 1 + 1)))
        refine (markPunchS_any _ _ _ _ _ _ (K + 1 + 1 + 1) _ (hmi.exact_.only (T := fun b => b = g) (((((Only.refl (fun b => b = g) wr).setCell (p := ⟨g, k * 4, none⟩) rfl (.int .i64 (K))).setCell (p := ⟨g, k * 4 + 1, none⟩) rfl (.int .i64 (K + 1))).setCell (p := ⟨g, k * 4 + 2, none⟩) rfl (.int .i64 (K + 1 + 1)))) (fun b h2 h3 => hagk (h3 ▸ h2))) (by omega) (by omega) (by omega)).mono ?_
        rintro e w1 ⟨rfl, M1, q1⟩
        have B2 := B1.only q1 hagk
        have O2 := O1.trans (q1.mono hmi.top)
        have hfz2 := B2.frozen

        go_wp2_with fail
        have e1 := HA.out
        have e2 := HM.out
        have e3 := HC.out
        have e4 := hK1.out
        subst e1 e2 e3 e4
        have hkl : k * 4 + 4 ≤ cs.length := hlt4
        go_roundw
        case rel =>
          have hin1 := hin.onlyA (T := fun b => b = g) (((((Only.refl (fun b => b = g) wr).setCell (p := ⟨g, k * 4, none⟩) rfl (.int .i64 (k0 + ↑(wtN Card.wt (xs.take k))))).setCell (p := ⟨g, k * 4 + 1, none⟩) rfl (.int .i64 (k0 + ↑(wtN Card.wt (xs.take k)) + 1))).setCell (p := ⟨g, k * 4 + 2, none⟩) rfl (.int .i64 (k0 + ↑(wtN Card.wt (xs.take k)) + 1 + 1)))) (fun r hr b h2 h3 => hag r hr (h3 ▸ h2))
          have hin2 := hin1.set hkr (Card.mark (k0 + wtN Card.wt (xs.take k)) xs[k]) q1 (by show Mine _ _ _ _ _ _ _ ((marksOf Punch.mark 2 (k0 + ↑(wtN Card.wt (xs.take k)) + 1 + 1 + 1) xs[k].punches.length).flatMap Punch.enc); rw [HCN.out]; exact M1)
          have hag2 := heads_apart (y := Card.mark (k0 + wtN Card.wt (xs.take k)) xs[k]) hkr hag
          have hin3 := hin2.onlyA (T := fun b => b = g) ((Only.refl (fun b => b = g) w1)) (fun r hr b h2 h3 => hag2 r hr (h3 ▸ h2))
          have B3 := B2
          have O3 := O2
          refine ⟨k + 1, _, _, by omega, ?_, by go_num, B3, ?_, Lib.hid (heads_marks hkr hkx HR.out), ?_, ?_, hin3, hag2, O3⟩
          rotate_left
          · simp only [List.length_set]; exact hcl
          · rw [List.length_set]; exact hrl
          rotate_left
          · have e2 := hwn.out
            congr 1
            omega
          · rw [← hrl]
            refine heads_set (sh := cardSh) hkr _ (by rw [hrl]; exact hcs) (fun j hj => ?_) (fun j hj => ?_)
            · have e5 := H2.out
              have e6 := HCN.out
              match j, hj with
              | 0, _ => rw [show k * cardSh.s + 0 = k * 4 from rfl, List.getElem?_set_ne (by omega), List.getElem?_set_ne (by omega), List.getElem?_set_self (by first | omega | (simp only [List.length_set]; omega))]; rfl
              | 1, _ => rw [show k * cardSh.s + 1 = k * 4 + 1 from rfl, List.getElem?_set_ne (by omega), List.getElem?_set_self (by first | omega | (simp only [List.length_set]; omega))]; rfl
              | 2, _ => rw [show k * cardSh.s + 2 = k * 4 + 2 from rfl, List.getElem?_set_self (by first | omega | (simp only [List.length_set]; omega))]; rfl
              | 3, _ => rw [show k * cardSh.s + 3 = k * 4 + 3 from rfl, List.getElem?_set_ne (by omega), List.getElem?_set_ne (by omega), List.getElem?_set_ne (by omega)]; exact e5
            · have hj' : ¬ (k * 4 ≤ j ∧ j < k * 4 + 4) := hj
              rw [List.getElem?_set_ne (by omega), List.getElem?_set_ne (by omega), List.getElem?_set_ne (by omega)]
        case measure => simp [intOf]; omega
      · obtain rfl : k = n := by omega
        have e1 : xs.take k = xs := List.take_of_length_le (by omega)
        have e2 : xs.drop k = [] := List.drop_eq_nil_of_le (by omega)
        rw [e1, e2, List.append_nil] at HR
        rw [e1]
        go_wp2_with fail
        go_ret
        exact ⟨rfl, ⟨rs, HR.out, ⟨own_shut hg hB hcl hnc hcm hcs, fun b hb => by simp only [OwnB, Value.ownBlock, Option.some.injEq] at hb; subst hb; exact hS⟩, hin, fun r hr b h2 h3 => by simp only [OwnB, Value.ownBlock, Option.some.injEq] at h3; subst h3; exact hag r hr h2⟩, ho⟩

end Go.Proofs.YtkchdhmnomelkaaGreat
