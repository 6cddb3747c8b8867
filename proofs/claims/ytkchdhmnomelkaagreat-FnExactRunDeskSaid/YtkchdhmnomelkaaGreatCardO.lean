/- Nested slices of a call's own at an address with an offset (xs[1:]): what is owned, what is seen, the law's marks. -/
import Derived.Test.YtkchdhmnomelkaaGreatCardM
namespace Go.Proofs.YtkchdhmnomelkaaGreat
open Go.RowKit

/-- Block g from the place off on. -/
def BlkO (w : World) (g off : Nat) (t : TypeId) (cs : List Value) : Prop := ∃ pre : List Value, pre.length = off ∧ Blk w g t (pre ++ cs)
section
variable {w w' : World} {g off : Nat} {t : TypeId} {cs : List Value}
theorem BlkO.of (h : Blk w g t cs) : BlkO w g 0 t cs := ⟨[], rfl, h⟩
theorem BlkO.cellp (h : BlkO w g off t cs) (i p : Nat) (hp : p = off + i) : w.cell? ⟨g, p, none⟩ = cs[i]? := by
  obtain ⟨pre, rfl, h⟩ := h
  subst hp
  rw [h.cell, List.getElem?_append_right (by omega)]
  congr 1
  omega
theorem BlkO.frozen (h : BlkO w g off t cs) (p : Nat) : w.frozen? ⟨g, p, none⟩ = false := by
  obtain ⟨pre, _, h⟩ := h
  exact h.frozen p
theorem BlkO.set_ (h : BlkO w g off t cs) (i p : Nat) (hp : p = off + i) (u : Value) : BlkO (w.setCell ⟨g, p, none⟩ u) g off t (cs.set i u) := by
  obtain ⟨pre, rfl, h⟩ := h
  subst hp
  refine ⟨pre, rfl, ?_⟩
  have h2 := h.set_ (pre.length + i) u
  rwa [List.set_append_right _ _ (by omega), Nat.add_sub_cancel_left] at h2
theorem BlkO.only {T : Nat → Prop} (h : BlkO w g off t cs) (ho : Only T w w') (hT : ¬ T g) : BlkO w' g off t cs := by
  obtain ⟨pre, e, h⟩ := h
  exact ⟨pre, e, h.only ho hT⟩
theorem BlkO.next (h : BlkO w g off t cs) (hb : Below w.heap.size w w') : BlkO w' g off t cs := by
  obtain ⟨pre, e, h⟩ := h
  exact ⟨pre, e, h.next hb⟩
theorem BlkO.lt (h : BlkO w g off t cs) : g < w.heap.size := by
  obtain ⟨pre, _, h⟩ := h
  exact h.lt
end
/-- A slice of structs with one slice inside, of the call's own, wherever it begins in its block. -/
def MineO {α : Type} (sh : Sh α) (w : World) (S : Nat → Prop) (t ti : TypeId) (A : Option Addr) (n : Nat) (xs : List α) : Prop :=
  ∃ rs : List (Hd α), rs.map Hd.x = xs ∧ Inners sh w S ti rs ∧ rs.length = n ∧ (n = 0 ∨ ∃ g off cs, A = some ⟨g, off, none⟩ ∧ S g ∧ BlkO w g off t cs ∧ n * sh.s ≤ cs.length ∧ cs.take (n * sh.s) = rs.flatMap sh.enc ∧ ∀ r ∈ rs, ¬ OwnB r.A g)
section
variable {α : Type} {sh : Sh α} {w w' : World} {S U : Nat → Prop} {t ti : TypeId} {A : Option Addr} {n : Nat} {xs : List α}
theorem MineO.of {c : Nat} (h : MineN sh w S t ti A n c xs) : MineO sh w S t ti A n xs := by
  have hl := h.count
  obtain ⟨rs, hrs, h⟩ := h
  refine ⟨rs, hrs, h.inners, by rw [← hl, ← hrs, List.length_map], ?_⟩
  rcases own_open h.outer.own with ⟨_, h0, _, _⟩ | ⟨g, cur, rfl, hg, hB, hcl, hnc, hcm, htk⟩
  · exact .inl h0
  · exact .inr ⟨g, 0, cur, rfl, h.outer.top g rfl, .of hB, by rw [hcl]; exact Nat.mul_le_mul_right _ hnc, htk, fun r hr hb => h.apart r hr g hb rfl⟩
theorem MineO.empty (w : World) (S : Nat → Prop) (t ti : TypeId) (A : Option Addr) : MineO sh w S t ti A 0 ([] : List α) := ⟨[], rfl, Inners.nil _, rfl, .inl rfl⟩
theorem MineO.next (h : MineO sh w S t ti A n xs) (hb : Below w.heap.size w w') : MineO sh w' S t ti A n xs := by
  obtain ⟨rs, h1, h2, h3, h4⟩ := h
  exact ⟨rs, h1, h2.next hb, h3, h4.imp id fun ⟨g, off, cs, e, hS, hB, r⟩ => ⟨g, off, cs, e, hS, hB.next hb, r⟩⟩
theorem MineO.only (h : MineO sh w S t ti A n xs) (ho : Only U w w') (hS : ∀ b, S b → U b → False) : MineO sh w' S t ti A n xs := by
  obtain ⟨rs, h1, h2, h3, h4⟩ := h
  exact ⟨rs, h1, h2.only ho hS, h3, h4.imp id fun ⟨g, off, cs, e, hg, hB, r⟩ => ⟨g, off, cs, e, hg, hB.only ho (fun hu => hS g hg hu), r⟩⟩
theorem MineO.wide (h : MineO sh w S t ti A n xs) (hS : ∀ b, S b → U b) : MineO sh w U t ti A n xs := by
  obtain ⟨rs, h1, h2, h3, h4⟩ := h
  exact ⟨rs, h1, h2.wide hS, h3, h4.imp id fun ⟨g, off, cs, e, hg, r⟩ => ⟨g, off, cs, e, hS g hg, r⟩⟩
theorem MineO.count (h : MineO sh w S t ti A n xs) : xs.length = n := by
  obtain ⟨rs, rfl, _, h3, _⟩ := h
  rw [List.length_map]; exact h3
theorem MineO.sees (h : MineO sh w S t ti A n xs) : SeesN sh w 0 A n xs := by
  obtain ⟨rs, h1, h2, h3, h4⟩ := h
  refine ⟨rs, h1, ⟨by rw [heads_len, h3], fun h0 => ?_⟩, fun r hr => (h2.each r hr).sees⟩
  rcases h4 with h4 | ⟨g, off, cs, rfl, hS, hB, hle, htk, _⟩
  · omega
  · refine ⟨g, off, rfl, Nat.zero_le _, hB.lt, fun j u hu => ?_⟩
    rw [hB.cellp j _ rfl]
    rw [← htk, List.getElem?_take] at hu
    split at hu
    · exact hu
    · cases hu
end

set_option maxRecDepth 100000 in
set_option maxHeartbeats 1000000 in
theorem markCardO_any (S : Nat → Prop) (n c : Nat) (A : Option Addr) (xs : List Card) (k0 : Int) (w : World) (hM : MineO cardSh w S 43 106 A n xs) (h0 : 0 ≤ k0) (h1 : k0 + wtN Card.wt xs ≤ 1000000000) (hn : n ≤ 1048576) :
    Calls Tryz.prog 40 #[.slice A n c, .int .i64 k0] w fun e w' => e = .returned (.int .i64 (k0 + wtN Card.wt xs)) ∧ MineO cardSh w' S 43 106 A n (marksN Card.mark Card.wt k0 xs) ∧ Only S w w' := by
  have hl := hM.count
  obtain ⟨rs0, hrs0, hin0, hl0, hM⟩ := hM
  rcases hM with rfl | ⟨g, off, cur, rfl, hS, hB, hcl, htk, hag⟩
  · have hx0 : xs = [] := List.length_eq_zero_iff.1 hl
    subst hx0
    go_enter Tryz.func40, Tryz.ntmps40
    go_wp2_with fail
    refine wp_loop_rounds 1 ?_
    rw [rounds_succ]
    go_wp2_with fail
    go_ret
    exact ⟨by simp [wtN], MineO.empty _ _ _ _ _, Only.refl _ _⟩
  · have hcl' : n * 4 ≤ cur.length := hcl
    go_enter Tryz.func40, Tryz.ntmps40
    go_wp2_with fail
    go_loopw [1, 5] (fun q v wr => ∃ (k : Nat) (cs : List Value) (rs : List (Hd Card)), k ≤ n ∧ q = .int .i64 (k0 + wtN Card.wt (xs.take k)) ∧ v = .int .i64 k ∧ BlkO wr g off 43 cs ∧ n * 4 ≤ cs.length ∧ Hid (rs.map Hd.x = marksN Card.mark Card.wt k0 (xs.take k) ++ xs.drop k) ∧ rs.length = n ∧ cs.take (n * 4) = rs.flatMap cardSh.enc ∧ Inners cardSh wr S 106 rs ∧ (∀ r ∈ rs, ¬ OwnB r.A g) ∧ Only S w wr) (fun _ v _ => n - (intOf v).toNat)
    case atStart => exact ⟨0, _, rs0, Nat.zero_le _, by simp [wtN], rfl, hB, hcl', Lib.hid (by simpa [marksN] using hrs0), hl0, htk, hin0, hag, Only.refl _ _⟩
    case round =>
      obtain ⟨k, cs, rs, hk, rfl, rfl, hB, hcl, HR, hrl, hcs, hin, hag, ho⟩ := hrel
      by_cases hlt : k < n
      · have hkx : k < xs.length := by omega
        have hkr : k < rs.length := by omega
        have hrk : rs[k].x = xs[k] := by
          have h2 : (rs.map Hd.x)[k]'(by simpa using hkr) = xs[k] := by
            simp only [HR.out]
            have hlm : (marksN Card.mark Card.wt k0 (xs.take k)).length = k := by rw [marksN_length, List.length_take]; omega
            rw [List.getElem_append_right (by omega)]
            simp [hlm]
          simpa using h2
        have hmi := (hin.each rs[k] (List.getElem_mem hkr))
        rw [hrk] at hmi
        have hagk := hag rs[k] (List.getElem_mem hkr)
        have hsl := hB.cellp (k * 4 + 3) (off + k * 4 + 3) (by omega)
        have hsl2 : cs[k * 4 + 3]? = some (.slice rs[k].A rs[k].n rs[k].c) := by
          have h2 := heads_get (sh := cardSh) rs k 3 hkr (by decide)
          rw [show (cardSh.enc rs[k])[3]? = some (Value.slice rs[k].A rs[k].n rs[k].c) from rfl, ← hcs, List.getElem?_take, if_pos (by show k * 4 + 3 < n * 4; omega)] at h2
          exact h2
        rw [hsl2] at hsl
        have hcnt := hmi.sees.count (by decide) (fun _ => rfl)
        have hwa := wtN_at Card.wt hkx
        have hwn := Lib.hid (wtN_next Card.wt hkx)
        have hw1 : Card.wt xs[k] = rs[k].n * 2 + 3 := by unfold Card.wt; rw [hcnt]
        have hlt4 : k * 4 + 4 ≤ cs.length := by omega
        have HRk := Lib.hid (show rs.set k ⟨Card.mark (k0 + wtN Card.wt (xs.take k)) xs[k], rs[k].A, rs[k].n, rs[k].c⟩ = rs.set k ⟨Card.mark (k0 + wtN Card.wt (xs.take k)) xs[k], rs[k].A, rs[k].n, rs[k].c⟩ from rfl)
        have hfz := hB.frozen
        generalize hK : k0 + (wtN Card.wt (xs.take k) : Int) = K at *
        generalize hm : rs[k].n = m at *
        generalize hrA : rs[k].A = Ak at *
        generalize hrc : rs[k].c = ck at *
        obtain ⟨v0, s0⟩ : ∃ u, wr.cell? ⟨g, off + k * 4, none⟩ = some u := ⟨_, (hB.cellp (k * 4) _ (by omega)).trans (List.getElem?_eq_getElem (by omega))⟩
        obtain ⟨v1, s1⟩ : ∃ u, wr.cell? ⟨g, off + k * 4 + 1, none⟩ = some u := ⟨_, (hB.cellp (k * 4 + 1) _ (by omega)).trans (List.getElem?_eq_getElem (by omega))⟩
        obtain ⟨v2, s2⟩ : ∃ u, wr.cell? ⟨g, off + k * 4 + 2, none⟩ = some u := ⟨_, (hB.cellp (k * 4 + 2) _ (by omega)).trans (List.getElem?_eq_getElem (by omega))⟩
        have hK1 := Lib.hid hK
        have HA := Lib.hid hrA
        have HM := Lib.hid hm
        have HC := Lib.hid hrc
        have HX := Lib.hid hrk
        have H2 := Lib.hid hsl2
        have HCN := Lib.hid hcnt
        have hb1 : 0 ≤ K ∧ K ≤ 1000000000 - (m * 2 + 3) := by omega
        have hm2 : m * 2 ≤ 1000000000 := by omega
        clear hK hrA hm hrc hrk hsl2 hcnt
        go_wp2_with fail
        have B1 := (((hB.set_ (k * 4) (off + k * 4) (by omega) (.int .i64 (K))).set_ (k * 4 + 1) (off + k * 4 + 1) (by omega) (.int .i64 (K + 1))).set_ (k * 4 + 2) (off + k * 4 + 2) (by omega) (.int .i64 (K + 1 + 1)))
        have O1 := (((ho.setCell (p := ⟨g, off + k * 4, none⟩) hS (.int .i64 (K))).setCell (p := ⟨g, off + k * 4 + 1, none⟩) hS (.int .i64 (K + 1))).setCell (p := ⟨g, off + k * 4 + 2, none⟩) hS (.int .i64 (K + 1 + 1)))
        refine (markPunchS_any _ _ _ _ _ _ (K + 1 + 1 + 1) _ (hmi.exact_.only (T := fun b => b = g) (((((Only.refl (fun b => b = g) wr).setCell (p := ⟨g, off + k * 4, none⟩) rfl (.int .i64 (K))).setCell (p := ⟨g, off + k * 4 + 1, none⟩) rfl (.int .i64 (K + 1))).setCell (p := ⟨g, off + k * 4 + 2, none⟩) rfl (.int .i64 (K + 1 + 1)))) (fun b h2 h3 => hagk (h3 ▸ h2))) (by omega) (by omega) (by omega)).mono ?_
        rintro e w1 ⟨rfl, M1, q1⟩
        have B2 := B1.only q1 hagk
        have O2 := O1.trans (q1.mono hmi.top)
        have hfz2 := B2.frozen

        go_wp2_with fail
        have e1 := HA.out
        have e2 := HM.out
        have e3 := HC.out
        have e4 := hK1.out
        subst e1 e2 e3 e4
        have hkl : k * 4 + 4 ≤ cs.length := hlt4
        go_roundw
        case rel =>
          have hin1 := hin.onlyA (T := fun b => b = g) (((((Only.refl (fun b => b = g) wr).setCell (p := ⟨g, off + k * 4, none⟩) rfl (.int .i64 (k0 + ↑(wtN Card.wt (xs.take k))))).setCell (p := ⟨g, off + k * 4 + 1, none⟩) rfl (.int .i64 (k0 + ↑(wtN Card.wt (xs.take k)) + 1))).setCell (p := ⟨g, off + k * 4 + 2, none⟩) rfl (.int .i64 (k0 + ↑(wtN Card.wt (xs.take k)) + 1 + 1)))) (fun r hr b h2 h3 => hag r hr (h3 ▸ h2))
          have hin2 := hin1.set hkr (Card.mark (k0 + wtN Card.wt (xs.take k)) xs[k]) q1 (by show Mine _ _ _ _ _ _ _ ((marksOf Punch.mark 2 (k0 + ↑(wtN Card.wt (xs.take k)) + 1 + 1 + 1) xs[k].punches.length).flatMap Punch.enc); rw [HCN.out]; exact M1)
          have hag2 := heads_apart (y := Card.mark (k0 + wtN Card.wt (xs.take k)) xs[k]) hkr hag
          have hin3 := hin2.onlyA (T := fun b => b = g) ((Only.refl (fun b => b = g) w1)) (fun r hr b h2 h3 => hag2 r hr (h3 ▸ h2))
          have B3 := B2
          have O3 := O2
          refine ⟨k + 1, _, _, by omega, ?_, by go_num, B3, ?_, Lib.hid (heads_marks hkr hkx HR.out), ?_, ?_, hin3, hag2, O3⟩
          rotate_left
          · simp only [List.length_set]; exact hcl
          · rw [List.length_set]; exact hrl
          rotate_left
          · have e2 := hwn.out
            congr 1
            omega
          · rw [← hrl]
            refine heads_set (sh := cardSh) hkr _ (by rw [hrl]; exact hcs) (fun j hj => ?_) (fun j hj => ?_)
            · have e5 := H2.out
              have e6 := HCN.out
              match j, hj with
              | 0, _ => rw [show k * cardSh.s + 0 = k * 4 from rfl, List.getElem?_set_ne (by omega), List.getElem?_set_ne (by omega), List.getElem?_set_self (by first | omega | (simp only [List.length_set]; omega))]; rfl
              | 1, _ => rw [show k * cardSh.s + 1 = k * 4 + 1 from rfl, List.getElem?_set_ne (by omega), List.getElem?_set_self (by first | omega | (simp only [List.length_set]; omega))]; rfl
              | 2, _ => rw [show k * cardSh.s + 2 = k * 4 + 2 from rfl, List.getElem?_set_self (by first | omega | (simp only [List.length_set]; omega))]; rfl
              | 3, _ => rw [show k * cardSh.s + 3 = k * 4 + 3 from rfl, List.getElem?_set_ne (by omega), List.getElem?_set_ne (by omega), List.getElem?_set_ne (by omega)]; exact e5
            · have hj' : ¬ (k * 4 ≤ j ∧ j < k * 4 + 4) := hj
              rw [List.getElem?_set_ne (by omega), List.getElem?_set_ne (by omega), List.getElem?_set_ne (by omega)]
        case measure => simp [intOf]; omega
      · obtain rfl : k = n := by omega
        have e1 : xs.take k = xs := List.take_of_length_le (by omega)
        have e2 : xs.drop k = [] := List.drop_eq_nil_of_le (by omega)
        rw [e1, e2, List.append_nil] at HR
        rw [e1]
        go_wp2_with fail
        go_ret
        exact ⟨rfl, ⟨rs, HR.out, hin, hrl, .inr ⟨g, off, cs, rfl, hS, hB, hcl, hcs, hag⟩⟩, ho⟩


end Go.Proofs.YtkchdhmnomelkaaGreat
