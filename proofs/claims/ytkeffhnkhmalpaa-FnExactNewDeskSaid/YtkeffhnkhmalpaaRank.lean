/- DeskRanking, as the program and as the reference have it. -/
import Derived.Test.YtkeffhnkhmalpaaRankP
import Derived.Test.YtkeffhnkhmalpaaWait
namespace Go.Proofs.Ytkeffhnkhmalpaa
open Go.RowKit

def rankM (d : DeskV) : Option (List Int) := if deskB d then some ((sortR lessR d.done).map DeskRow.number) else none
theorem rankM_len (d : DeskV) : ((rankM d).getD []).length ≤ d.done.length := by
  unfold rankM
  split
  · simp [sortR_length]
  · simp
theorem row_all (xs : List DeskRow) : (xs.flatMap DeskRow.enc).all Value.oneCell' = true := by
  rw [List.all_eq_true]
  intro v hv
  obtain ⟨x, _, h⟩ := List.mem_flatMap.1 hv
  simp only [DeskRow.enc, List.mem_cons, List.not_mem_nil, or_false] at h
  rcases h with rfl | rfl | rfl <;> rfl
theorem SeesFlat.drop {α : Type} {enc : α → List Value} {w : World} {lo s n b : Nat} {xs : List α} (h : Sees w lo s (some ⟨b, 0, none⟩) n (xs.flatMap enc)) (hs : 0 < s) (henc : ∀ x, (enc x).length = s) (k : Nat) (hk : k ≤ n) : Sees w lo s (some ⟨b, k * s, none⟩) (n - k) ((xs.drop k).flatMap enc) := by
  have hl := h.count hs henc
  refine ⟨by rw [flatMap_len _ (fun x _ => henc x), List.length_drop, hl], fun h0 => ?_⟩
  obtain ⟨b', off', e, h1, h2, h3⟩ := h.at' (by omega)
  obtain ⟨rfl, rfl⟩ : b = b' ∧ 0 = off' := by simpa using e
  refine ⟨b, k * s, rfl, h1, h2, fun j u hu => ?_⟩
  have hj : j < (n - k) * s := by
    have := (List.getElem?_eq_some_iff.1 hu).1
    rwa [flatMap_len _ (fun x _ => henc x), List.length_drop, hl] at this
  have h4 := h3 (k * s + j) u (by
    have e1 : xs.flatMap enc = (xs.take k).flatMap enc ++ (xs.drop k).flatMap enc := by rw [← List.flatMap_append, List.take_append_drop]
    rw [e1, List.getElem?_append_right (by rw [flatMap_len _ (fun x _ => henc x), List.length_take]; have : min k xs.length = k := by omega
                                           rw [this]; omega), flatMap_len _ (fun x _ => henc x), List.length_take, show min k xs.length = k by omega, Nat.add_sub_cancel_left, hu])
  rwa [Nat.zero_add] at h4
theorem nums_next (R : List DeskRow) {t : Nat} (ht : t < R.length) : (R.take (t + 1)).map DeskRow.number = (R.take t).map DeskRow.number ++ [R[t].number] := by
  rw [List.take_succ_eq_append_getElem ht, List.map_append]
  rfl
theorem sortR_less (xs : List DeskRow) : sortR (ltOf' cfR) xs = sortR lessR xs := by
  rw [show (ltOf' cfR : DeskRow → DeskRow → Bool) = lessR from funext fun x => funext fun y => lessR_eq x y]

set_option maxRecDepth 100000 in
theorem Clone_DeskRow (A : Option Addr) (n c : Nat) (xs : List DeskRow) (w : World) (hx : Sees w 0 3 A n (xs.flatMap DeskRow.enc)) (hn : n ≤ 1000) :
    Calls Try.prog 63 #[.slice A n c] w fun e w' => ∃ A' c', e = .returned (.slice A' n c') ∧ w'.ownsRow w.heap.size 54 3 (.slice A' n c') n (xs.flatMap DeskRow.enc) ∧ Below w.heap.size w w' := by
  have hnil : ∀ (w : World) (a : Option Addr) (n c n' c' : Nat), (binOp .eql 30 (.slice a n c) (.slice none n' c')).run Try.prog w = .ok (.bool a.isNone) w := fun w a n c n' c' => Lib.run_eql_slice_nil w _ _ a n c n' c' Try.underlying30
  cases A with
  | none =>
    have h0 : n = 0 := by
      rcases Nat.eq_zero_or_pos n with h | h
      · exact h
      · obtain ⟨b, off, e, _⟩ := hx.at' h
        cases e
    subst h0
    have hxs : xs.flatMap DeskRow.enc = [] := List.eq_nil_of_length_eq_zero (by have h := hx.len; omega)
    rw [hxs]
    go_enter Try.func63, Try.ntmps63
    go_wp2_with fail
    go_ret
    exact ⟨none, 0, rfl, World.ownsRow_nil _ _ _ _, Below.refl _ _⟩
  | some a =>
    have U : Below w.heap.size w (w.alloc (.cells #[] 54)) := (Below.refl _ _).alloc (Nat.le_refl _) _
    have O0 := own_empty w 54 3
    have hs := hx.next U
    go_enter Try.func63, Try.ntmps63
    go_wp2_with (at_builtin; go_loud (refine wpList_cat rfl _ _ _ rfl Try.underlying30 info_impl_DeskRow rfl (by decide) rfl O0 rfl hs (row_all _) (by omega) (by omega) (by decide) (by simp) ?_); intro A1 c1 w1 o1 h1 b1 q1)
    simp only [Nat.zero_add, List.nil_append] at o1 ⊢
    go_wp2_with fail
    go_ret
    exact ⟨A1, c1, rfl, o1, U.trans b1⟩

set_option maxRecDepth 100000 in
set_option maxHeartbeats 4000000 in
theorem DeskRanking_any (h : DeskH) (d : DeskV) (w : World) (hs : SeesDesk w 0 h d) (hn : DeskFit 1048576 h d) (hcap : h.n3 ≤ h.c3) :
    Calls Try.prog 29 #[.agg #[.slice h.A0 h.n0 h.c0, .slice h.A1 h.n1 h.c1, .slice h.A2 h.n2 h.c2, .slice h.A3 h.n3 h.c3, .slice h.A4 h.n4 h.c4]] w (GivesInts w (rankM d)) := by
  obtain ⟨A0, n0, c0, A1, n1, c1', A2, n2, c2', A3, n3, c3, A4, n4, c4⟩ := h
  have K0 : Below w.heap.size w (w.alloc (.cells #[.slice A0 n0 c0, .slice A1 n1 c1', .slice A2 n2 c2', .slice A3 n3 c3, .slice A4 n4 c4] 32)) := (Below.refl _ _).alloc (Nat.le_refl _) _
  have P0 : Blk (w.alloc (.cells #[.slice A0 n0 c0, .slice A1 n1 c1', .slice A2 n2 c2', .slice A3 n3 c3, .slice A4 n4 c4] 32)) w.heap.size 32 [.slice A0 n0 c0, .slice A1 n1 c1', .slice A2 n2 c2', .slice A3 n3 c3, .slice A4 n4 c4] := Blk.at_ rfl
  have HL3 := Lib.hid (hs.f3.count (by decide) (fun _ => rfl))
  have hl3a : d.done.length ≤ n3 := by rw [HL3.out]; exact Nat.le_refl _
  have hl3b : n3 ≤ d.done.length := by rw [HL3.out]; exact Nat.le_refl _
  go_enter Try.func29, Try.ntmps29
  go_wp2_with fail
  refine (IsDesk_any ⟨A0, n0, c0, A1, n1, c1', A2, n2, c2', A3, n3, c3, A4, n4, c4⟩ d _ (hs.next K0) hn hcap).mono ?_
  cases g : deskB d
  · rintro e w1 ⟨rfl, b1⟩
    go_wp2_with fail
    go_ret2
    rw [show rankM d = none by simp [rankM, g]]
    exact gives_nil (bel_then K0 b1)
  · rintro e w1 ⟨rfl, b1⟩
    obtain ⟨R, hR⟩ : ∃ R, sortR (ltOf' cfR) d.done = R := ⟨_, rfl⟩
    have HR := Lib.hid (show rankM d = some (R.map DeskRow.number) by simp [rankM, g, ← hR, sortR_less])
    have HRL := Lib.hid (show R.length = n3 by rw [← hR, sortR_length]; exact HL3.out)
    have HRR := Lib.hid hR
    have ht := (deskB_top g).2
    have h10 : n3 ≤ 10 := by omega
    have K1 := bel_then K0 b1
    have P1 := P0.next b1
    have c1 := P1.cell
    have hx1 := (hs.next K1).f3
    clear g K0 P0 b1 ht hR
    go_wp2_with fail
    refine (Clone_DeskRow A3 n3 c3 d.done _ hx1 (by omega)).mono ?_
    rintro e w2 ⟨A, c, rfl, o2, b2⟩
    have K2 := bel_then K1 b2
    have hA2 : ∀ b, OwnB A b → w1.heap.size ≤ b ∧ b < w2.heap.size := fun b hb => own_top o2 hb
    have o3 := own_alloc o2 (.cells #[] 3)
    have u3 := own_empty w2 3 1
    have K3 := K2.alloc K2.size (.cells #[] 3)
    have hz1 := K1.size
    have hz2 := b2.size
    have hz3 : w2.heap.size + 1 ≤ (w2.alloc (.cells #[] 3)).heap.size := by simp
    clear c1 o2 b2 K2 hx1
    go_wp2_with fail
    generalize w2.alloc (.cells #[] 3) = w3 at *
    refine (SortFunc_DeskRow 65 #[] cfR (fun _ => True) w1.heap.size 54 n3 c A d.done _ o3 (by omega) DeskRanking1_compares (fun _ _ => trivial)).mono ?_
    rintro e w4 ⟨rfl, o4, O4⟩
    rw [HRR.out] at o4
    have u4 := own_only u3 O4 (fun b hb hb2 => by have h5 : w2.heap.size = b := (by simpa [OwnB, Value.ownBlock] using hb); have := hA2 b hb2; omega)
    have K4 : Below w.heap.size w w4 := K3.trans (O4.below (fun b hb => by have := hA2 b hb; omega) (by omega))
    have hz4 := O4.size
    clear o3 u3 K3 O4
    go_wp2_with fail
    go_loopw [5, 19] (fun v iv wr => ∃ (t : Nat) (A' : Option Addr) (c' : Nat), t ≤ n3 ∧ iv = .int .i64 (t : Int) ∧ v = .slice A' t c' ∧ wr.ownsRow w2.heap.size 3 1 (.slice A' t c') t (ints ((R.take t).map DeskRow.number)) ∧ wr.ownsRow w1.heap.size 54 3 (.slice A n3 c) n3 (R.flatMap DeskRow.enc) ∧ w3.heap.size ≤ wr.heap.size ∧ Below w.heap.size w wr) (fun _ iv _ => n3 - (intOf iv).toNat)
    case atStart => exact ⟨0, _, 0, Nat.zero_le _, rfl, rfl, u4, o4, hz4, K4⟩
    case round =>
      obtain ⟨t, A', c', ht, rfl, rfl, own, orow, hzr, hb⟩ := hrel
      by_cases hlt : t < n3
      · have htR : t < R.length := by rw [HRL.out]; exact hlt
        obtain ⟨b, off, rfl, hkx, x0, x1, x2⟩ := (Sees.of_own orow).elem3 (fun _ => rfl) hlt
        have HN := Lib.hid (nums_next R htR)
        have hblt := World.block_lt_of_cell? wr _ x0
        have ow := own_alloc own (.cells #[.int .i64 R[t].number, .int .i64 R[t].missing, .int .i64 R[t].time] 54)
        have oro := own_alloc orow (.cells #[.int .i64 R[t].number, .int .i64 R[t].missing, .int .i64 R[t].time] 54)
        have K5 := hb.alloc hb.size (.cells #[.int .i64 R[t].number, .int .i64 R[t].missing, .int .i64 R[t].time] 54)
        have hnp : (t : Int) < (n3 : Int) := by omega
        have hbase : w2.heap.size ≤ (wr.alloc (.cells #[.int .i64 R[t].number, .int .i64 R[t].missing, .int .i64 R[t].time] 54)).heap.size := by simp; omega
        go_wp2_with (at_builtin; go_loud (refine wpList_pushNew rfl _ _ _ rfl Try.underlying22 info_int rfl (by decide) rfl ow rfl (by simp) (by rfl) (by rfl) (by omega) (by decide) hbase ?_); intro A9 c9 w9 o9 h9 b9 q9)
        go_roundw
        case rel => exact ⟨t + 1, A9, c9, by omega, by go_num, rfl, by rw [HN.out]; simpa [ints] using o9, own_only oro h9 (fun b' hb' hb2 => by have h6 := (own_top own hb2).1; have h7 := hA2 b' hb'; omega), by have h8 := h9.size; simp at h8; omega, K5.trans (b9.mono (by omega))⟩
        case measure => simp [intOf]; omega
      · obtain rfl : t = n3 := by omega
        go_wp2_with fail
        go_ret2
        rw [HR.out]
        have e1 : R.take t = R := List.take_of_length_le (by rw [HRL.out]; exact Nat.le_refl _)
        rw [e1] at own
        have e2 : (R.map DeskRow.number).length = t := by rw [List.length_map]; exact HRL.out
        exact ⟨A', c', by show Ending.returned (.tuple #[.slice A' t c', .bool true]) = .returned (.tuple #[.slice A' (R.map DeskRow.number).length c', .bool true]); rw [e2], by show wr.ownsRow w.heap.size 3 1 (.slice A' (R.map DeskRow.number).length c') (R.map DeskRow.number).length (ints (R.map DeskRow.number)); rw [e2]; exact own_low own (by omega), hb⟩

end Go.Proofs.Ytkeffhnkhmalpaa
