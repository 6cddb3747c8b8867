/- The walk of the law FnLogLines. -/
import Derived.Test.YtjangfhelagjnaaDoorCurK
import Derived.Test.YtjangfhelagjnaaDoorVBig
namespace Go.Proofs.YtjangfhelagjnaaDoor
open Go.RowKit

theorem enc_cases (k : Int) (r : LogRecord) : encRec k r = (⟨#[]⟩, false) ∨ ∃ n : Nat, k = (n : Int) ∧ n < 60 ∧ recB r = true ∧ encRec k r = (lineT n r, true) := by
  unfold encRec
  split
  · rename_i h
    simp only [Bool.and_eq_true] at h
    obtain ⟨h1, h2⟩ := inB_true h.1
    obtain ⟨n, rfl⟩ := Int.eq_ofNat_of_zero_le h1
    exact .inr ⟨n, rfl, by omega, h.2, rfl⟩
  · exact .inl rfl
theorem first_facts {n : Nat} {r : LogRecord} (h : recB r = true) (hn : n < 60) : ∃ (X : Log) (z : Int), recovL (lineT n r) = (X, z, true) ∧ (n ≠ 0 → z = 0) ∧ (n = 0 → 0 < z ∧ X.count = 1) := by
  have h1 := line_size (k := n) h hn
  obtain ⟨h2, h3⟩ := first_line (k := n) h
  refine ⟨_, _, by unfold recovL; rw [if_pos (by omega)], fun h0 => ?_, fun h0 => ?_⟩
  · have := (h2 h0).1; omega
  · obtain ⟨h4, h5⟩ := h3 h0
    exact ⟨by omega, by show ((allR (lineT n r)).l.length : Int) = 1; omega⟩
theorem recov_cases (t : ByteArray) (ht : t.size ≤ 1048576) : ∃ (M : Log) (n : Int) (b : Bool), recovL t = (M, n, b) ∧ M.upto 1048576 ∧ (b = true → validL M = true ∧ syncL M = (M, true)) := by
  have h4 := (allR_ok t).at_
  by_cases h : t.size ≤ 30000
  · have hv := recov_valid t
    have hz : (t.extract 0 (allR t).at_).size = (allR t).at_ := by simp; omega
    refine ⟨_, _, _, by unfold recovL; rw [if_pos h], ?_, fun _ => ⟨hv, ?_⟩⟩
    · unfold Log.upto
      exact ⟨by show (t.extract 0 (allR t).at_).size ≤ _; omega, by show 0 ≤ _; omega⟩
    · unfold syncL
      rw [hv]
      show ((⟨t.extract 0 (allR t).at_ ++ ⟨#[]⟩, ⟨#[]⟩, ((allR t).l.length : Int)⟩ : Log), true) = _
      have h5 : t.extract 0 (allR t).at_ ++ (⟨#[]⟩ : ByteArray) = t.extract 0 (allR t).at_ := ByteArray.append_empty
      rw [h5]
  · exact ⟨_, _, _, by unfold recovL; rw [if_neg h], by unfold Log.upto; exact ⟨by show 0 ≤ _; omega, by show 0 ≤ _; omega⟩, fun h => by cases h⟩

set_option maxRecDepth 100000 in
set_option maxHeartbeats 8000000 in
theorem FnLogLines_any (A : Option Addr) (m c : Nat) (w : World) (hA : CodeIn w A m) (hm : m ≤ 9223372036854775807) (hg : Gl w) :
    Calls Tryd.prog 11 #[.slice A m c] w fun e w' => e = .returned (.bool true) ∧ Below w.heap.size w w' := by
  by_cases hbig : 65536 < m
  · go_enter Tryd.func11, Tryd.ntmps11
    go_wp2_with fail
    refine (vBig_any A m c w hm).mono ?_
    rintro e w' ⟨rfl, rfl⟩
    rw [decide_eq_true hbig]
    go_wp2_with fail
    go_ret
    exact ⟨rfl, Below.refl _ _⟩
  go_enter Tryd.func11, Tryd.ntmps11
  go_wp2_with fail
  refine (vBig_any A m c w hm).mono ?_
  rintro e w' ⟨rfl, rfl⟩
  rw [decide_eq_false hbig]
  go_wp2_with fail
  refine (DrawEncodeRecord_any A m c w hA (by omega)).mono ?_
  rintro e w1 ⟨k, r, rfl, hr, b1⟩
  have hur := LogRecord.upto_mono hr (show 20 ≤ 9223372036854775807 by decide)
  have K2 : Below w.heap.size w (w1.alloc (.cells #[.string r.command, .string r.reply] 27)) := bel_then b1 ((Below.refl _ _).alloc (Nat.le_refl _) _)
  have Er : Blk (w1.alloc (.cells #[.string r.command, .string r.reply] 27)) w1.heap.size 27 [.string r.command, .string r.reply] := Blk.at_ rfl
  clear b1
  obtain ⟨R, hRe⟩ : ∃ R, encRec k r = R := ⟨_, rfl⟩
  have HRe := Lib.hid hRe
  clear hRe
  go_wp2_with fail
  refine (EncodeRecord_any k r _ hur (hg.next K2)).mono ?_
  rw [HRe.out]
  rintro e w3 ⟨rfl, b3⟩
  have K3 := bel_then K2 b3
  replace Er := Er.next b3
  clear b3 K2
  have cEr := Er.cell
  go_wp2_with fail
  refine (specEncodeRecord_any k r _ hur).mono ?_
  rw [HRe.out]
  rintro e w4 ⟨rfl, b4⟩
  have K4 := bel_then K3 b4
  clear b4 K3 cEr Er
  go_wp2_with fail
  refine (DrawRecoverLog_any A m c w4 (hA.next K4) (by omega)).mono ?_
  rintro e w5 ⟨t, rfl, ht, b5⟩
  have K5 := bel_then K4 b5
  clear b5 K4
  obtain ⟨M, n, told, hG, hum, hM⟩ := recov_cases t (by omega)
  have HG := Lib.hid hG
  have HM := Lib.hid hM
  clear hG hM
  go_wp2_with fail
  refine (RecoverLog_any t _ (by omega) (hg.next K5)).mono ?_
  rw [HG.out]
  rintro e w6 ⟨rfl, b6⟩
  have b7 : Below w6.heap.size w6 (w6.alloc (.cells #[.string M.durable, .string M.pending, .int .i64 M.count] 31)) := (Below.refl _ _).alloc (Nat.le_refl _) _
  have K7 := bel_then (bel_then K5 b6) b7
  have Mm : Blk (w6.alloc (.cells #[.string M.durable, .string M.pending, .int .i64 M.count] 31)) w6.heap.size 31 [.string M.durable, .string M.pending, .int .i64 M.count] := Blk.at_ rfl
  clear b6 b7 K5
  go_wp2_with fail
  refine (specRecoverLog_any t _ (by omega)).mono ?_
  rw [HG.out]
  rintro e w8 ⟨rfl, b8⟩
  have b9 : Below w8.heap.size w8 (w8.alloc (.cells #[.string M.durable, .string M.pending, .int .i64 M.count] 31)) := (Below.refl _ _).alloc (Nat.le_refl _) _
  have K9 := bel_then (bel_then K7 b8) b9
  have lt8 := (Mm.next b8).lt
  replace Mm := (Mm.next b8).next b9
  have Mx : Blk (w8.alloc (.cells #[.string M.durable, .string M.pending, .int .i64 M.count] 31)) w8.heap.size 31 [.string M.durable, .string M.pending, .int .i64 M.count] := Blk.at_ rfl
  clear b8 b9 K7
  have cMm := Mm.cell
  have cMx := Mx.cell
  obtain ⟨s, ok⟩ := R
  have sm0 : (s.toList == s.toList) = true := beq_self_eq_true _
  rcases enc_cases k r with he | ⟨nk, rfl, hnk, hrb, he⟩
  · obtain ⟨rfl, rfl⟩ := Prod.mk.inj (HRe.out.symm.trans he)
    clear he HRe
    obtain ⟨X, z, bx, HX⟩ : ∃ X z bx, Hid (recovL ⟨#[]⟩ = (X, z, bx)) := ⟨_, _, _, Lib.hid rfl⟩
    have hs0 : (⟨#[]⟩ : ByteArray).size ≤ 9223372036854775807 := by decide
    go_wp2_with fail
    refine (RecoverLog_any ⟨#[]⟩ _ hs0 (hg.next K9)).mono ?_
    rw [HX.out]
    rintro e w10 ⟨rfl, b10⟩
    have b11 : Below w10.heap.size w10 (w10.alloc (.cells #[.string X.durable, .string X.pending, .int .i64 X.count] 31)) := (Below.refl _ _).alloc (Nat.le_refl _) _
    have K11 := bel_then (bel_then K9 b10) b11
    have lt10 := (Mm.next b10).lt
    clear cMm
    replace Mm := (Mm.next b10).next b11
    have Xx : Blk (w10.alloc (.cells #[.string X.durable, .string X.pending, .int .i64 X.count] 31)) w10.heap.size 31 [.string X.durable, .string X.pending, .int .i64 X.count] := Blk.at_ rfl
    clear b10 b11 K9
    have cMm := Mm.cell
    have cXx := Xx.cell
    cases told
    · go_wp2_with fail
      refine (SyncLog_any M _ hum (hg.next K11)).mono ?_
      obtain ⟨N, hN⟩ : ∃ N, syncL M = N := ⟨_, rfl⟩
      rw [hN]
      clear hN
      rintro e w12 ⟨rfl, b12⟩
      have b13 : Below w12.heap.size w12 (w12.alloc (.cells #[.string N.1.durable, .string N.1.pending, .int .i64 N.1.count] 31)) := (Below.refl _ _).alloc (Nat.le_refl _) _
      have Nn : Blk (w12.alloc (.cells #[.string N.1.durable, .string N.1.pending, .int .i64 N.1.count] 31)) w12.heap.size 31 [.string N.1.durable, .string N.1.pending, .int .i64 N.1.count] := Blk.at_ rfl
      have K13 := bel_then (bel_then K11 b12) b13
      have lt12 := (Mm.next b12).lt
      clear cMm
      replace Mm := (Mm.next b12).next b13
      clear b12 b13
      have cMm := Mm.cell
      have cNn := Nn.cell
      go_wp2_with fail
      go_ret
      exact ⟨rfl, K13⟩
    · have HV := Lib.hid (HM.out rfl)
      clear HM
      have sm1 : (M.durable.toList == M.durable.toList) = true := beq_self_eq_true _
      have sm2 : (M.pending.toList == M.pending.toList) = true := beq_self_eq_true _
      go_wp2_with fail
      refine (SyncLog_any M _ hum (hg.next K11)).mono ?_
      rw [HV.out.2]
      rintro e w12 ⟨rfl, b12⟩
      have b13 : Below w12.heap.size w12 (w12.alloc (.cells #[.string M.durable, .string M.pending, .int .i64 M.count] 31)) := (Below.refl _ _).alloc (Nat.le_refl _) _
      have Nn : Blk (w12.alloc (.cells #[.string M.durable, .string M.pending, .int .i64 M.count] 31)) w12.heap.size 31 [.string M.durable, .string M.pending, .int .i64 M.count] := Blk.at_ rfl
      have K13 := bel_then (bel_then K11 b12) b13
      have lt12 := (Mm.next b12).lt
      clear cMm
      replace Mm := (Mm.next b12).next b13
      clear b12 b13
      have cMm := Mm.cell
      have cNn := Nn.cell
      go_wp2_with fail
      refine (IsValidLog_any M _ hum (hg.next K13)).mono ?_
      rw [HV.out.1]
      rintro e w14 ⟨rfl, b14⟩
      have K14 := bel_then K13 b14
      go_wp2_with fail
      go_ret
      exact ⟨rfl, K14⟩
  · obtain ⟨hs1, rfl⟩ := Prod.mk.inj (HRe.out.symm.trans he)
    clear he HRe
    obtain ⟨X, z, hX, h1, h2⟩ := first_facts (r := r) hrb hnk
    have hsz := line_size (k := nk) hrb hnk
    rw [← hs1] at hX hsz
    have HX := Lib.hid hX
    clear hX hs1
    by_cases hk0 : nk = 0
    · obtain ⟨hz, hc1⟩ := h2 hk0
      subst hk0
      have d1 : (X.count == (1 : Int)) = true := beq_iff_eq.2 hc1
      have d1' : (X.count != (1 : Int)) = false := by rw [bne, d1]; rfl
      clear h1 h2 hc1
      go_wp2_with fail
      refine (RecoverLog_any s _ (by omega) (hg.next K9)).mono ?_
      rw [HX.out]
      rintro e w10 ⟨rfl, b10⟩
      have b11 : Below w10.heap.size w10 (w10.alloc (.cells #[.string X.durable, .string X.pending, .int .i64 X.count] 31)) := (Below.refl _ _).alloc (Nat.le_refl _) _
      have K11 := bel_then (bel_then K9 b10) b11
      have lt10 := (Mm.next b10).lt
      clear cMm
      replace Mm := (Mm.next b10).next b11
      have Xx : Blk (w10.alloc (.cells #[.string X.durable, .string X.pending, .int .i64 X.count] 31)) w10.heap.size 31 [.string X.durable, .string X.pending, .int .i64 X.count] := Blk.at_ rfl
      clear b10 b11 K9
      have cMm := Mm.cell
      have cXx := Xx.cell
      cases told
      · go_wp2_with fail
        refine (SyncLog_any M _ hum (hg.next K11)).mono ?_
        obtain ⟨N, hN⟩ : ∃ N, syncL M = N := ⟨_, rfl⟩
        rw [hN]
        clear hN
        rintro e w12 ⟨rfl, b12⟩
        have b13 : Below w12.heap.size w12 (w12.alloc (.cells #[.string N.1.durable, .string N.1.pending, .int .i64 N.1.count] 31)) := (Below.refl _ _).alloc (Nat.le_refl _) _
        have Nn : Blk (w12.alloc (.cells #[.string N.1.durable, .string N.1.pending, .int .i64 N.1.count] 31)) w12.heap.size 31 [.string N.1.durable, .string N.1.pending, .int .i64 N.1.count] := Blk.at_ rfl
        have K13 := bel_then (bel_then K11 b12) b13
        have lt12 := (Mm.next b12).lt
        clear cMm
        replace Mm := (Mm.next b12).next b13
        clear b12 b13
        have cMm := Mm.cell
        have cNn := Nn.cell
        go_wp2_with fail
        go_ret
        exact ⟨rfl, K13⟩
      · have HV := Lib.hid (HM.out rfl)
        clear HM
        have sm1 : (M.durable.toList == M.durable.toList) = true := beq_self_eq_true _
        have sm2 : (M.pending.toList == M.pending.toList) = true := beq_self_eq_true _
        go_wp2_with fail
        refine (SyncLog_any M _ hum (hg.next K11)).mono ?_
        rw [HV.out.2]
        rintro e w12 ⟨rfl, b12⟩
        have b13 : Below w12.heap.size w12 (w12.alloc (.cells #[.string M.durable, .string M.pending, .int .i64 M.count] 31)) := (Below.refl _ _).alloc (Nat.le_refl _) _
        have Nn : Blk (w12.alloc (.cells #[.string M.durable, .string M.pending, .int .i64 M.count] 31)) w12.heap.size 31 [.string M.durable, .string M.pending, .int .i64 M.count] := Blk.at_ rfl
        have K13 := bel_then (bel_then K11 b12) b13
        have lt12 := (Mm.next b12).lt
        clear cMm
        replace Mm := (Mm.next b12).next b13
        clear b12 b13
        have cMm := Mm.cell
        have cNn := Nn.cell
        go_wp2_with fail
        refine (IsValidLog_any M _ hum (hg.next K13)).mono ?_
        rw [HV.out.1]
        rintro e w14 ⟨rfl, b14⟩
        have K14 := bel_then K13 b14
        go_wp2_with fail
        go_ret
        exact ⟨rfl, K14⟩
    · have hz := h1 hk0
      subst hz
      have d0 : ((nk : Int) == (0 : Int)) = false := beq_eq_false_iff_ne.2 (by omega)
      clear h1 h2
      go_wp2_with fail
      refine (RecoverLog_any s _ (by omega) (hg.next K9)).mono ?_
      rw [HX.out]
      rintro e w10 ⟨rfl, b10⟩
      have b11 : Below w10.heap.size w10 (w10.alloc (.cells #[.string X.durable, .string X.pending, .int .i64 X.count] 31)) := (Below.refl _ _).alloc (Nat.le_refl _) _
      have K11 := bel_then (bel_then K9 b10) b11
      have lt10 := (Mm.next b10).lt
      clear cMm
      replace Mm := (Mm.next b10).next b11
      have Xx : Blk (w10.alloc (.cells #[.string X.durable, .string X.pending, .int .i64 X.count] 31)) w10.heap.size 31 [.string X.durable, .string X.pending, .int .i64 X.count] := Blk.at_ rfl
      clear b10 b11 K9
      have cMm := Mm.cell
      have cXx := Xx.cell
      cases told
      · go_wp2_with fail
        refine (SyncLog_any M _ hum (hg.next K11)).mono ?_
        obtain ⟨N, hN⟩ : ∃ N, syncL M = N := ⟨_, rfl⟩
        rw [hN]
        clear hN
        rintro e w12 ⟨rfl, b12⟩
        have b13 : Below w12.heap.size w12 (w12.alloc (.cells #[.string N.1.durable, .string N.1.pending, .int .i64 N.1.count] 31)) := (Below.refl _ _).alloc (Nat.le_refl _) _
        have Nn : Blk (w12.alloc (.cells #[.string N.1.durable, .string N.1.pending, .int .i64 N.1.count] 31)) w12.heap.size 31 [.string N.1.durable, .string N.1.pending, .int .i64 N.1.count] := Blk.at_ rfl
        have K13 := bel_then (bel_then K11 b12) b13
        have lt12 := (Mm.next b12).lt
        clear cMm
        replace Mm := (Mm.next b12).next b13
        clear b12 b13
        have cMm := Mm.cell
        have cNn := Nn.cell
        go_wp2_with fail
        go_ret
        exact ⟨rfl, K13⟩
      · have HV := Lib.hid (HM.out rfl)
        clear HM
        have sm1 : (M.durable.toList == M.durable.toList) = true := beq_self_eq_true _
        have sm2 : (M.pending.toList == M.pending.toList) = true := beq_self_eq_true _
        go_wp2_with fail
        refine (SyncLog_any M _ hum (hg.next K11)).mono ?_
        rw [HV.out.2]
        rintro e w12 ⟨rfl, b12⟩
        have b13 : Below w12.heap.size w12 (w12.alloc (.cells #[.string M.durable, .string M.pending, .int .i64 M.count] 31)) := (Below.refl _ _).alloc (Nat.le_refl _) _
        have Nn : Blk (w12.alloc (.cells #[.string M.durable, .string M.pending, .int .i64 M.count] 31)) w12.heap.size 31 [.string M.durable, .string M.pending, .int .i64 M.count] := Blk.at_ rfl
        have K13 := bel_then (bel_then K11 b12) b13
        have lt12 := (Mm.next b12).lt
        clear cMm
        replace Mm := (Mm.next b12).next b13
        clear b12 b13
        have cMm := Mm.cell
        have cNn := Nn.cell
        go_wp2_with fail
        refine (IsValidLog_any M _ hum (hg.next K13)).mono ?_
        rw [HV.out.1]
        rintro e w14 ⟨rfl, b14⟩
        have K14 := bel_then K13 b14
        go_wp2_with fail
        go_ret
        exact ⟨rfl, K14⟩

end Go.Proofs.YtjangfhelagjnaaDoor
