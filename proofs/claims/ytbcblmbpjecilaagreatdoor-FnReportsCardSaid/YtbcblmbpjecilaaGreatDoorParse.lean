/- ParseClock, as the program and as the reference have it. -/
import Derived.Test.YtbcblmbpjecilaaGreatDoorPClock
import Derived.Test.YtbcblmbpjecilaaGreatDoorShelfDZDP
namespace Go.Proofs.YtbcblmbpjecilaaGreatDoor
open Go.RowKit

/-- What the row's list of the library's variables gives: internal/bytealg.MaxLen is a number, strconv.ErrSyntax an error. -/
structure GlP (w : World) : Prop where
  len : ∃ m : Int, w.cell? ⟨2, 0, none⟩ = some (.int .i64 m)
  err : ∃ (t : TypeId) (p : Value), w.cell? ⟨0, 0, none⟩ = some (.iface t p)
theorem GlP.next {w w' : World} (h : GlP w) (hb : Below w.heap.size w w') : GlP w' := by
  obtain ⟨⟨m, h1⟩, t, p, h2⟩ := h
  exact ⟨⟨m, (hb.cell (World.block_lt_of_cell? w _ h1)).trans h1⟩, t, p, (hb.cell (World.block_lt_of_cell? w _ h2)).trans h2⟩
def pw60 (k : Nat) : Int := (60 : Int) ^ k
theorem pw60_next (k : Nat) : pw60 (k + 1) = 60 * pw60 k := by unfold pw60; rw [Int.pow_succ]; omega
theorem pw60_pos (k : Nat) : 1 ≤ pw60 k := by
  induction k with
  | zero => decide
  | succ k ih => rw [pw60_next]; omega
theorem pw60_mono {j k : Nat} (h : j ≤ k) : pw60 j ≤ pw60 k := by
  induction h with
  | refl => exact Int.le_refl _
  | step _ ih => rw [pw60_next]; have := pw60_pos j; omega
theorem info_string : (Tryz.prog.info? 9).map (fun i => (i.zero, i.size, i.bytes)) = some (some (.string ByteArray.empty), 1, 16) := by kernel_rfl

set_option maxRecDepth 100000 in
set_option maxHeartbeats 4000000 in
theorem ParseClock_any (s : ByteArray) (w : World) (hs : s.size ≤ 9223372036854775807) (hg : GlP w) :
    Calls Tryz.prog 8 #[.string s] w fun e w' => e = .returned (.tuple #[.int .i64 (parseT s).1, .bool (parseT s).2]) ∧ Below w.heap.size w w' := by
  by_cases h8 : 8 < s.size
  · have HD := Lib.hid (parse_long h8)
    have h8' : (8 : Int) < (s.size : Int) := by omega
    clear hg
    go_enter Tryz.func8, Tryz.ntmps8
    go_wp2_with fail
    go_ret2
    exact ⟨by rw [HD.out]; rfl, Below.refl _ _⟩
  · have h8s : s.size ≤ 8 := by omega
    have h8' : ¬ (8 : Int) < (s.size : Int) := by omega
    obtain ⟨m, hm⟩ := hg.len
    have hwl : (words s).length = Lib.countB s ⟨#[58]⟩ + 1 := Lib.splitB_all _ (by decide) 0 _ s rfl
    have hw9 := words_small h8s
    have HW := Lib.hid (show ∀ x ∈ words s, x.size ≤ 8 from fun x hx => Nat.le_trans (words_sizes hx) h8s)
    have Hg := Lib.hid hg
    have Hm := Lib.hid hm
    have Hws := Lib.hid (show words s = Lib.splitB ⟨#[58]⟩ 0 (Lib.countB s ⟨#[58]⟩) s from rfl)
    clear hg hm h8
    go_enter Tryz.func8, Tryz.ntmps8
    go_wp2_with fail
    refine (sh_strings_Split s ⟨#[58]⟩ m _ (by omega) Hm.out (by decide)).mono ?_
    rintro e w1 ⟨rfl, hw1⟩
    rw [← Hws.out] at hw1
    have b1 : Below w.heap.size w w1 := by rw [hw1]; exact (Below.refl _ _).alloc (Nat.le_refl _) _
    have B1 : Blk w1 w.heap.size 9 ((words s).map Value.string) := by rw [hw1]; exact Blk.at_ rfl
    rw [← hwl]
    have G1 := Lib.hid (Hg.out.next b1)
    clear hw1 hwl
    obtain ⟨ws, hws⟩ : ∃ ws, words s = ws := ⟨_, rfl⟩
    rw [hws] at B1 hw9 HW ⊢
    have HWS := Lib.hid hws
    clear hws Hws
    obtain ⟨N, hN⟩ : ∃ N, ws.length = N := ⟨_, rfl⟩
    rw [hN] at hw9 ⊢
    have HN := Lib.hid hN
    clear hN
    have p9 : pw60 9 = 10077696000000000 := by rfl
    go_wp2_with fail
    go_loopw [4, 15] (fun q i wr => ∃ (k : Nat) (acc : Int), k ≤ N ∧ i = .int .i64 k ∧ q = .int .i64 acc ∧ 0 ≤ acc ∧ acc ≤ pw60 k - 1 ∧ Hid (goW 0 ws = goW acc (ws.drop k)) ∧ Blk wr w.heap.size 9 (ws.map Value.string) ∧ Hid (GlP wr) ∧ Below w.heap.size w wr) (fun _ i _ => N - (intOf i).toNat)
    case atStart => exact ⟨0, 0, Nat.zero_le _, rfl, rfl, Int.le_refl _, by decide, Lib.hid rfl, B1, G1, b1⟩
    case round =>
      obtain ⟨k, acc, hk, rfl, rfl, ha0, ha1, HG, hB, HP, hb⟩ := hrel
      have hm9 := pw60_mono (show k ≤ 9 by omega)
      have hab : acc ≤ 10077696000000000 := by omega
      by_cases hlt : k < N
      · have hlk : k < ws.length := by rw [HN.out]; exact hlt
        have hx8 := HW.out ws[k] (List.getElem_mem hlk)
        have hcell : wr.cell? ⟨w.heap.size, k, none⟩ = some (.string ws[k]) := by rw [hB.cell, List.getElem?_map, List.getElem?_eq_getElem hlk]; rfl
        have HDr := Lib.hid (List.drop_eq_getElem_cons hlk)
        have hpn := Lib.hid (pw60_next k)
        clear p9 hm9
        obtain ⟨x, hx⟩ : ∃ x, ws[k] = x := ⟨_, rfl⟩
        rw [hx] at hx8 hcell HDr
        clear hx
        cases hat : Lib.atoi x.data.toList with
        | none =>
          have HR := Lib.hid (show parseT s = (0, false) from parse_none (by rw [HWS.out, HG.out, HDr.out, goW, hat]))
          have HAT := Lib.hid hat
          clear hat
          obtain ⟨et, ep, hev⟩ := HP.out.err
          have HE := Lib.hid hev
          clear hev
          go_wp2_with fail
          refine (sh_strconv_Atoi_err x (by omega) HAT.out _ _ HE.out (Or.inr ⟨et, ep, rfl⟩)).mono ?_
          rintro e w2 ⟨Nn, rfl, hle, hcl, b2⟩
          clear hle hcl
          go_wp2_with fail
          go_ret2
          exact ⟨by rw [HR.out]; rfl, bel_then hb b2⟩
        | some v =>
          have HAT := Lib.hid hat
          by_cases hv : 0 ≤ v ∧ v ≤ 59
          · have HG2 := Lib.hid (show goW 0 ws = goW (60 * acc + v) (ws.drop (k + 1)) by rw [HG.out, HDr.out, goW, hat]; simp only; rw [if_pos hv])
            have hin : inB v 0 59 = true := by simp [inB, hv.1, hv.2]
            obtain ⟨hv0, hv1⟩ := hv
            clear hat
            go_wp2_with fail
            refine (sh_strconv_Atoi x v (by omega) HAT.out _).mono ?_
            rintro e w2 ⟨rfl, tt, hw2⟩
            have b2 : Below wr.heap.size wr w2 := by rw [hw2]; exact Lib.bytesWorld_below _ _ _
            clear hw2
            go_wp2_with (go_at_call 29; refine (inside_any _ _ _ _).mono ?_; rintro e w' ⟨rfl, rfl⟩)
            go_roundw
            case rel => exact ⟨k + 1, 60 * acc + v, by omega, by go_num, by go_num, by omega, by have := hpn.out; omega, HG2, hB.next b2, Lib.hid (HP.out.next b2), bel_then hb b2⟩
            case measure => simp [intOf]; omega
          · have HR := Lib.hid (show parseT s = (0, false) from parse_none (by rw [HWS.out, HG.out, HDr.out, goW, hat]; simp only; rw [if_neg hv]))
            have hin : inB v 0 59 = false := by unfold inB; rw [Bool.eq_false_iff]; intro h; exact hv (by simpa using h)
            clear hat hv
            go_wp2_with fail
            refine (sh_strconv_Atoi x v (by omega) HAT.out _).mono ?_
            rintro e w2 ⟨rfl, tt, hw2⟩
            have b2 : Below wr.heap.size wr w2 := by rw [hw2]; exact Lib.bytesWorld_below _ _ _
            clear hw2
            go_wp2_with (go_at_call 29; refine (inside_any _ _ _ _).mono ?_; rw [hin]; rintro e w' ⟨rfl, rfl⟩)
            go_ret2
            exact ⟨by rw [HR.out]; rfl, bel_then hb b2⟩
      · obtain rfl : k = N := by omega
        have HS := parse_some h8s (show goW 0 (words s) = some acc by rw [HWS.out, HG.out, List.drop_eq_nil_of_le (by rw [HN.out]; exact Nat.le_refl _), goW])
        clear hlt p9 hm9
        cases hcl : isClock acc s with
        | false =>
          have HR := Lib.hid (HS.2 hcl)
          clear HS
          by_cases hr : 0 ≤ acc ∧ acc ≤ 36000
          · have hin : inB acc 0 36000 = true := by simp [inB, hr.1, hr.2]
            have hne : ((clockT acc.toNat).toList == s.toList) = false := by
              rw [str_beq]
              refine decide_eq_false fun e => ?_
              rw [isClock_mk hr e] at hcl
              cases hcl
            have hz := Lib.hid (show acc = (acc.toNat : Int) by omega)
            have hzn : acc.toNat ≤ 36000 := by omega
            clear hcl hr
            go_wp2_with (go_at_call 23; refine (isTime_any _ _).mono ?_; rw [hin]; rintro e w' ⟨rfl, rfl⟩)
            refine (clockText_any acc.toNat _ _ hz.out hzn).mono ?_
            rintro e w3 ⟨rfl, q3⟩
            go_wp2_with fail
            go_ret2
            exact ⟨by rw [HR.out]; rfl, bel_quiet hb q3⟩
          · have hin : inB acc 0 36000 = false := by unfold inB; rw [Bool.eq_false_iff]; intro h; exact hr (by simpa using h)
            clear hcl hr
            go_wp2_with (go_at_call 23; refine (isTime_any _ _).mono ?_; rw [hin]; rintro e w' ⟨rfl, rfl⟩)
            go_ret2
            exact ⟨by rw [HR.out]; rfl, hb⟩
        | true =>
          have HR := Lib.hid (HS.1 hcl)
          obtain ⟨h0, h1, h2⟩ := isClock_true hcl
          have hin : inB acc 0 36000 = true := by simp [inB, h0, h1]
          have hne : ((clockT acc.toNat).toList == s.toList) = true := by rw [str_beq]; exact decide_eq_true h2
          have hz := Lib.hid (show acc = (acc.toNat : Int) by omega)
          have hzn : acc.toNat ≤ 36000 := by omega
          clear hcl HS h2
          go_wp2_with (go_at_call 23; refine (isTime_any _ _).mono ?_; rw [hin]; rintro e w' ⟨rfl, rfl⟩)
          refine (clockText_any acc.toNat _ _ hz.out hzn).mono ?_
          rintro e w3 ⟨rfl, q3⟩
          go_wp2_with fail
          go_ret2
          exact ⟨by rw [HR.out]; rfl, bel_quiet hb q3⟩

end Go.Proofs.YtbcblmbpjecilaaGreatDoor
