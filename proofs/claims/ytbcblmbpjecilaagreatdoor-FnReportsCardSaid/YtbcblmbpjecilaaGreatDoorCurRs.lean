/- The draws of lists of report lines. -/
import Derived.Test.YtbcblmbpjecilaaGreatDoorCurR
import Derived.Test.YtbcblmbpjecilaaGreatDoorRep
namespace Go.Proofs.YtbcblmbpjecilaaGreatDoor
open Go.RowKit

/-- Lines, drawn: in memory of the call's own. -/
def DrawnLs (w : World) (g n : Nat) (e : Ending) (w' : World) : Prop := ∃ (A : Option Addr) (c : Nat) (xs : List ReportLine), e = .returned (.slice A xs.length c) ∧ w'.ownsRow w.heap.size 41 4 (.slice A xs.length c) xs.length (xs.flatMap ReportLine.enc) ∧ xs.length ≤ 14 ∧ (∀ x ∈ xs, x.upto 20) ∧ Cur w' g n ∧ Only (fun b => b = g) w w'
theorem upto_nilR : ∀ x ∈ ([] : List ReportLine), x.upto 20 := fun x hx => absurd hx (by simp)
theorem upto_snocR {xs : List ReportLine} {x : ReportLine} (h : ∀ y ∈ xs, y.upto 20) (hx : x.upto 20) : ∀ y ∈ xs ++ [x], y.upto 20 := fun y hy => by
  rcases List.mem_append.1 hy with hy | hy
  · exact h y hy
  · rw [List.mem_singleton.1 hy]; exact hx
theorem upto_bigR {xs : List ReportLine} (h : ∀ y ∈ xs, y.upto 20) : ∀ y ∈ xs, y.upto 9223372036854775807 := fun y hy => ReportLine.upto_mono (h y hy) (by decide)
theorem snoc_encR (xs : List ReportLine) (x : ReportLine) : (xs ++ [x]).flatMap ReportLine.enc = xs.flatMap ReportLine.enc ++ [.string x.name, .string x.club, .int .i64 x.status, .int .i64 x.time] := by rw [List.flatMap_append]; rfl

theorem one_byteR (w : World) (k : Nat) (hk : k ≤ 12) : Sem.run Tryz.prog (convert 22 9 (.slice (some ⟨w.heap.size, 0, none⟩) 1 1)) (w.alloc (.cells #[.int .u8 (109 - (k : Int))] 5)) = .ok (.string ⟨#[UInt8.ofNat (109 - k)]⟩) (w.alloc (.cells #[.int .u8 (109 - (k : Int))] 5)) :=
  run_convert_bytes_back (P := Tryz.prog) (w.alloc (.cells #[.int .u8 (109 - (k : Int))] 5)) 22 9 5 ⟨w.heap.size, 0, none⟩ 1 [UInt8.ofNat (109 - k)] Tryz.underlying22 Tryz.underlying5 Tryz.underlying9 (fun j hj => by
    obtain rfl : j = 0 := by simpa using hj
    have hB : Blk (w.alloc (.cells #[.int .u8 (109 - (k : Int))] 5)) w.heap.size 5 [.int .u8 (109 - (k : Int))] := Blk.at_ rfl
    have hadd : (⟨w.heap.size, 0, none⟩ : Addr).add 0 = ⟨w.heap.size, 0, none⟩ := by unfold Addr.add; split <;> simp_all
    have hv : (UInt8.ofNat (109 - k)).toNat = 109 - k := by rw [UInt8.toNat_ofNat']; omega
    rw [hadd, hB.cell 0]
    simp only [List.getElem?_cons_zero, List.getElem_cons_zero, hv]
    congr 2
    omega)

set_option maxRecDepth 100000 in
set_option maxHeartbeats 8000000 in
theorem reportLines_any (g n : Nat) (w : World) (h : Cur w g n) (hn : n ≤ 800000) :
    Calls Tryz.prog 48 #[.pointer (some ⟨g, 0, none⟩)] w (DrawnLs w g (n + 400)) := by
  have hg := h.lt
  have U0 : Below w.heap.size w (w.alloc (.cells #[] 41)) := (Below.refl _ _).alloc (Nat.le_refl _) _
  have O0 := own_empty w 41 4
  go_enter Tryz.func48, Tryz.ntmps48
  go_wp2_with fail
  refine (pick_any 8 g n _ (h.next U0) (by omega) (by decide) (by decide)).mono ?_
  rintro e w1 ⟨r, rfl, hr, c1, o1⟩
  have hr7 : r ≤ 7 := hr
  have P1 := (Only.of_below (S := fun b => b = g) U0).trans o1
  have Q1 := own_only O0 o1 (fun b hb (e : b = g) => by have := (own_top O0 hb).1; omega)
  clear U0 O0 o1 hr
  go_wp2_with fail
  go_loopw [3, 4] (fun v i wr => ∃ (k : Nat) (A : Option Addr) (c : Nat) (xs : List ReportLine), i = .int .i64 k ∧ k ≤ 7 ∧ v = .slice A xs.length c ∧ wr.ownsRow w.heap.size 41 4 (.slice A xs.length c) xs.length (xs.flatMap ReportLine.enc) ∧ xs.length + k ≤ 7 ∧ Hid (∀ x ∈ xs, x.upto 20) ∧ Cur wr g (n + 2 + 24 * (7 - k)) ∧ Only (fun b => b = g) w wr) (fun _ i _ => (intOf i).toNat)
  case atStart => exact ⟨r, _, _, [], rfl, hr7, rfl, Q1, by simp; omega, Lib.hid upto_nilR, c1.more (by omega), P1⟩
  case round =>
    obtain ⟨k, A, c, xs, rfl, hk, rfl, hown, hlen, HU, hc, ho⟩ := hrel
    have hz := ho.size
    have hcl := hc.lt
    by_cases hpos : 0 < k
    · obtain ⟨j, rfl⟩ : ∃ j, k = j + 1 := ⟨k - 1, by omega⟩
      have E0 := own_empty wr 41 4
      have UA : Below wr.heap.size wr (wr.alloc (.cells #[] 41)) := (Below.refl _ _).alloc (Nat.le_refl _) _
      have hs0 := ((Sees.of_own hown).less (Nat.zero_le _)).next UA
      go_wp2_with (at_builtin; go_loud (refine wpList_cat rfl _ _ _ rfl Tryz.underlying30 info_impl_ReportLine rfl (by decide) rfl E0 rfl hs0 (line_all _) (by omega) (by omega) (by decide) (by simp) ?_); intro A1 d1 w2 p1 h1 b1 q1)
      simp only [Nat.zero_add, List.nil_append] at p1 ⊢
      have B1 : Below wr.heap.size wr w2 := UA.trans b1
      have O2 : Only (fun b => b = g) w w2 := ho.then_ B1
      have C2 := hc.next B1
      have N2 := own_below hown B1
      have hz2 := B1.size
      clear hs0 UA E0 h1 b1 q1
      go_wp2_with fail
      refine (reportLine_any g _ w2 C2 (by omega)).mono ?_
      rintro e w3 ⟨x, rfl, hx, c3, o3⟩
      have N3 := own_only N2 o3 (fun b hb (e : b = g) => by have := (own_top N2 hb).1; omega)
      have P3 := own_only p1 o3 (fun b hb (e : b = g) => by have := (own_top p1 hb).1; omega)
      have O3 := O2.trans o3
      have hz3 := o3.size
      clear N2 p1 o3 O2 C2 B1
      go_wp2_with (at_builtin; go_loud (refine wpList_pushNew rfl _ _ _ rfl Tryz.underlying30 info_impl_ReportLine rfl (by decide) rfl P3 rfl (by simp) (by rfl) (by rfl) (by omega) (by decide) (by omega) ?_); intro A2 d2 w4 p4 h4 b4 q4)
      have B4 : Only (fun b => b = g) w w4 := ⟨h4.os.trans O3.os, h4.tape.trans O3.tape, h4.output.trans O3.output, Nat.le_trans O3.size h4.size, fun i hi hS => (h4.block i (by omega) (fun hb => by have := (own_top P3 hb).1; omega)).trans (O3.block i hi hS)⟩
      have N4 := own_only N3 h4 (fun b hb hb2 => by
        have h5 := (own_top P3 hb2).1
        have h6 := (own_top hown hb).2
        omega)
      have C4 := c3.keepR h4 (fun hb => by have := (own_top P3 hb).1; omega) (fun b hb => by have := (own_top P3 hb).1; omega)
      have hl1 : xs.length + 1 = (xs ++ [x]).length := by simp
      have p5 := own_base p4 hz
      rw [← snoc_encR, hl1] at p5
      have HX := Lib.hid (upto_snocR HU.out hx)
      have HBG := Lib.hid (upto_bigR HX.out)
      have HV : (Sees w4 0 4 A2 (xs ++ [x]).length ((xs ++ [x]).flatMap ReportLine.enc)) := (Sees.of_own p5).less (Nat.zero_le _)
      rw [hl1]
      have hl2 : (xs ++ [x]).length ≤ 7 := by simp; omega
      have hl3 : (xs ++ [x]).length + j ≤ 7 := by simp; omega
      clear p4 h4 q4 b4 P3 N3 c3 O3 hl1
      generalize xs ++ [x] = ys at *
      have hz4 := B4.size
      go_wp2_with fail
      refine (l26Good_any A2 _ d2 ys _ HV (by omega) HBG.out).mono ?_
      cases hgood : linesB ys
      · rintro e w5 ⟨rfl, b5⟩
        go_wp2_with fail
        refine (one_any 40 g _ w5 (C4.next b5) (by omega) (by decide) (by decide)).mono ?_
        rintro e w6 ⟨yes, rfl, c6, o6⟩
        have O6 := (B4.then_ b5).trans o6
        have N6 := own_only (own_below N4 b5) o6 (fun b hb (e : b = g) => by have := (own_top hown hb).1; omega)
        have p6 := own_only (own_below p5 b5) o6 (fun b hb (e : b = g) => by have := (own_top p5 hb).1; omega)
        cases yes
        · go_wp2_with fail
          go_roundw
          case rel => exact ⟨j, A, c, xs, by go_num, by omega, rfl, N6, by omega, HU, c6.more (by omega), O6⟩
          case measure => simp [intOf]
        · go_wp2_with fail
          go_roundw
          case rel => exact ⟨j, A2, d2, ys, by go_num, by omega, rfl, p6, hl3, HX, c6.more (by omega), O6⟩
          case measure => simp [intOf]
      · rintro e w5 ⟨rfl, b5⟩
        go_wp2_with fail
        go_roundw
        case rel => exact ⟨j, A2, d2, ys, by go_num, by omega, rfl, own_below p5 b5, hl3, HX, (C4.next b5).more (by omega), B4.then_ b5⟩
        case measure => simp [intOf]
    · obtain rfl : k = 0 := by omega
      go_wp2_with fail
      refine (one_any 24 g _ wr hc (by omega) (by decide) (by decide)).mono ?_
      rintro e w2 ⟨yes, rfl, c2, o2⟩
      have N2 := own_only hown o2 (fun b hb (e : b = g) => by have := (own_top hown hb).1; omega)
      have O2 := ho.trans o2
      have hz2 := o2.size
      cases yes
      · go_wp2_with fail
        go_ret
        exact ⟨A, c, xs, rfl, N2, by omega, HU.out, c2.more (by omega), O2⟩
      · have E0 := own_base (own_empty w2 41 4) (show w.heap.size ≤ w2.heap.size by omega)
        have UA : Below w2.heap.size w2 (w2.alloc (.cells #[] 41)) := (Below.refl _ _).alloc (Nat.le_refl _) _
        have C3 := c2.next UA
        have O3 := O2.then_ UA
        clear hown N2 HU hc ho o2 c2 O2 UA
        go_wp2_with fail
        generalize w2.alloc (.cells #[] 41) = w3 at *
        go_loopw [3, 6] (fun v i wr => ∃ (k : Nat) (A : Option Addr) (c : Nat) (xs : List ReportLine), i = .int .i64 k ∧ k ≤ 13 ∧ v = .slice A k c ∧ wr.ownsRow w.heap.size 41 4 (.slice A k c) k (xs.flatMap ReportLine.enc) ∧ Hid (xs.length = k) ∧ Hid (∀ x ∈ xs, x.upto 20) ∧ Cur wr g (n + 172 + 2 * k) ∧ Only (fun b => b = g) w wr) (fun _ i _ => 14 - (intOf i).toNat)
        case atStart => exact ⟨0, _, _, [], rfl, Nat.zero_le _, rfl, E0, Lib.hid rfl, Lib.hid upto_nilR, C3.more (by omega), O3⟩
        case round =>
          obtain ⟨k, A, c, xs, rfl, hk, rfl, hown, hlen, HU, hc, ho⟩ := hrel
          have hz := ho.size
          have hcl := hc.lt
          go_wp2_with fail
          refine (pick_any 2 g _ wr hc (by omega) (by decide) (by decide)).mono ?_
          rintro e w4 ⟨q, rfl, hq, c4, o4⟩
          have hq1 : q ≤ 1 := hq
          have N4 := own_only hown o4 (fun b hb (e : b = g) => by have := (own_top hown hb).1; omega)
          have O4 := ho.trans o4
          have hz4 := o4.size
          clear hq
          by_cases hlt : (k : Int) < 12 + (q : Int)
          · have hk12 : k ≤ 12 := by omega
            have hn4 : (k : Int) ≤ 12 := by omega
            have hcv := one_byteR w4 k hk12
            have BB : Below w4.heap.size w4 (w4.alloc (.cells #[.int .u8 (109 - (k : Int))] 5)) := (Below.refl _ _).alloc (Nat.le_refl _) _
            have N5 := own_below N4 BB
            have C5 := c4.next BB
            have O5 := O4.then_ BB
            clear N4 c4 O4 BB hown hc ho o4
            go_wp2_with (at_builtin; go_loud (refine wpList_pushNew rfl _ _ _ rfl Tryz.underlying30 info_impl_ReportLine rfl (by decide) rfl N5 rfl (by simp) (by rfl) (by rfl) (by omega) (by decide) (by simp; omega) ?_); intro A2 d2 w5 p5 h5 b5 q5)
            have B6 : Only (fun b => b = g) w w5 := ⟨h5.os.trans O5.os, h5.tape.trans O5.tape, h5.output.trans O5.output, Nat.le_trans O5.size h5.size, fun i hi hS => (h5.block i (by have := O5.size; omega) (fun hb => by have := (own_top N5 hb).1; omega)).trans (O5.block i hi hS)⟩
            have C6 := C5.keepR h5 (fun hb => by have := (own_top N5 hb).1; omega) (fun b hb => by have := (own_top N5 hb).1; omega)
            have hl1 : xs.length + 1 = (xs ++ [(⟨⟨#[UInt8.ofNat (109 - k)]⟩, ⟨#[120]⟩, 0, 100 + (k : Int) / 2⟩ : ReportLine)]).length := by simp
            have hu1 : (⟨⟨#[UInt8.ofNat (109 - k)]⟩, ⟨#[120]⟩, 0, 100 + (k : Int) / 2⟩ : ReportLine).upto 20 := ⟨by show 1 ≤ 20; decide, by show 1 ≤ 20; decide⟩
            have HX := Lib.hid (upto_snocR HU.out hu1)
            rw [hlen.out] at hl1
            have p6 : w5.ownsRow w.heap.size 41 4 (.slice A2 (k + 1) d2) (k + 1) ((xs ++ [(⟨⟨#[UInt8.ofNat (109 - k)]⟩, ⟨#[120]⟩, 0, 100 + (k : Int) / 2⟩ : ReportLine)]).flatMap ReportLine.enc) := by rw [snoc_encR]; exact p5
            have HL1 := Lib.hid hl1
            clear hl1 hu1 p5 hcv N5 C5 O5 h5 b5 q5 hlt
            go_roundw
            case rel => exact ⟨k + 1, A2, d2, _, by go_num, by omega, rfl, p6, Lib.hid HL1.out.symm, HX, C6.more (by omega), B6⟩
            case measure => simp [intOf]; omega
          · go_wp2_with fail
            go_ret
            have e := hlen.out
            subst e
            exact ⟨A, c, xs, rfl, N4, by omega, HU.out, c4.more (by omega), O4⟩

end Go.Proofs.YtbcblmbpjecilaaGreatDoor
