/- The library's sort at lines. -/
import Derived.Test.YtbcblmbpjecilaaGreatDoorSortP
import Derived.Test.YtbcblmbpjecilaaGreatDoorLines
import Derived.Test.YtbcblmbpjecilaaGreatDoorShelfDZD
namespace Go.Proofs.YtbcblmbpjecilaaGreatDoor
open Go.RowKit

/-- The library's insertion sort at places a to b of a row. -/
def rowIReportLine (lt : ReportLine → ReportLine → Bool) (xs : List ReportLine) (a i : Nat) : List ReportLine := xs.take a ++ sortR lt ((xs.drop a).take (i - a)) ++ xs.drop i
theorem rowIReportLine_zero (lt : ReportLine → ReportLine → Bool) (xs : List ReportLine) (a : Nat) : rowIReportLine lt xs a a = xs := by
  unfold rowIReportLine
  rw [Nat.sub_self, List.take_zero, sortR_nil, List.append_nil, List.take_append_drop]
theorem rowIReportLine_one (lt : ReportLine → ReportLine → Bool) (xs : List ReportLine) (a : Nat) : rowIReportLine lt xs a (a + 1) = xs := by
  unfold rowIReportLine
  rw [show a + 1 - a = 1 by omega]
  by_cases h : a < xs.length
  · have h1 : xs.drop a = xs[a] :: xs.drop (a + 1) := List.drop_eq_getElem_cons h
    rw [h1, List.take_succ_cons, List.take_zero, sortR_one]
    have h2 := List.take_append_drop a xs
    rw [h1] at h2
    simp
  · rw [List.drop_of_length_le (by omega), List.take_nil, sortR_nil, List.drop_of_length_le (by omega), List.append_nil, List.append_nil, List.take_of_length_le (by omega)]
theorem rowIReportLine_round (lt : ReportLine → ReportLine → Bool) (xs : List ReportLine) (a i : Nat) (hi : i < xs.length) (ha : a ≤ i) :
    (sortR lt ((xs.drop a).take (i - a))).length = i - a ∧ rowIReportLine lt xs a i = xs.take a ++ ((sortR lt ((xs.drop a).take (i - a))).take (i - a) ++ xs[i] :: (sortR lt ((xs.drop a).take (i - a))).drop (i - a)) ++ xs.drop (i + 1) ∧ rowIReportLine lt xs a (i + 1) = xs.take a ++ insR lt (sortR lt ((xs.drop a).take (i - a))) xs[i] ++ xs.drop (i + 1) := by
  have hl : (sortR lt ((xs.drop a).take (i - a))).length = i - a := by rw [sortR_length, List.length_take, List.length_drop]; omega
  refine ⟨hl, ?_, ?_⟩
  · rw [List.take_of_length_le (Nat.le_of_eq hl), List.drop_of_length_le (Nat.le_of_eq hl)]
    have h1 : xs.drop i = xs[i] :: xs.drop (i + 1) := List.drop_eq_getElem_cons hi
    unfold rowIReportLine
    rw [h1]
    simp only [List.append_assoc, List.cons_append, List.nil_append]
  · unfold rowIReportLine
    have h2 : i - a < (xs.drop a).length := by rw [List.length_drop]; omega
    rw [show i + 1 - a = (i - a) + 1 by omega, sortR_next lt h2]
    congr 3
    rw [List.getElem_drop]
    congr 1
    omega
theorem rowIReportLine_mem (lt : ReportLine → ReportLine → Bool) {xs : List ReportLine} {a i : Nat} {x : ReportLine} (h : x ∈ sortR lt ((xs.drop a).take (i - a))) : x ∈ xs := List.mem_of_mem_drop (List.mem_of_mem_take ((sortR_mem lt).1 h))

set_option maxRecDepth 100000 in
set_option maxHeartbeats 8000000 in
theorem insertionSort_ReportLine (g : Nat) (lb : Array Value) (cf : ReportLine → ReportLine → Int) (D : ReportLine → Prop) (blk c n : Nat) (t : TypeId) (xs : List ReportLine) (rest : List Value) (a b : Nat) (w : World) (hB : Blk w blk t (xs.flatMap ReportLine.enc ++ rest)) (hn : xs.length = n) (hn1 : n ≤ 1000) (hab : a ≤ b) (hb : b ≤ n)
    (hc : Compares g lb (fun x : ReportLine => .agg x.enc.toArray) cf D) (hD : ∀ x ∈ xs, D x) :
    Calls Tryz.prog 85 #[.slice (some ⟨blk, 0, none⟩) n c, .int .i64 (a : Int), .int .i64 (b : Int), .func (.func g) #[] lb] w fun e w' => e = .returned (.tuple #[]) ∧ Blk w' blk t ((rowIReportLine (ltOf' cf) xs a b).flatMap ReportLine.enc ++ rest) ∧ Only (fun z => z = blk) w w' := by
  have eg := hc.enters
  have HN := Lib.hid hn
  have HD := Lib.hid hD
  have hB0 := hB
  clear hn hD hB
  go_enter Tryz.func85, Tryz.ntmps85
  go_wp2_with fail
  go_loopw [8] (fun v wr => ∃ (i : Nat) (ys : List ReportLine), v = .int .i64 (i : Int) ∧ a + 1 ≤ i ∧ i ≤ b + 1 ∧ Hid (a < b → i ≤ b) ∧ Hid (ys = rowIReportLine (ltOf' cf) xs a i) ∧ Blk wr blk t (ys.flatMap ReportLine.enc ++ rest) ∧ Only (fun z => z = blk) w wr) (fun v _ => b + 1 - (intOf v).toNat)
  case atStart => exact ⟨a + 1, xs, by go_num, Nat.le_refl _, by omega, Lib.hid (fun h => h), Lib.hid (rowIReportLine_one _ _ _).symm, hB0, Only.refl _ _⟩
  case round =>
    obtain ⟨i, ys, rfl, hai, hib, HIB, HY, B1, o1⟩ := hrel
    clear hB0
    by_cases hlt : i < b
    · have hix : i < xs.length := by rw [HN.out]; omega
      obtain ⟨hP0, hY1, hY2⟩ := rowIReportLine_round (ltOf' cf) xs a i hix (by omega)
      have HDP := Lib.hid (show (∀ x ∈ sortR (ltOf' cf) ((xs.drop a).take (i - a)), D x) ∧ D xs[i] from ⟨fun x hx => HD.out x (rowIReportLine_mem _ hx), HD.out _ (List.getElem_mem hix)⟩)
      have hpre : (xs.take a).length = a := by rw [List.length_take, HN.out]; omega
      have hylen : ys.length = n := by rw [HY.out, hY1]; simp only [List.length_append, List.length_take, List.length_cons, List.length_drop, hP0]; have := HN.out; omega
      obtain ⟨P, hP⟩ : ∃ P, sortR (ltOf' cf) ((xs.drop a).take (i - a)) = P := ⟨_, rfl⟩
      obtain ⟨y, hy⟩ : ∃ y, xs[i] = y := ⟨_, rfl⟩
      obtain ⟨pre, hpr⟩ : ∃ pre, xs.take a = pre := ⟨_, rfl⟩
      obtain ⟨R, hR⟩ : ∃ R, xs.drop (i + 1) = R := ⟨_, rfl⟩
      rw [hP] at hP0 hY1 hY2 HDP
      rw [hy] at hY1 hY2 HDP
      rw [hpr] at hpre hY1 hY2
      rw [hR] at hY1 hY2
      have HY1 := Lib.hid (HY.out.trans hY1)
      have HY2 := Lib.hid hY2
      have HPL := Lib.hid hP0
      have HPR := Lib.hid hpre
      have HYL := Lib.hid hylen
      clear hY1 hY2 hP hy hpr hR HY hP0 hpre hylen hix
      have hai' : a ≤ i := by omega
      go_wp2_with fail
      obtain ⟨wo, hwo⟩ : ∃ wo : World, wo = wr := ⟨_, rfl⟩
      subst hwo
      go_loopw [9] (fun v wx => ∃ (m j : Nat) (zs : List ReportLine), v = .int .i64 (m : Int) ∧ m = a + j ∧ j ≤ i - a ∧ Hid (posR (ltOf' cf) P y P.length = posR (ltOf' cf) P y j) ∧ Hid (zs = pre ++ (P.take j ++ y :: P.drop j) ++ R) ∧ Blk wx blk t (zs.flatMap ReportLine.enc ++ rest) ∧ Only (fun z => z = blk) w wx) (fun v _ => (intOf v).toNat)
      case atStart => exact ⟨i, i - a, ys, rfl, by omega, Nat.le_refl _, Lib.hid (by rw [HPL.out]), HY1, B1, o1⟩
      case round =>
        obtain ⟨m, j, zs, rfl, hm, hj, HP, HZ, B1x, o1x⟩ := hrel
        clear B1 o1
        cases j with
        | zero =>
          have HE := Lib.hid (show rowIReportLine (ltOf' cf) xs a (i + 1) = zs by rw [HY2.out, HZ.out, insR_at _ (show posR (ltOf' cf) P y P.length = 0 from HP.out)])
          have hnot : ¬ a < m := by omega
          clear HP
          go_wp2_with fail
          go_quiet (fail)
          go_wp2_with fail
          go_roundw
          case rel => exact ⟨i + 1, zs, by go_num, by omega, by omega, Lib.hid (fun _ => by omega), Lib.hid HE.out.symm, B1x, o1x.quiet (Quiet.mk _ _)⟩
          case measure => simp [intOf]; omega
        | succ j =>
          obtain ⟨q, rfl⟩ : ∃ q, m = q + 1 := ⟨m - 1, by omega⟩
          have hjP : j < P.length := by rw [HPL.out]; omega
          obtain ⟨L, M, hz1, hz2, hz3⟩ := ins_split (pre := pre) (P := P) (R := R) (row := zs) (e := y) (j := j) (m := q + 1) (by rw [HPR.out]; omega) hjP HZ.out
          have hDy := HDP.out.2
          have hDp := HDP.out.1 P[j] (List.getElem_mem hjP)
          have HT := Lib.hid (fun (h : ltOf' cf y P[j] = true) => HP.out.trans (posR_yes (ltOf' cf) hjP h))
          have HF := Lib.hid (fun (h : ltOf' cf y P[j] = false) => HP.out.trans (posR_no (ltOf' cf) hjP h))
          have hLq : L.length = q := by omega
          subst hz1
          have hlen : (L ++ P[j] :: y :: M).length = n := by
            have h1 := HYL.out
            rw [HY1.out] at h1
            have h2 := congrArg List.length HZ.out
            simp only [List.length_append, List.length_take, List.length_cons, List.length_drop, HPL.out] at h1 h2 ⊢
            omega
          generalize P[j] = p at *
          obtain ⟨gp, gy⟩ := mid_get (L := L) (M := M) (p := p) (e := y)
          rw [hLq] at gp gy
          have hq1 : q + 1 < n := by rw [← hlen]; simp; omega
          have hq0 : q < n := by omega
          have hgt : decide ((a : Int) < (q : Int) + 1) = true := decide_eq_true (by omega)
          have hw1 : IntKind.i64.wrap (q : Int) = (q : Int) := IntWalk.i64_in _ (by omega)
          have hi0 : (0 : Int) ≤ (q : Int) + 1 := by omega
          have hi1 : (q : Int) + 1 < (n : Int) := by omega
          have hi2 : (0 : Int) ≤ (q : Int) := by omega
          have hi3 : (q : Int) < (n : Int) := by omega
          have bq := (Quiet.one wr).below wr.heap.size
          have B2 := B1x.next bq
          have o2 := o1x.quiet (Quiet.one wr)
          have HLEN := Lib.hid hlen
          have e0 : wr.drew.cell? ⟨blk, (q + 1) * 4, none⟩ = some (.string y.name) := row_cell? (enc := ReportLine.enc) (s := 4) (k := q + 1) (fun _ => rfl) B2 gy 0 _ rfl
          have e1 : wr.drew.cell? ⟨blk, (q + 1) * 4 + 1, none⟩ = some (.string y.club) := row_cell? (enc := ReportLine.enc) (s := 4) (k := q + 1) (fun _ => rfl) B2 gy 1 _ rfl
          have e2 : wr.drew.cell? ⟨blk, (q + 1) * 4 + 2, none⟩ = some (.int .i64 y.status) := row_cell? (enc := ReportLine.enc) (s := 4) (k := q + 1) (fun _ => rfl) B2 gy 2 _ rfl
          have e3 : wr.drew.cell? ⟨blk, (q + 1) * 4 + 3, none⟩ = some (.int .i64 y.time) := row_cell? (enc := ReportLine.enc) (s := 4) (k := q + 1) (fun _ => rfl) B2 gy 3 _ rfl
          have p0 : wr.drew.cell? ⟨blk, q * 4, none⟩ = some (.string p.name) := row_cell? (enc := ReportLine.enc) (s := 4) (k := q) (fun _ => rfl) B2 gp 0 _ rfl
          have p1 : wr.drew.cell? ⟨blk, q * 4 + 1, none⟩ = some (.string p.club) := row_cell? (enc := ReportLine.enc) (s := 4) (k := q) (fun _ => rfl) B2 gp 1 _ rfl
          have p2 : wr.drew.cell? ⟨blk, q * 4 + 2, none⟩ = some (.int .i64 p.status) := row_cell? (enc := ReportLine.enc) (s := 4) (k := q) (fun _ => rfl) B2 gp 2 _ rfl
          have p3 : wr.drew.cell? ⟨blk, q * 4 + 3, none⟩ = some (.int .i64 p.time) := row_cell? (enc := ReportLine.enc) (s := 4) (k := q) (fun _ => rfl) B2 gp 3 _ rfl
          have HGP := Lib.hid gp
          have HGY := Lib.hid gy
          have HZ3 := Lib.hid hz3
          have HLq := Lib.hid hLq
          have HM := Lib.hid hm
          clear bq hz2 hz3 hlen gp gy hLq hm HP B1x o1x
          go_wp2_with fail
          go_region_held3 (fun w' => w'.cell? ⟨blk, (q + 1) * 4, none⟩ = some (.string y.name) ∧ w'.cell? ⟨blk, (q + 1) * 4 + 1, none⟩ = some (.string y.club) ∧ w'.cell? ⟨blk, (q + 1) * 4 + 2, none⟩ = some (.int .i64 y.status) ∧ w'.cell? ⟨blk, (q + 1) * 4 + 3, none⟩ = some (.int .i64 y.time) ∧ w'.cell? ⟨blk, q * 4, none⟩ = some (.string p.name) ∧ w'.cell? ⟨blk, q * 4 + 1, none⟩ = some (.string p.club) ∧ w'.cell? ⟨blk, q * 4 + 2, none⟩ = some (.int .i64 p.status) ∧ w'.cell? ⟨blk, q * 4 + 3, none⟩ = some (.int .i64 p.time)) (go_keep)
            (first
              | (refine (hc.at' y p hDy hDp _).mono ?_
                 rintro e w3 ⟨rfl, b3⟩
                 have B3 := B2.next b3
                 have o3 := o2.then_ b3
                 have gp := HGP.out
                 have gy := HGY.out
                 have hlen := HLEN.out
                 clear e0 p0 e1 p1 e2 p2 e3 p3
                 have e0 : w3.cell? ⟨blk, (q + 1) * 4, none⟩ = some (.string y.name) := row_cell? (enc := ReportLine.enc) (s := 4) (k := q + 1) (fun _ => rfl) B3 gy 0 _ rfl
                 have e1 : w3.cell? ⟨blk, (q + 1) * 4 + 1, none⟩ = some (.string y.club) := row_cell? (enc := ReportLine.enc) (s := 4) (k := q + 1) (fun _ => rfl) B3 gy 1 _ rfl
                 have e2 : w3.cell? ⟨blk, (q + 1) * 4 + 2, none⟩ = some (.int .i64 y.status) := row_cell? (enc := ReportLine.enc) (s := 4) (k := q + 1) (fun _ => rfl) B3 gy 2 _ rfl
                 have e3 : w3.cell? ⟨blk, (q + 1) * 4 + 3, none⟩ = some (.int .i64 y.time) := row_cell? (enc := ReportLine.enc) (s := 4) (k := q + 1) (fun _ => rfl) B3 gy 3 _ rfl
                 have p0 : w3.cell? ⟨blk, q * 4, none⟩ = some (.string p.name) := row_cell? (enc := ReportLine.enc) (s := 4) (k := q) (fun _ => rfl) B3 gp 0 _ rfl
                 have p1 : w3.cell? ⟨blk, q * 4 + 1, none⟩ = some (.string p.club) := row_cell? (enc := ReportLine.enc) (s := 4) (k := q) (fun _ => rfl) B3 gp 1 _ rfl
                 have p2 : w3.cell? ⟨blk, q * 4 + 2, none⟩ = some (.int .i64 p.status) := row_cell? (enc := ReportLine.enc) (s := 4) (k := q) (fun _ => rfl) B3 gp 2 _ rfl
                 have p3 : w3.cell? ⟨blk, q * 4 + 3, none⟩ = some (.int .i64 p.time) := row_cell? (enc := ReportLine.enc) (s := 4) (k := q) (fun _ => rfl) B3 gp 3 _ rfl
                 clear b3 gp gy hlen))
          clear B2 o2
          cases hlt2 : ltOf' cf y p
          · have hlt3 : ¬ cf y p < 0 := by simpa [ltOf'] using hlt2
            have HE := Lib.hid (show rowIReportLine (ltOf' cf) xs a (i + 1) = L ++ p :: y :: M by rw [HY2.out, insR_at _ (HF.out hlt2)]; exact HZ.out.symm)
            clear hlt2
            go_wp2_with fail
            go_roundw
            case rel => exact ⟨i + 1, _, by go_num, by omega, by omega, Lib.hid (fun _ => by omega), Lib.hid HE.out.symm, B3, o3⟩
            case measure => simp [intOf]; omega
          · have hlt3 : cf y p < 0 := by simpa [ltOf'] using hlt2
            have HTT := Lib.hid (HT.out hlt2)
            clear hlt2 hw1
            have fe0 := B3.frozen ((q + 1) * 4)
            have fp0 := B3.frozen (q * 4)
            have fe1 := B3.frozen ((q + 1) * 4 + 1)
            have fp1 := B3.frozen (q * 4 + 1)
            have fe2 := B3.frozen ((q + 1) * 4 + 2)
            have fp2 := B3.frozen (q * 4 + 2)
            have fe3 := B3.frozen ((q + 1) * 4 + 3)
            have fp3 := B3.frozen (q * 4 + 3)
            have hw1 : IntKind.i64.wrap (q : Int) = (q : Int) := IntWalk.i64_in _ (by omega)
            go_wp2_with fail
            go_region
            all_goals
              go_wp2_with fail
              go_roundw
              case rel =>
                have B5 := (Blk.many (ReportLine.enc p) B3 ((q + 1) * 4)).many (ReportLine.enc y) (q * 4)
                rw [row_set (enc := ReportLine.enc) (s := 4) (fun _ => rfl) _ _ (q + 1) p (by rw [HLEN.out]; omega), row_set (enc := ReportLine.enc) (s := 4) (fun _ => rfl) _ _ q y (by rw [List.length_set, HLEN.out]; omega), swap_at HLq.out] at B5
                have O5 := Only.many (S := fun z => z = blk) (g := blk) rfl (ReportLine.enc y) (Only.many (S := fun z => z = blk) (g := blk) rfl (ReportLine.enc p) o3 ((q + 1) * 4)) (q * 4)
                have hm := HM.out
                exact ⟨q, j, _, by go_num, by omega, by omega, HTT, Lib.hid HZ3.out.symm, B5.quiet (Quiet.one _), O5.quiet (Quiet.one _)⟩
              case measure => simp [intOf]
    · have HE := Lib.hid (show ys = rowIReportLine (ltOf' cf) xs a b by
        rw [HY.out]
        by_cases h : a < b
        · have := HIB.out h
          obtain rfl : i = b := by omega
          rfl
        · obtain rfl : a = b := by omega
          obtain rfl : i = a + 1 := by omega
          rw [rowIReportLine_one, rowIReportLine_zero])
      go_wp2_with fail
      go_end0
      exact ⟨rfl, by rw [← HE.out]; exact B1, o1⟩

theorem isNaN_int (a : Int) (w : World) : Calls Tryz.prog 73 #[.int .i64 a] w fun e w' => e = .returned (.bool false) ∧ w = w' := by
  go_enter Tryz.func73, Tryz.ntmps73
  go_wp2
  go_ret
  exact ⟨ret_bool (by simp), rfl⟩
theorem Compare_int (a b : Int) (w : World) : Calls Tryz.prog 52 #[.int .i64 a, .int .i64 b] w fun e w' => e = .returned (.int .i64 (cmpI a b)) ∧ w = w' := by
  by_cases h1 : a < b
  · go_enter Tryz.func52, Tryz.ntmps52
    go_wp2_with (go_at_call 73; refine (isNaN_int _ _).mono ?_; rintro e w' ⟨rfl, rfl⟩)
    go_ret
    exact ⟨ret_int (by unfold cmpI; rw [if_pos h1]), rfl⟩
  · by_cases h2 : b < a
    · go_enter Tryz.func52, Tryz.ntmps52
      go_wp2_with (go_at_call 73; refine (isNaN_int _ _).mono ?_; rintro e w' ⟨rfl, rfl⟩)
      go_ret
      exact ⟨ret_int (by unfold cmpI; rw [if_neg (by omega), if_pos h2]), rfl⟩
    · go_enter Tryz.func52, Tryz.ntmps52
      go_wp2_with (go_at_call 73; refine (isNaN_int _ _).mono ?_; rintro e w' ⟨rfl, rfl⟩)
      go_ret
      exact ⟨ret_int (by unfold cmpI; rw [if_neg (by omega), if_neg (by omega)]), rfl⟩
theorem orI_drop {l : List Int} {k : Nat} (hk : k < l.length) : orI (l.drop k) = if l[k] ≠ 0 then l[k] else orI (l.drop (k + 1)) := by
  have h : l.drop k = l[k] :: l.drop (k + 1) := List.drop_eq_getElem_cons hk
  rw [h]; rfl
theorem Or_int (A : Option Addr) (n c : Nat) (xs : List Int) (w : World) (hx : Sees w 0 1 A n (ints xs)) (hn : n ≤ 1000) :
    Calls Tryz.prog 51 #[.slice A n c] w fun e w' => e = .returned (.int .i64 (orI xs)) ∧ w = w' := by
  have hl := hx.icount
  go_enter Tryz.func51, Tryz.ntmps51
  go_wp2_with fail
  go_loop [8] (fun v => ∃ k : Nat, k ≤ n ∧ v = .int .i64 (k : Int) ∧ Hid (orI xs = orI (xs.drop k))) (fun v => n - (intOf v).toNat)
  case atStart => exact ⟨0, Nat.zero_le _, rfl, Lib.hid rfl⟩
  case round =>
    obtain ⟨k, hk, rfl, HO⟩ := hrel
    by_cases hlt : k < n
    · obtain ⟨b, off, rfl, hkx, hcx⟩ := hx.int hlt
      have ho := HO.out.trans (orI_drop hkx)
      generalize xs[k] = y at *
      by_cases h0 : y = 0
      · subst h0
        have HO2 := Lib.hid (ho.trans (if_neg (by simp)))
        clear ho
        go_wp2_with fail
        go_round
        case rel => exact ⟨k + 1, by omega, by go_num, HO2⟩
        case measure => simp [intOf]; omega
      · have HO2 := Lib.hid (ho.trans (if_pos h0))
        have hb : (y != 0) = true := by simp [h0]
        clear ho
        go_wp2_with fail
        go_ret
        exact ⟨ret_int HO2.out.symm, rfl⟩
    · have HO2 := Lib.hid (show orI xs = 0 by rw [HO.out, List.drop_of_length_le (by omega)]; rfl)
      go_wp2_with fail
      go_ret
      exact ⟨ret_int HO2.out.symm, rfl⟩

theorem insertionSort0_ReportLine (A : Option Addr) (g : Nat) (lb : Array Value) (c : Nat) (w : World) : Calls Tryz.prog 85 #[.slice A 0 c, .int .i64 0, .int .i64 0, .func (.func g) #[] lb] w fun e w' => e = .returned (.tuple #[]) ∧ w = w' := by
  go_enter Tryz.func85, Tryz.ntmps85
  go_wp2
  refine wp_loop_rounds 1 ?_
  rw [rounds_succ]
  go_wp2
  go_end0
  exact ⟨rfl, rfl⟩
theorem own_row {w : World} {base t s n c : Nat} {A : Option Addr} {cs : List Value} (h : w.ownsRow base t s (.slice A n c) n cs) : (A = none ∧ n = 0 ∧ c = 0 ∧ cs = []) ∨ ∃ (g : Nat) (rest : List Value), A = some ⟨g, 0, none⟩ ∧ base ≤ g ∧ Blk w g t (cs ++ rest) ∧ (cs ++ rest).length = c * s ∧ n ≤ c ∧ c ≤ maxLen := by
  rcases own_open h with h1 | ⟨g, cur, h1, h2, h3, h4, h5, h6, h7⟩
  · exact .inl h1
  · refine .inr ⟨g, cur.drop (n * s), h1, h2, ?_, ?_, h5, h6⟩
    · rw [← h7, List.take_append_drop]; exact h3
    · rw [← h7, List.take_append_drop]; exact h4
theorem own_row_mk {w : World} {base t s n c g : Nat} {cs rest : List Value} (hg : base ≤ g) (hB : Blk w g t (cs ++ rest)) (hl : (cs ++ rest).length = c * s) (hn : n ≤ c) (hm : c ≤ maxLen) (hc : cs.length = n * s) : w.ownsRow base t s (.slice (some ⟨g, 0, none⟩) n c) n cs :=
  own_shut hg hB hl hn hm (by rw [← hc, List.take_left'] ; rfl)
set_option maxRecDepth 100000 in
set_option maxHeartbeats 1000000 in
theorem pdqsort_ReportLine (g : Nat) (lb : Array Value) (cf : ReportLine → ReportLine → Int) (D : ReportLine → Prop) (base t n c : Nat) (A : Option Addr) (lim : Int) (xs : List ReportLine) (w : World) (hO : w.ownsRow base t 4 (.slice A n c) n (xs.flatMap ReportLine.enc)) (hn1 : n ≤ 12)
    (hc : Compares g lb (fun x : ReportLine => .agg x.enc.toArray) cf D) (hD : ∀ x ∈ xs, D x) :
    Calls Tryz.prog 71 #[.slice A n c, .int .i64 0, .int .i64 (n : Int), .int .i64 lim, .func (.func g) #[] lb] w fun e w' => e = .returned (.tuple #[]) ∧ w'.ownsRow base t 4 (.slice A n c) n ((sortR (ltOf' cf) xs).flatMap ReportLine.enc) ∧ Only (OwnB A) w w' := by
  have hlen : xs.length = n := by
    have h1 := hO.1
    rw [flatMap_len (f := ReportLine.enc) (s := 4) xs (fun _ _ => rfl)] at h1
    exact Nat.eq_of_mul_eq_mul_right (by decide) h1
  have hlen2 : ((sortR (ltOf' cf) xs).flatMap ReportLine.enc).length = n * 4 := by rw [flatMap_len (f := ReportLine.enc) (s := 4) _ (fun _ _ => rfl), sortR_length, hlen]
  rcases own_row hO with ⟨rfl, rfl, rfl, _⟩ | ⟨blk, rest, rfl, hg, hB, hl, hnc, hm⟩
  · have hx : xs = [] := List.eq_nil_of_length_eq_zero hlen
    subst hx
    clear hO hlen hlen2
    go_enter Tryz.func71, Tryz.ntmps71
    go_wp2_with fail
    refine wp_loop_rounds 1 ?_
    rw [rounds_succ]
    go_wp2_with fail
    refine (insertionSort0_ReportLine _ _ _ _ _).mono ?_
    rintro e w' ⟨rfl, rfl⟩
    go_wp2_with fail
    exact bodyPost_ret (v := .tuple #[]) (by simp [results, Tryz.results71, go_sem]) rfl ⟨rfl, World.ownsRow_nil _ _ _ _, Only.refl _ _⟩
  · have HD := Lib.hid hD
    have HL := Lib.hid hlen
    have HL2 := Lib.hid hlen2
    have HLL := Lib.hid hl
    have hl2 := flatMap_len xs (fun (x : ReportLine) _ => show x.enc.length = 4 from rfl)
    have hl3 := flatMap_len (sortR (ltOf' cf) xs) (fun (x : ReportLine) _ => show x.enc.length = 4 from rfl)
    rw [sortR_length] at hl3
    have HL3 := Lib.hid (show ((sortR (ltOf' cf) xs).flatMap ReportLine.enc ++ rest).length = c * 4 by rw [List.length_append, hl3, ← hl2, ← List.length_append]; exact hl)
    clear hO hD hlen hlen2 hl hl2 hl3
    have hn5 : (n : Int) ≤ 12 := by omega
    go_enter Tryz.func71, Tryz.ntmps71
    go_wp2_with fail
    refine wp_loop_rounds 1 ?_
    rw [rounds_succ]
    go_wp2_with fail
    refine (insertionSort_ReportLine g lb cf D blk c n t xs rest 0 n _ hB HL.out (by omega) (Nat.zero_le _) (Nat.le_refl _) hc HD.out).mono ?_
    rintro e w1 ⟨rfl, B1, o1⟩
    go_wp2_with fail
    refine bodyPost_ret (v := .tuple #[]) (by simp [results, Tryz.results71, go_sem]) rfl ⟨rfl, own_row_mk hg (?_ : Blk w1 blk t (_ ++ rest)) HL3.out hnc hm HL2.out, o1.mono fun k hk => by subst hk; rfl⟩
    have h1 : rowIReportLine (ltOf' cf) xs 0 n = sortR (ltOf' cf) xs := by
      unfold rowIReportLine
      have h2 := HL.out
      rw [Nat.sub_zero, List.take_zero, List.drop_zero, List.nil_append, List.take_of_length_le (by omega), List.drop_of_length_le (by omega), List.append_nil]
    rw [h1] at B1
    exact B1
set_option maxRecDepth 100000 in
theorem SortFunc_ReportLine (g : Nat) (lb : Array Value) (cf : ReportLine → ReportLine → Int) (D : ReportLine → Prop) (base t n c : Nat) (A : Option Addr) (xs : List ReportLine) (w : World) (hO : w.ownsRow base t 4 (.slice A n c) n (xs.flatMap ReportLine.enc)) (hn1 : n ≤ 12)
    (hc : Compares g lb (fun x : ReportLine => .agg x.enc.toArray) cf D) (hD : ∀ x ∈ xs, D x) :
    Calls Tryz.prog 49 #[.slice A n c, .func (.func g) #[] lb] w fun e w' => e = .returned (.tuple #[]) ∧ w'.ownsRow base t 4 (.slice A n c) n ((sortR (ltOf' cf) xs).flatMap ReportLine.enc) ∧ Only (OwnB A) w w' := by
  have HD := Lib.hid hD
  clear hD
  go_enter Tryz.func49, Tryz.ntmps49
  go_wp2_with fail
  refine (sh_bits_Len _ _ (by omega) (by omega)).mono ?_
  rintro e w' ⟨rfl, rfl⟩
  go_wp2_with fail
  refine (pdqsort_ReportLine g lb cf D base t n c A _ xs _ hO hn1 hc HD.out).mono ?_
  rintro e w1 ⟨rfl, o1, q1⟩
  go_wp2_with fail
  go_end0
  exact ⟨rfl, o1, q1⟩

theorem setCells_many (g : Nat) : ∀ (vs : List Value) (i : Nat) (w : World), w.setCells g i vs = setManyW w g i vs
  | [], _, _ => rfl
  | v :: vs, i, w => by
    rw [World.setCells, setManyW, setCells_many g vs (i + 1)]
theorem run_clear {P : Program} (w : World) (t e : TypeId) (z : Value) (s : Nat) (ht : P.underlying t = some (.slice e)) (hv : ∀ w, (zeroValue e).run P w = .ok z w) (hz : z.cells.size = s) (h1 : ∀ v ∈ z.cells, v.oneCell' = true) (b o n c : Nat) (hn : 0 < n) (cs : List Value) (tt : TypeId) (hB : Blk w b tt cs) (hr : o + n * s ≤ cs.length) :
    ∃ zs : List Value, zs.length = n * s ∧ ∀ ty, (Builtin.clear_ #[t] ty #[.slice (some ⟨b, o, none⟩) n c]).run P w = .ok (.tuple #[]) (setManyW w b o zs) := by
  refine ⟨(Builtin.zeroCells z.cells n).toList, by simp [Builtin.zeroCells, hz], fun ty => ?_⟩
  have hlen : (Builtin.zeroCells z.cells n).toList.length = n * s := by simp [Builtin.zeroCells, hz]
  have hst := run_storeCells_cells (P := P) b o (Builtin.zeroCells z.cells n).toList 0 w (fun j hj => by rw [Nat.add_zero, hB.cell, List.getElem?_eq_getElem (by omega)]; rfl) (fun j _ => hB.frozen _) (fun v hv' => by
    simp only [Builtin.zeroCells, Array.toList_map, Array.toList_range, List.mem_map, List.mem_range] at hv'
    obtain ⟨i, hi, rfl⟩ := hv'
    have hp : 0 < z.cells.size := by rcases Nat.eq_zero_or_pos z.cells.size with h | h; · rw [h] at hi; omega
                                     · exact h
    have hm := Nat.mod_lt i hp
    rw [getElem!_pos z.cells _ hm]
    exact h1 _ (Array.getElem_mem hm))
  simp only [Nat.add_zero] at hst
  rw [setCells_many] at hst
  obtain ⟨m, rfl⟩ : ∃ m, n = m + 1 := ⟨n - 1, by omega⟩
  simp [Builtin.clear_, run_underlying ht, hv, hst]
/-- The function value answers p at each element, in every world in which blocks of S alone have changed. -/
structure AnswersO {α : Type} (g : Nat) (lb : Array Value) (enc : α → Value) (p : α → Bool) (xs : List α) (S : Nat → Prop) (w : World) : Prop where
  enters : ∀ args w, (callFunc g args).run Tryz.prog w = .ok (.enter g args) w
  at' : ∀ (x : α), x ∈ xs → ∀ W : World, Only S w W → Calls Tryz.prog g (#[enc x] ++ lb) W fun e W' => e = .returned (.bool (p x)) ∧ Below W.heap.size W W'
theorem AnswersO.plain {α : Type} {g : Nat} {lb : Array Value} {enc : α → Value} {p : α → Bool} {xs : List α} {S : Nat → Prop} {w : World} (h : AnswersO g lb enc p xs S w) : Answers g lb enc p xs w :=
  ⟨h.enters, fun i hi W hb => h.at' xs[i] (List.getElem_mem hi) W (Only.of_below hb)⟩
theorem setMany_before {α : Type} (vs cs : List α) (k : Nat) (h : k + vs.length ≤ cs.length) : (setMany cs k vs).take k = cs.take k := by
  refine List.ext_getElem? fun j => ?_
  rw [List.getElem?_take, List.getElem?_take]
  by_cases hj : j < k
  · rw [if_pos hj, if_pos hj, setMany_get _ _ _ _ h, if_neg (by omega)]
  · rw [if_neg hj, if_neg hj]
theorem row_take {α : Type} {enc : α → List Value} {s : Nat} (henc : ∀ x, (enc x).length = s) (ys : List α) (rest : List Value) (i : Nat) (hi : i ≤ ys.length) : (ys.flatMap enc ++ rest).take (i * s) = (ys.take i).flatMap enc := by
  have e1 : ys.flatMap enc ++ rest = (ys.take i).flatMap enc ++ ((ys.drop i).flatMap enc ++ rest) := by rw [← List.append_assoc, ← List.flatMap_append, List.take_append_drop]
  rw [e1, List.take_left' (by rw [flatMap_len _ (fun x _ => henc x), List.length_take, show min i ys.length = i by omega])]
theorem filter_next {α : Type} {p : α → Bool} {xs : List α} {k : Nat} (hk : k < xs.length) : (xs.take (k + 1)).filter p = if p xs[k] then (xs.take k).filter p ++ [xs[k]] else (xs.take k).filter p := by
  rw [List.take_succ_eq_append_getElem hk, List.filter_append]
  by_cases h : p xs[k] <;> simp [h]
theorem take_set_snoc {α : Type} {ys : List α} {i : Nat} (v : α) (hi : i < ys.length) : (ys.set i v).take (i + 1) = ys.take i ++ [v] := by
  rw [List.take_succ_eq_append_getElem (by simpa using hi), List.take_set_of_le (Nat.le_refl i)]
  simp

set_option maxRecDepth 100000 in
set_option maxHeartbeats 4000000 in
theorem DeleteFunc_ReportLine (g : Nat) (lb : Array Value) (p : ReportLine → Bool) (base t n c : Nat) (A : Option Addr) (xs : List ReportLine) (w : World) (hO : w.ownsRow base t 4 (.slice A n c) n (xs.flatMap ReportLine.enc)) (hn1 : n ≤ 1000)
    (hp : AnswersO g lb (fun x : ReportLine => .agg x.enc.toArray) p xs (OwnB A) w) :
    Calls Tryz.prog 58 #[.slice A n c, .func (.func g) #[] lb] w fun e w' => e = .returned (.slice A (xs.filter fun x => !p x).length c) ∧ w'.ownsRow base t 4 (.slice A (xs.filter fun x => !p x).length c) (xs.filter fun x => !p x).length ((xs.filter fun x => !p x).flatMap ReportLine.enc) ∧ Only (OwnB A) w w' := by
  have hlen : xs.length = n := (Sees.of_own hO).count (by decide) (fun _ => rfl)
  have eg := hp.enters
  have HL := Lib.hid hlen
  go_enter Tryz.func58, Tryz.ntmps58
  go_wp2_with fail
  refine (IndexFunc_ReportLine g lb p A n c xs w ((Sees.of_own hO).less (Nat.zero_le _)) (by omega) hp.plain).mono ?_
  rintro e w1 ⟨r, rfl, hr, b1⟩
  have O1 := own_below hO b1
  have h1 := Only.of_below (S := OwnB A) b1
  clear b1 hlen
  rcases hr with ⟨rfl, hno⟩ | ⟨k, rfl, hk, hpk, hbefore⟩
  · have hf : (xs.filter fun x => !p x) = xs := by
      rw [List.filter_eq_self]
      intro x hx
      have := List.any_eq_false.1 hno x hx
      simpa using this
    have HF := Lib.hid hf
    clear hf hno hO
    go_wp2_with fail
    go_ret
    rw [HF.out, HL.out]
    exact ⟨rfl, O1, h1⟩
  · have hkn : k < n := by rw [← HL.out]; exact hk
    have hF0 := Lib.hid (show (xs.take (k + 1)).filter (fun x => !p x) = xs.take k by
      rw [filter_next hk, if_neg (by simp [hpk]), List.filter_eq_self]
      intro x hx
      have := List.any_eq_false.1 hbefore x hx
      simpa using this)
    rcases own_row O1 with ⟨_, h, _⟩ | ⟨blk, rest, rfl, hg, hB, hl, hnc, hm⟩
    · omega
    have hS : ∀ b, b = blk → OwnB (some ⟨blk, 0, none⟩) b := fun b h => by subst h; rfl
    have HLL := Lib.hid hl
    have hk3 : ((k : Int) == -1) = false := beq_eq_false_iff_ne.2 (by omega)
    clear hO O1 hpk hbefore hl
    go_wp2_with fail
    go_loopw [5, 6] (fun iv jv wr => ∃ (i j : Nat) (ys : List ReportLine), iv = .int .i64 (i : Int) ∧ jv = .int .i64 (j : Int) ∧ i < j ∧ j ≤ n ∧ Hid (ys.length = n ∧ ys.take i = (xs.take j).filter (fun x => !p x) ∧ ys.drop j = xs.drop j) ∧ Blk wr blk t (ys.flatMap ReportLine.enc ++ rest) ∧ Only (OwnB (some ⟨blk, 0, none⟩)) w wr) (fun _ jv _ => n - (intOf jv).toNat)
    case atStart => exact ⟨k, k + 1, xs, rfl, by go_num, by omega, by omega, Lib.hid ⟨HL.out, hF0.out.symm, rfl⟩, hB, h1⟩
    case round =>
      obtain ⟨i, j, ys, rfl, rfl, hij, hj, HY, B, o⟩ := hrel
      clear hB h1
      by_cases hlt : j < n
      · have hjx : j < xs.length := by rw [HL.out]; exact hlt
        have HX := Lib.hid (filter_next (p := fun x => !p x) hjx)
        have gx0 : ys[j]? = some xs[j] := by
          have e1 := congrArg (fun l => l[0]?) HY.out.2.2
          simp only [List.getElem?_drop, Nat.add_zero] at e1
          rw [e1, List.getElem?_eq_getElem hjx]
        have HIN := Lib.hid (List.getElem_mem hjx)
        obtain ⟨x, hx⟩ : ∃ x, xs[j] = x := ⟨_, rfl⟩
        rw [hx] at gx0
        have gx := gx0
        clear gx0
        have x0 : wr.cell? ⟨blk, j * 4, none⟩ = some (.string x.name) := row_cell? (enc := ReportLine.enc) (s := 4) (k := j) (fun _ => rfl) B gx 0 _ rfl
        have x1 : wr.cell? ⟨blk, j * 4 + 1, none⟩ = some (.string x.club) := row_cell? (enc := ReportLine.enc) (s := 4) (k := j) (fun _ => rfl) B gx 1 _ rfl
        have x2 : wr.cell? ⟨blk, j * 4 + 2, none⟩ = some (.int .i64 x.status) := row_cell? (enc := ReportLine.enc) (s := 4) (k := j) (fun _ => rfl) B gx 2 _ rfl
        have x3 : wr.cell? ⟨blk, j * 4 + 3, none⟩ = some (.int .i64 x.time) := row_cell? (enc := ReportLine.enc) (s := 4) (k := j) (fun _ => rfl) B gx 3 _ rfl
        have hblt := B.lt
        clear gx
        have B2 : Blk (wr.alloc (.cells #[.string x.name, .string x.club, .int .i64 x.status, .int .i64 x.time] 41)) blk t (ys.flatMap ReportLine.enc ++ rest) := B.alloc _
        have V2 : Blk (wr.alloc (.cells #[.string x.name, .string x.club, .int .i64 x.status, .int .i64 x.time] 41)) wr.heap.size 41 [.string x.name, .string x.club, .int .i64 x.status, .int .i64 x.time] := Blk.at_ rfl
        have o2 := o.trans (Only.of_below (S := OwnB (some ⟨blk, 0, none⟩)) ((Below.refl _ _).alloc (Nat.le_refl _) _ : Below wr.heap.size wr (wr.alloc (.cells #[.string x.name, .string x.club, .int .i64 x.status, .int .i64 x.time] 41))))
        have HXX := Lib.hid hx
        clear B o hx
        go_wp2_with fail
        refine (hp.at' x (by rw [← HXX.out]; exact HIN.out) _ o2).mono ?_
        rintro e w3 ⟨rfl, b3⟩
        have B3 := B2.next b3
        have V3 := V2.next b3
        have o3 := o2.then_ b3
        have v3 := V3.cell
        clear B2 V2 o2 b3 x0 x1 x2 x3
        cases hpx : p x
        · have hil : i < ys.length := by rw [HY.out.1]; omega
          have gz := List.getElem?_eq_getElem hil
          obtain ⟨z, hz⟩ : ∃ z, ys[i] = z := ⟨_, rfl⟩
          rw [hz] at gz
          have z0 : w3.cell? ⟨blk, i * 4, none⟩ = some (.string z.name) := row_cell? (enc := ReportLine.enc) (s := 4) (k := i) (fun _ => rfl) B3 gz 0 _ rfl
          have f0 := B3.frozen (i * 4)
          have z1 : w3.cell? ⟨blk, i * 4 + 1, none⟩ = some (.string z.club) := row_cell? (enc := ReportLine.enc) (s := 4) (k := i) (fun _ => rfl) B3 gz 1 _ rfl
          have f1 := B3.frozen (i * 4 + 1)
          have z2 : w3.cell? ⟨blk, i * 4 + 2, none⟩ = some (.int .i64 z.status) := row_cell? (enc := ReportLine.enc) (s := 4) (k := i) (fun _ => rfl) B3 gz 2 _ rfl
          have f2 := B3.frozen (i * 4 + 2)
          have z3 : w3.cell? ⟨blk, i * 4 + 3, none⟩ = some (.int .i64 z.time) := row_cell? (enc := ReportLine.enc) (s := 4) (k := i) (fun _ => rfl) B3 gz 3 _ rfl
          have f3 := B3.frozen (i * 4 + 3)
          have HFX := Lib.hid (show (ys.set i x).length = n ∧ (ys.set i x).take (i + 1) = (xs.take (j + 1)).filter (fun x => !p x) ∧ (ys.set i x).drop (j + 1) = xs.drop (j + 1) from ⟨by rw [List.length_set]; exact HY.out.1, by rw [take_set_snoc x hil, HX.out, HXX.out, if_pos (by rw [hpx]; rfl), HY.out.2.1], by
            rw [List.drop_set_of_lt (by omega)]
            have e1 := congrArg (List.drop 1) HY.out.2.2
            simpa [List.drop_drop] using e1⟩)
          have HIL := Lib.hid hil
          have hin : i < n := by omega
          clear gz hz hil hpx
          go_wp2_with fail
          go_roundw
          case rel =>
            have B5 := Blk.many (ReportLine.enc x) B3 (i * 4)
            rw [row_set (enc := ReportLine.enc) (s := 4) (fun _ => rfl) _ _ i x HIL.out] at B5
            exact ⟨i + 1, j + 1, ys.set i x, by go_num, by go_num, by omega, by omega, HFX, B5, Only.many (S := OwnB (some ⟨blk, 0, none⟩)) rfl (ReportLine.enc x) o3 (i * 4)⟩
          case measure => simp [intOf]; omega
        · have HFX := Lib.hid (show ys.length = n ∧ ys.take i = (xs.take (j + 1)).filter (fun x => !p x) ∧ ys.drop (j + 1) = xs.drop (j + 1) from ⟨HY.out.1, by rw [HX.out, HXX.out, if_neg (by rw [hpx]; simp), HY.out.2.1], by
            have e1 := congrArg (List.drop 1) HY.out.2.2
            simpa [List.drop_drop] using e1⟩)
          clear hpx
          go_wp2_with fail
          go_roundw
          case rel => exact ⟨i, j + 1, ys, rfl, by go_num, by omega, by omega, HFX, B3, o3⟩
          case measure => simp [intOf]; omega
      · have hjn : j = n := by omega
        have hF : (ys.take i) = xs.filter (fun x => !p x) := by rw [HY.out.2.1, List.take_of_length_le (by rw [HL.out]; omega)]
        have hyl := HY.out.1
        have hil : (xs.filter fun x => !p x).length = i := by rw [← hF, List.length_take]; omega
        have hfl := flatMap_len (f := ReportLine.enc) (s := 4) ys (fun _ _ => rfl)
        have hlt2 : i * 4 + (n - i) * 4 ≤ (ys.flatMap ReportLine.enc ++ rest).length := by rw [List.length_append, hfl, hyl]; omega
        obtain ⟨zs, hzs, hcl⟩ := run_clear wr 30 41 _ 4 Tryz.underlying30 Tryz.zeroValue41 rfl (by decide) blk (i * 4) (n - i) (c - i) (by omega) _ t B hlt2
        have HF := Lib.hid hF
        have HIL := Lib.hid hil
        have hl2 := HLL.out
        rw [List.length_append, flatMap_len (f := ReportLine.enc) (s := 4) xs (fun _ _ => rfl), HL.out] at hl2
        have hl3 : (ys.flatMap ReportLine.enc ++ rest).length = c * 4 := by rw [List.length_append, hfl, hyl]; exact hl2
        have HC := Lib.hid (show (setMany (ys.flatMap ReportLine.enc ++ rest) (i * 4) zs).length = c * 4 ∧ (setMany (ys.flatMap ReportLine.enc ++ rest) (i * 4) zs).take (i * 4) = (ys.take i).flatMap ReportLine.enc from
          ⟨by rw [setMany_length]; exact hl3, by rw [setMany_before _ _ _ (by rw [hzs]; exact hlt2), row_take (enc := ReportLine.enc) (s := 4) (fun _ => rfl) ys rest i (by omega)]⟩)
        have hic : i ≤ c := by omega
        have hic2 : ¬ c = i := by omega
        have hin : i ≤ n := by omega
        have HM := Lib.hid hm
        clear hzs hfl hl2 hl3 hlt2 hF hyl hil hm hjn
        go_wp2_with fail
        go_ret
        rw [HIL.out, ← HF.out]
        exact ⟨rfl, own_shut hg (Blk.many zs B (i * 4)) HC.out.1 hic HM.out HC.out.2, Only.many (S := OwnB (some ⟨blk, 0, none⟩)) rfl zs o (i * 4)⟩

end Go.Proofs.YtbcblmbpjecilaaGreatDoor
