/- The library's sort at rows of a desk. -/
import Derived.Test.YtkeffhnkhmalpaaSortP
import Derived.Test.YtkeffhnkhmalpaaDeskF
import Derived.Test.YtkeffhnkhmalpaaDelF
import Derived.Test.YtkeffhnkhmalpaaShelfCS
namespace Go.Proofs.Ytkeffhnkhmalpaa
open Go.RowKit

/-- The library's insertion sort at places a to b of a row. -/
def rowIDeskRow (lt : DeskRow → DeskRow → Bool) (xs : List DeskRow) (a i : Nat) : List DeskRow := xs.take a ++ sortR lt ((xs.drop a).take (i - a)) ++ xs.drop i
theorem rowIDeskRow_zero (lt : DeskRow → DeskRow → Bool) (xs : List DeskRow) (a : Nat) : rowIDeskRow lt xs a a = xs := by
  unfold rowIDeskRow
  rw [Nat.sub_self, List.take_zero, sortR_nil, List.append_nil, List.take_append_drop]
theorem rowIDeskRow_one (lt : DeskRow → DeskRow → Bool) (xs : List DeskRow) (a : Nat) : rowIDeskRow lt xs a (a + 1) = xs := by
  unfold rowIDeskRow
  rw [show a + 1 - a = 1 by omega]
  by_cases h : a < xs.length
  · have h1 : xs.drop a = xs[a] :: xs.drop (a + 1) := List.drop_eq_getElem_cons h
    rw [h1, List.take_succ_cons, List.take_zero, sortR_one]
    have h2 := List.take_append_drop a xs
    rw [h1] at h2
    simp
  · rw [List.drop_of_length_le (by omega), List.take_nil, sortR_nil, List.drop_of_length_le (by omega), List.append_nil, List.append_nil, List.take_of_length_le (by omega)]
theorem rowIDeskRow_round (lt : DeskRow → DeskRow → Bool) (xs : List DeskRow) (a i : Nat) (hi : i < xs.length) (ha : a ≤ i) :
    (sortR lt ((xs.drop a).take (i - a))).length = i - a ∧ rowIDeskRow lt xs a i = xs.take a ++ ((sortR lt ((xs.drop a).take (i - a))).take (i - a) ++ xs[i] :: (sortR lt ((xs.drop a).take (i - a))).drop (i - a)) ++ xs.drop (i + 1) ∧ rowIDeskRow lt xs a (i + 1) = xs.take a ++ insR lt (sortR lt ((xs.drop a).take (i - a))) xs[i] ++ xs.drop (i + 1) := by
  have hl : (sortR lt ((xs.drop a).take (i - a))).length = i - a := by rw [sortR_length, List.length_take, List.length_drop]; omega
  refine ⟨hl, ?_, ?_⟩
  · rw [List.take_of_length_le (Nat.le_of_eq hl), List.drop_of_length_le (Nat.le_of_eq hl)]
    have h1 : xs.drop i = xs[i] :: xs.drop (i + 1) := List.drop_eq_getElem_cons hi
    unfold rowIDeskRow
    rw [h1]
    simp only [List.append_assoc, List.cons_append, List.nil_append]
  · unfold rowIDeskRow
    have h2 : i - a < (xs.drop a).length := by rw [List.length_drop]; omega
    rw [show i + 1 - a = (i - a) + 1 by omega, sortR_next lt h2]
    congr 3
    rw [List.getElem_drop]
    congr 1
    omega
theorem rowIDeskRow_mem (lt : DeskRow → DeskRow → Bool) {xs : List DeskRow} {a i : Nat} {x : DeskRow} (h : x ∈ sortR lt ((xs.drop a).take (i - a))) : x ∈ xs := List.mem_of_mem_drop (List.mem_of_mem_take ((sortR_mem lt).1 h))

set_option maxRecDepth 100000 in
set_option maxHeartbeats 8000000 in
theorem insertionSort_DeskRow (g : Nat) (lb : Array Value) (cf : DeskRow → DeskRow → Int) (D : DeskRow → Prop) (blk c n : Nat) (t : TypeId) (xs : List DeskRow) (rest : List Value) (a b : Nat) (w : World) (hB : Blk w blk t (xs.flatMap DeskRow.enc ++ rest)) (hn : xs.length = n) (hn1 : n ≤ 1000) (hab : a ≤ b) (hb : b ≤ n)
    (hc : Compares g lb (fun x : DeskRow => .agg x.enc.toArray) cf D) (hD : ∀ x ∈ xs, D x) :
    Calls Try.prog 121 #[.slice (some ⟨blk, 0, none⟩) n c, .int .i64 (a : Int), .int .i64 (b : Int), .func (.func g) #[] lb] w fun e w' => e = .returned (.tuple #[]) ∧ Blk w' blk t ((rowIDeskRow (ltOf' cf) xs a b).flatMap DeskRow.enc ++ rest) ∧ Only (fun z => z = blk) w w' := by
  have eg := hc.enters
  have HN := Lib.hid hn
  have HD := Lib.hid hD
  have hB0 := hB
  clear hn hD hB
  go_enter Try.func121, Try.ntmps121
  go_wp2_with fail
  go_loopw [8] (fun v wr => ∃ (i : Nat) (ys : List DeskRow), v = .int .i64 (i : Int) ∧ a + 1 ≤ i ∧ i ≤ b + 1 ∧ Hid (a < b → i ≤ b) ∧ Hid (ys = rowIDeskRow (ltOf' cf) xs a i) ∧ Blk wr blk t (ys.flatMap DeskRow.enc ++ rest) ∧ Only (fun z => z = blk) w wr) (fun v _ => b + 1 - (intOf v).toNat)
  case atStart => exact ⟨a + 1, xs, by go_num, Nat.le_refl _, by omega, Lib.hid (fun h => h), Lib.hid (rowIDeskRow_one _ _ _).symm, hB0, Only.refl _ _⟩
  case round =>
    obtain ⟨i, ys, rfl, hai, hib, HIB, HY, B1, o1⟩ := hrel
    clear hB0
    by_cases hlt : i < b
    · have hix : i < xs.length := by rw [HN.out]; omega
      obtain ⟨hP0, hY1, hY2⟩ := rowIDeskRow_round (ltOf' cf) xs a i hix (by omega)
      have HDP := Lib.hid (show (∀ x ∈ sortR (ltOf' cf) ((xs.drop a).take (i - a)), D x) ∧ D xs[i] from ⟨fun x hx => HD.out x (rowIDeskRow_mem _ hx), HD.out _ (List.getElem_mem hix)⟩)
      have hpre : (xs.take a).length = a := by rw [List.length_take, HN.out]; omega
      have hylen : ys.length = n := by rw [HY.out, hY1]; simp only [List.length_append, List.length_take, List.length_cons, List.length_drop, hP0]; have := HN.out; omega
      obtain ⟨P, hP⟩ : ∃ P, sortR (ltOf' cf) ((xs.drop a).take (i - a)) = P := ⟨_, rfl⟩
      obtain ⟨y, hy⟩ : ∃ y, xs[i] = y := ⟨_, rfl⟩
      obtain ⟨pre, hpr⟩ : ∃ pre, xs.take a = pre := ⟨_, rfl⟩
      obtain ⟨R, hR⟩ : ∃ R, xs.drop (i + 1) = R := ⟨_, rfl⟩
      rw [hP] at hP0 hY1 hY2 HDP
      rw [hy] at hY1 hY2 HDP
      rw [hpr] at hpre hY1 hY2
      rw [hR] at hY1 hY2
      have HY1 := Lib.hid (HY.out.trans hY1)
      have HY2 := Lib.hid hY2
      have HPL := Lib.hid hP0
      have HPR := Lib.hid hpre
      have HYL := Lib.hid hylen
      clear hY1 hY2 hP hy hpr hR HY hP0 hpre hylen hix
      have hai' : a ≤ i := by omega
      go_wp2_with fail
      obtain ⟨wo, hwo⟩ : ∃ wo : World, wo = wr := ⟨_, rfl⟩
      subst hwo
      go_loopw [9] (fun v wx => ∃ (m j : Nat) (zs : List DeskRow), v = .int .i64 (m : Int) ∧ m = a + j ∧ j ≤ i - a ∧ Hid (posR (ltOf' cf) P y P.length = posR (ltOf' cf) P y j) ∧ Hid (zs = pre ++ (P.take j ++ y :: P.drop j) ++ R) ∧ Blk wx blk t (zs.flatMap DeskRow.enc ++ rest) ∧ Only (fun z => z = blk) w wx) (fun v _ => (intOf v).toNat)
      case atStart => exact ⟨i, i - a, ys, rfl, by omega, Nat.le_refl _, Lib.hid (by rw [HPL.out]), HY1, B1, o1⟩
      case round =>
        obtain ⟨m, j, zs, rfl, hm, hj, HP, HZ, B1x, o1x⟩ := hrel
        clear B1 o1
        cases j with
        | zero =>
          have HE := Lib.hid (show rowIDeskRow (ltOf' cf) xs a (i + 1) = zs by rw [HY2.out, HZ.out, insR_at _ (show posR (ltOf' cf) P y P.length = 0 from HP.out)])
          have hnot : ¬ a < m := by omega
          clear HP
          go_wp2_with fail
          go_quiet (fail)
          go_wp2_with fail
          go_roundw
          case rel => exact ⟨i + 1, zs, by go_num, by omega, by omega, Lib.hid (fun _ => by omega), Lib.hid HE.out.symm, B1x, o1x.quiet (Quiet.mk _ _)⟩
          case measure => simp [intOf]; omega
        | succ j =>
          obtain ⟨q, rfl⟩ : ∃ q, m = q + 1 := ⟨m - 1, by omega⟩
          have hjP : j < P.length := by rw [HPL.out]; omega
          obtain ⟨L, M, hz1, hz2, hz3⟩ := ins_split (pre := pre) (P := P) (R := R) (row := zs) (e := y) (j := j) (m := q + 1) (by rw [HPR.out]; omega) hjP HZ.out
          have hDy := HDP.out.2
          have hDp := HDP.out.1 P[j] (List.getElem_mem hjP)
          have HT := Lib.hid (fun (h : ltOf' cf y P[j] = true) => HP.out.trans (posR_yes (ltOf' cf) hjP h))
          have HF := Lib.hid (fun (h : ltOf' cf y P[j] = false) => HP.out.trans (posR_no (ltOf' cf) hjP h))
          have hLq : L.length = q := by omega
          subst hz1
          have hlen : (L ++ P[j] :: y :: M).length = n := by
            have h1 := HYL.out
            rw [HY1.out] at h1
            have h2 := congrArg List.length HZ.out
            simp only [List.length_append, List.length_take, List.length_cons, List.length_drop, HPL.out] at h1 h2 ⊢
            omega
          generalize P[j] = p at *
          obtain ⟨gp, gy⟩ := mid_get (L := L) (M := M) (p := p) (e := y)
          rw [hLq] at gp gy
          have hq1 : q + 1 < n := by rw [← hlen]; simp; omega
          have hq0 : q < n := by omega
          have hgt : decide ((a : Int) < (q : Int) + 1) = true := decide_eq_true (by omega)
          have hw1 : IntKind.i64.wrap (q : Int) = (q : Int) := IntWalk.i64_in _ (by omega)
          have hi0 : (0 : Int) ≤ (q : Int) + 1 := by omega
          have hi1 : (q : Int) + 1 < (n : Int) := by omega
          have hi2 : (0 : Int) ≤ (q : Int) := by omega
          have hi3 : (q : Int) < (n : Int) := by omega
          have bq := (Quiet.one wr).below wr.heap.size
          have B2 := B1x.next bq
          have o2 := o1x.quiet (Quiet.one wr)
          have HLEN := Lib.hid hlen
          have e0 : wr.drew.cell? ⟨blk, (q + 1) * 3, none⟩ = some (.int .i64 y.number) := row_cell? (enc := DeskRow.enc) (s := 3) (k := q + 1) (fun _ => rfl) B2 gy 0 _ rfl
          have e1 : wr.drew.cell? ⟨blk, (q + 1) * 3 + 1, none⟩ = some (.int .i64 y.missing) := row_cell? (enc := DeskRow.enc) (s := 3) (k := q + 1) (fun _ => rfl) B2 gy 1 _ rfl
          have e2 : wr.drew.cell? ⟨blk, (q + 1) * 3 + 2, none⟩ = some (.int .i64 y.time) := row_cell? (enc := DeskRow.enc) (s := 3) (k := q + 1) (fun _ => rfl) B2 gy 2 _ rfl
          have p0 : wr.drew.cell? ⟨blk, q * 3, none⟩ = some (.int .i64 p.number) := row_cell? (enc := DeskRow.enc) (s := 3) (k := q) (fun _ => rfl) B2 gp 0 _ rfl
          have p1 : wr.drew.cell? ⟨blk, q * 3 + 1, none⟩ = some (.int .i64 p.missing) := row_cell? (enc := DeskRow.enc) (s := 3) (k := q) (fun _ => rfl) B2 gp 1 _ rfl
          have p2 : wr.drew.cell? ⟨blk, q * 3 + 2, none⟩ = some (.int .i64 p.time) := row_cell? (enc := DeskRow.enc) (s := 3) (k := q) (fun _ => rfl) B2 gp 2 _ rfl
          have HGP := Lib.hid gp
          have HGY := Lib.hid gy
          have HZ3 := Lib.hid hz3
          have HLq := Lib.hid hLq
          have HM := Lib.hid hm
          clear bq hz2 hz3 hlen gp gy hLq hm HP B1x o1x
          go_wp2_with fail
          go_region_held3 (fun w' => w'.cell? ⟨blk, (q + 1) * 3, none⟩ = some (.int .i64 y.number) ∧ w'.cell? ⟨blk, (q + 1) * 3 + 1, none⟩ = some (.int .i64 y.missing) ∧ w'.cell? ⟨blk, (q + 1) * 3 + 2, none⟩ = some (.int .i64 y.time) ∧ w'.cell? ⟨blk, q * 3, none⟩ = some (.int .i64 p.number) ∧ w'.cell? ⟨blk, q * 3 + 1, none⟩ = some (.int .i64 p.missing) ∧ w'.cell? ⟨blk, q * 3 + 2, none⟩ = some (.int .i64 p.time)) (go_keep)
            (first
              | (refine (hc.at' y p hDy hDp _).mono ?_
                 rintro e w3 ⟨rfl, b3⟩
                 have B3 := B2.next b3
                 have o3 := o2.then_ b3
                 have gp := HGP.out
                 have gy := HGY.out
                 have hlen := HLEN.out
                 clear e0 p0 e1 p1 e2 p2
                 have e0 : w3.cell? ⟨blk, (q + 1) * 3, none⟩ = some (.int .i64 y.number) := row_cell? (enc := DeskRow.enc) (s := 3) (k := q + 1) (fun _ => rfl) B3 gy 0 _ rfl
                 have e1 : w3.cell? ⟨blk, (q + 1) * 3 + 1, none⟩ = some (.int .i64 y.missing) := row_cell? (enc := DeskRow.enc) (s := 3) (k := q + 1) (fun _ => rfl) B3 gy 1 _ rfl
                 have e2 : w3.cell? ⟨blk, (q + 1) * 3 + 2, none⟩ = some (.int .i64 y.time) := row_cell? (enc := DeskRow.enc) (s := 3) (k := q + 1) (fun _ => rfl) B3 gy 2 _ rfl
                 have p0 : w3.cell? ⟨blk, q * 3, none⟩ = some (.int .i64 p.number) := row_cell? (enc := DeskRow.enc) (s := 3) (k := q) (fun _ => rfl) B3 gp 0 _ rfl
                 have p1 : w3.cell? ⟨blk, q * 3 + 1, none⟩ = some (.int .i64 p.missing) := row_cell? (enc := DeskRow.enc) (s := 3) (k := q) (fun _ => rfl) B3 gp 1 _ rfl
                 have p2 : w3.cell? ⟨blk, q * 3 + 2, none⟩ = some (.int .i64 p.time) := row_cell? (enc := DeskRow.enc) (s := 3) (k := q) (fun _ => rfl) B3 gp 2 _ rfl
                 clear b3 gp gy hlen))
          clear B2 o2
          cases hlt2 : ltOf' cf y p
          · have hlt3 : ¬ cf y p < 0 := by simpa [ltOf'] using hlt2
            have HE := Lib.hid (show rowIDeskRow (ltOf' cf) xs a (i + 1) = L ++ p :: y :: M by rw [HY2.out, insR_at _ (HF.out hlt2)]; exact HZ.out.symm)
            clear hlt2
            go_wp2_with fail
            go_roundw
            case rel => exact ⟨i + 1, _, by go_num, by omega, by omega, Lib.hid (fun _ => by omega), Lib.hid HE.out.symm, B3, o3⟩
            case measure => simp [intOf]; omega
          · have hlt3 : cf y p < 0 := by simpa [ltOf'] using hlt2
            have HTT := Lib.hid (HT.out hlt2)
            clear hlt2 hw1
            have fe0 := B3.frozen ((q + 1) * 3)
            have fp0 := B3.frozen (q * 3)
            have fe1 := B3.frozen ((q + 1) * 3 + 1)
            have fp1 := B3.frozen (q * 3 + 1)
            have fe2 := B3.frozen ((q + 1) * 3 + 2)
            have fp2 := B3.frozen (q * 3 + 2)
            have hw1 : IntKind.i64.wrap (q : Int) = (q : Int) := IntWalk.i64_in _ (by omega)
            go_wp2_with fail
            go_region
            all_goals
              go_wp2_with fail
              go_roundw
              case rel =>
                have B5 := (Blk.many (DeskRow.enc p) B3 ((q + 1) * 3)).many (DeskRow.enc y) (q * 3)
                rw [row_set (enc := DeskRow.enc) (s := 3) (fun _ => rfl) _ _ (q + 1) p (by rw [HLEN.out]; omega), row_set (enc := DeskRow.enc) (s := 3) (fun _ => rfl) _ _ q y (by rw [List.length_set, HLEN.out]; omega), swap_at HLq.out] at B5
                have O5 := Only.many (S := fun z => z = blk) (g := blk) rfl (DeskRow.enc y) (Only.many (S := fun z => z = blk) (g := blk) rfl (DeskRow.enc p) o3 ((q + 1) * 3)) (q * 3)
                have hm := HM.out
                exact ⟨q, j, _, by go_num, by omega, by omega, HTT, Lib.hid HZ3.out.symm, B5.quiet (Quiet.one _), O5.quiet (Quiet.one _)⟩
              case measure => simp [intOf]
    · have HE := Lib.hid (show ys = rowIDeskRow (ltOf' cf) xs a b by
        rw [HY.out]
        by_cases h : a < b
        · have := HIB.out h
          obtain rfl : i = b := by omega
          rfl
        · obtain rfl : a = b := by omega
          obtain rfl : i = a + 1 := by omega
          rw [rowIDeskRow_one, rowIDeskRow_zero])
      go_wp2_with fail
      go_end0
      exact ⟨rfl, by rw [← HE.out]; exact B1, o1⟩
theorem isNaN_int (a : Int) (w : World) : Calls Try.prog 98 #[.int .i64 a] w fun e w' => e = .returned (.bool false) ∧ w = w' := by
  go_enter Try.func98, Try.ntmps98
  go_wp2
  go_ret
  exact ⟨ret_bool (by simp), rfl⟩
theorem Compare_int (a b : Int) (w : World) : Calls Try.prog 67 #[.int .i64 a, .int .i64 b] w fun e w' => e = .returned (.int .i64 (cmpI a b)) ∧ w = w' := by
  by_cases h1 : a < b
  · go_enter Try.func67, Try.ntmps67
    go_wp2_with (go_at_call 98; refine (isNaN_int _ _).mono ?_; rintro e w' ⟨rfl, rfl⟩)
    go_ret
    exact ⟨ret_int (by unfold cmpI; rw [if_pos h1]), rfl⟩
  · by_cases h2 : b < a
    · go_enter Try.func67, Try.ntmps67
      go_wp2_with (go_at_call 98; refine (isNaN_int _ _).mono ?_; rintro e w' ⟨rfl, rfl⟩)
      go_ret
      exact ⟨ret_int (by unfold cmpI; rw [if_neg (by omega), if_pos h2]), rfl⟩
    · go_enter Try.func67, Try.ntmps67
      go_wp2_with (go_at_call 98; refine (isNaN_int _ _).mono ?_; rintro e w' ⟨rfl, rfl⟩)
      go_ret
      exact ⟨ret_int (by unfold cmpI; rw [if_neg (by omega), if_neg (by omega)]), rfl⟩
theorem orI_drop {l : List Int} {k : Nat} (hk : k < l.length) : orI (l.drop k) = if l[k] ≠ 0 then l[k] else orI (l.drop (k + 1)) := by
  have h : l.drop k = l[k] :: l.drop (k + 1) := List.drop_eq_getElem_cons hk
  rw [h]; rfl
theorem Or_int (A : Option Addr) (n c : Nat) (xs : List Int) (w : World) (hx : Sees w 0 1 A n (ints xs)) (hn : n ≤ 1000) :
    Calls Try.prog 66 #[.slice A n c] w fun e w' => e = .returned (.int .i64 (orI xs)) ∧ w = w' := by
  have hl := hx.icount
  go_enter Try.func66, Try.ntmps66
  go_wp2_with fail
  go_loop [8] (fun v => ∃ k : Nat, k ≤ n ∧ v = .int .i64 (k : Int) ∧ Hid (orI xs = orI (xs.drop k))) (fun v => n - (intOf v).toNat)
  case atStart => exact ⟨0, Nat.zero_le _, rfl, Lib.hid rfl⟩
  case round =>
    obtain ⟨k, hk, rfl, HO⟩ := hrel
    by_cases hlt : k < n
    · obtain ⟨b, off, rfl, hkx, hcx⟩ := hx.int hlt
      have ho := HO.out.trans (orI_drop hkx)
      generalize xs[k] = y at *
      by_cases h0 : y = 0
      · subst h0
        have HO2 := Lib.hid (ho.trans (if_neg (by simp)))
        clear ho
        go_wp2_with fail
        go_round
        case rel => exact ⟨k + 1, by omega, by go_num, HO2⟩
        case measure => simp [intOf]; omega
      · have HO2 := Lib.hid (ho.trans (if_pos h0))
        have hb : (y != 0) = true := by simp [h0]
        clear ho
        go_wp2_with fail
        go_ret
        exact ⟨ret_int HO2.out.symm, rfl⟩
    · have HO2 := Lib.hid (show orI xs = 0 by rw [HO.out, List.drop_of_length_le (by omega)]; rfl)
      go_wp2_with fail
      go_ret
      exact ⟨ret_int HO2.out.symm, rfl⟩
theorem insertionSort0_DeskRow (A : Option Addr) (g : Nat) (lb : Array Value) (c : Nat) (w : World) : Calls Try.prog 121 #[.slice A 0 c, .int .i64 0, .int .i64 0, .func (.func g) #[] lb] w fun e w' => e = .returned (.tuple #[]) ∧ w = w' := by
  go_enter Try.func121, Try.ntmps121
  go_wp2
  refine wp_loop_rounds 1 ?_
  rw [rounds_succ]
  go_wp2
  go_end0
  exact ⟨rfl, rfl⟩
theorem pdqsort_DeskRow (g : Nat) (lb : Array Value) (cf : DeskRow → DeskRow → Int) (D : DeskRow → Prop) (base t n c : Nat) (A : Option Addr) (lim : Int) (xs : List DeskRow) (w : World) (hO : w.ownsRow base t 3 (.slice A n c) n (xs.flatMap DeskRow.enc)) (hn1 : n ≤ 12)
    (hc : Compares g lb (fun x : DeskRow => .agg x.enc.toArray) cf D) (hD : ∀ x ∈ xs, D x) :
    Calls Try.prog 97 #[.slice A n c, .int .i64 0, .int .i64 (n : Int), .int .i64 lim, .func (.func g) #[] lb] w fun e w' => e = .returned (.tuple #[]) ∧ w'.ownsRow base t 3 (.slice A n c) n ((sortR (ltOf' cf) xs).flatMap DeskRow.enc) ∧ Only (OwnB A) w w' := by
  have hlen : xs.length = n := by
    have h1 := hO.1
    rw [flatMap_len (f := DeskRow.enc) (s := 3) xs (fun _ _ => rfl)] at h1
    exact Nat.eq_of_mul_eq_mul_right (by decide) h1
  have hlen2 : ((sortR (ltOf' cf) xs).flatMap DeskRow.enc).length = n * 3 := by rw [flatMap_len (f := DeskRow.enc) (s := 3) _ (fun _ _ => rfl), sortR_length, hlen]
  rcases own_row hO with ⟨rfl, rfl, rfl, _⟩ | ⟨blk, rest, rfl, hg, hB, hl, hnc, hm⟩
  · have hx : xs = [] := List.eq_nil_of_length_eq_zero hlen
    subst hx
    clear hO hlen hlen2
    go_enter Try.func97, Try.ntmps97
    go_wp2_with fail
    refine wp_loop_rounds 1 ?_
    rw [rounds_succ]
    go_wp2_with fail
    refine (insertionSort0_DeskRow _ _ _ _ _).mono ?_
    rintro e w' ⟨rfl, rfl⟩
    go_wp2_with fail
    exact bodyPost_ret (v := .tuple #[]) (by simp [results, Try.results97, go_sem]) rfl ⟨rfl, World.ownsRow_nil _ _ _ _, Only.refl _ _⟩
  · have HD := Lib.hid hD
    have HL := Lib.hid hlen
    have HL2 := Lib.hid hlen2
    have HLL := Lib.hid hl
    have hl2 := flatMap_len xs (fun (x : DeskRow) _ => show x.enc.length = 3 from rfl)
    have hl3 := flatMap_len (sortR (ltOf' cf) xs) (fun (x : DeskRow) _ => show x.enc.length = 3 from rfl)
    rw [sortR_length] at hl3
    have HL3 := Lib.hid (show ((sortR (ltOf' cf) xs).flatMap DeskRow.enc ++ rest).length = c * 3 by rw [List.length_append, hl3, ← hl2, ← List.length_append]; exact hl)
    clear hO hD hlen hlen2 hl hl2 hl3
    have hn5 : (n : Int) ≤ 12 := by omega
    go_enter Try.func97, Try.ntmps97
    go_wp2_with fail
    refine wp_loop_rounds 1 ?_
    rw [rounds_succ]
    go_wp2_with fail
    refine (insertionSort_DeskRow g lb cf D blk c n t xs rest 0 n _ hB HL.out (by omega) (Nat.zero_le _) (Nat.le_refl _) hc HD.out).mono ?_
    rintro e w1 ⟨rfl, B1, o1⟩
    go_wp2_with fail
    refine bodyPost_ret (v := .tuple #[]) (by simp [results, Try.results97, go_sem]) rfl ⟨rfl, own_row_mk hg (?_ : Blk w1 blk t (_ ++ rest)) HL3.out hnc hm HL2.out, o1.mono fun k hk => by subst hk; rfl⟩
    have h1 : rowIDeskRow (ltOf' cf) xs 0 n = sortR (ltOf' cf) xs := by
      unfold rowIDeskRow
      have h2 := HL.out
      rw [Nat.sub_zero, List.take_zero, List.drop_zero, List.nil_append, List.take_of_length_le (by omega), List.drop_of_length_le (by omega), List.append_nil]
    rw [h1] at B1
    exact B1
set_option maxRecDepth 100000 in
theorem SortFunc_DeskRow (g : Nat) (lb : Array Value) (cf : DeskRow → DeskRow → Int) (D : DeskRow → Prop) (base t n c : Nat) (A : Option Addr) (xs : List DeskRow) (w : World) (hO : w.ownsRow base t 3 (.slice A n c) n (xs.flatMap DeskRow.enc)) (hn1 : n ≤ 12)
    (hc : Compares g lb (fun x : DeskRow => .agg x.enc.toArray) cf D) (hD : ∀ x ∈ xs, D x) :
    Calls Try.prog 64 #[.slice A n c, .func (.func g) #[] lb] w fun e w' => e = .returned (.tuple #[]) ∧ w'.ownsRow base t 3 (.slice A n c) n ((sortR (ltOf' cf) xs).flatMap DeskRow.enc) ∧ Only (OwnB A) w w' := by
  have HD := Lib.hid hD
  clear hD
  go_enter Try.func64, Try.ntmps64
  go_wp2_with fail
  refine (sh_bits_Len _ _ (by omega) (by omega)).mono ?_
  rintro e w' ⟨rfl, rfl⟩
  go_wp2_with fail
  refine (pdqsort_DeskRow g lb cf D base t n c A _ xs _ hO hn1 hc HD.out).mono ?_
  rintro e w1 ⟨rfl, o1, q1⟩
  go_wp2_with fail
  go_end0
  exact ⟨rfl, o1, q1⟩

end Go.Proofs.Ytkeffhnkhmalpaa
