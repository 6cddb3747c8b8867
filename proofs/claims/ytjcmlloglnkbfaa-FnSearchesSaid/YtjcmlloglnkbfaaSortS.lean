/- The library's insertion sort at sectors. -/
import Derived.Test.YtjcmlloglnkbfaaStabP
import Derived.Test.YtjcmlloglnkbfaaSec
namespace Go.Proofs.Ytjcmlloglnkbfaa
open Go.RowKit

/-- The library's insertion sort at places a to b of a row. -/
def rowISector (lt : Sector → Sector → Bool) (xs : List Sector) (a i : Nat) : List Sector := xs.take a ++ sortR lt ((xs.drop a).take (i - a)) ++ xs.drop i
theorem rowISector_zero (lt : Sector → Sector → Bool) (xs : List Sector) (a : Nat) : rowISector lt xs a a = xs := by
  unfold rowISector
  rw [Nat.sub_self, List.take_zero, sortR_nil, List.append_nil, List.take_append_drop]
theorem rowISector_one (lt : Sector → Sector → Bool) (xs : List Sector) (a : Nat) : rowISector lt xs a (a + 1) = xs := by
  unfold rowISector
  rw [show a + 1 - a = 1 by omega]
  by_cases h : a < xs.length
  · have h1 : xs.drop a = xs[a] :: xs.drop (a + 1) := List.drop_eq_getElem_cons h
    rw [h1, List.take_succ_cons, List.take_zero, sortR_one]
    have h2 := List.take_append_drop a xs
    rw [h1] at h2
    simp
  · rw [List.drop_of_length_le (by omega), List.take_nil, sortR_nil, List.drop_of_length_le (by omega), List.append_nil, List.append_nil, List.take_of_length_le (by omega)]
theorem rowISector_round (lt : Sector → Sector → Bool) (xs : List Sector) (a i : Nat) (hi : i < xs.length) (ha : a ≤ i) :
    (sortR lt ((xs.drop a).take (i - a))).length = i - a ∧ rowISector lt xs a i = xs.take a ++ ((sortR lt ((xs.drop a).take (i - a))).take (i - a) ++ xs[i] :: (sortR lt ((xs.drop a).take (i - a))).drop (i - a)) ++ xs.drop (i + 1) ∧ rowISector lt xs a (i + 1) = xs.take a ++ insR lt (sortR lt ((xs.drop a).take (i - a))) xs[i] ++ xs.drop (i + 1) := by
  have hl : (sortR lt ((xs.drop a).take (i - a))).length = i - a := by rw [sortR_length, List.length_take, List.length_drop]; omega
  refine ⟨hl, ?_, ?_⟩
  · rw [List.take_of_length_le (Nat.le_of_eq hl), List.drop_of_length_le (Nat.le_of_eq hl)]
    have h1 : xs.drop i = xs[i] :: xs.drop (i + 1) := List.drop_eq_getElem_cons hi
    unfold rowISector
    rw [h1]
    simp only [List.append_assoc, List.cons_append, List.nil_append]
  · unfold rowISector
    have h2 : i - a < (xs.drop a).length := by rw [List.length_drop]; omega
    rw [show i + 1 - a = (i - a) + 1 by omega, sortR_next lt h2]
    congr 3
    rw [List.getElem_drop]
    congr 1
    omega
theorem rowISector_mem (lt : Sector → Sector → Bool) {xs : List Sector} {a i : Nat} {x : Sector} (h : x ∈ sortR lt ((xs.drop a).take (i - a))) : x ∈ xs := List.mem_of_mem_drop (List.mem_of_mem_take ((sortR_mem lt).1 h))

set_option maxRecDepth 100000 in
set_option maxHeartbeats 8000000 in
theorem insertionSort_Sector (g : Nat) (lb : Array Value) (cf : Sector → Sector → Int) (D : Sector → Prop) (blk c n : Nat) (t : TypeId) (xs : List Sector) (rest : List Value) (a b : Nat) (w : World) (hB : Blk w blk t (xs.flatMap Sector.enc ++ rest)) (hn : xs.length = n) (hn1 : n ≤ 1000) (hab : a ≤ b) (hb : b ≤ n)
    (hc : Compares g lb (fun x : Sector => .agg x.enc.toArray) cf D) (hD : ∀ x ∈ xs, D x) :
    Calls Try.prog 117 #[.slice (some ⟨blk, 0, none⟩) n c, .int .i64 (a : Int), .int .i64 (b : Int), .func (.func g) #[] lb] w fun e w' => e = .returned (.tuple #[]) ∧ Blk w' blk t ((rowISector (ltOf' cf) xs a b).flatMap Sector.enc ++ rest) ∧ Only (fun z => z = blk) w w' := by
  have eg := hc.enters
  have HN := Lib.hid hn
  have HD := Lib.hid hD
  have hB0 := hB
  clear hn hD hB
  go_enter Try.func117, Try.ntmps117
  go_wp2_with fail
  go_loopw [8] (fun v wr => ∃ (i : Nat) (ys : List Sector), v = .int .i64 (i : Int) ∧ a + 1 ≤ i ∧ i ≤ b + 1 ∧ Hid (a < b → i ≤ b) ∧ Hid (ys = rowISector (ltOf' cf) xs a i) ∧ Blk wr blk t (ys.flatMap Sector.enc ++ rest) ∧ Only (fun z => z = blk) w wr) (fun v _ => b + 1 - (intOf v).toNat)
  case atStart => exact ⟨a + 1, xs, by go_num, Nat.le_refl _, by omega, Lib.hid (fun h => h), Lib.hid (rowISector_one _ _ _).symm, hB0, Only.refl _ _⟩
  case round =>
    obtain ⟨i, ys, rfl, hai, hib, HIB, HY, B1, o1⟩ := hrel
    clear hB0
    by_cases hlt : i < b
    · have hix : i < xs.length := by rw [HN.out]; omega
      obtain ⟨hP0, hY1, hY2⟩ := rowISector_round (ltOf' cf) xs a i hix (by omega)
      have HDP := Lib.hid (show (∀ x ∈ sortR (ltOf' cf) ((xs.drop a).take (i - a)), D x) ∧ D xs[i] from ⟨fun x hx => HD.out x (rowISector_mem _ hx), HD.out _ (List.getElem_mem hix)⟩)
      have hpre : (xs.take a).length = a := by rw [List.length_take, HN.out]; omega
      have hylen : ys.length = n := by rw [HY.out, hY1]; simp only [List.length_append, List.length_take, List.length_cons, List.length_drop, hP0]; have := HN.out; omega
      obtain ⟨P, hP⟩ : ∃ P, sortR (ltOf' cf) ((xs.drop a).take (i - a)) = P := ⟨_, rfl⟩
      obtain ⟨y, hy⟩ : ∃ y, xs[i] = y := ⟨_, rfl⟩
      obtain ⟨pre, hpr⟩ : ∃ pre, xs.take a = pre := ⟨_, rfl⟩
      obtain ⟨R, hR⟩ : ∃ R, xs.drop (i + 1) = R := ⟨_, rfl⟩
      rw [hP] at hP0 hY1 hY2 HDP
      rw [hy] at hY1 hY2 HDP
      rw [hpr] at hpre hY1 hY2
      rw [hR] at hY1 hY2
      have HY1 := Lib.hid (HY.out.trans hY1)
      have HY2 := Lib.hid hY2
      have HPL := Lib.hid hP0
      have HPR := Lib.hid hpre
      have HYL := Lib.hid hylen
      clear hY1 hY2 hP hy hpr hR HY hP0 hpre hylen hix
      have hai' : a ≤ i := by omega
      go_wp2_with fail
      obtain ⟨wo, hwo⟩ : ∃ wo : World, wo = wr := ⟨_, rfl⟩
      subst hwo
      go_loopw [9] (fun v wx => ∃ (m j : Nat) (zs : List Sector), v = .int .i64 (m : Int) ∧ m = a + j ∧ j ≤ i - a ∧ Hid (posR (ltOf' cf) P y P.length = posR (ltOf' cf) P y j) ∧ Hid (zs = pre ++ (P.take j ++ y :: P.drop j) ++ R) ∧ Blk wx blk t (zs.flatMap Sector.enc ++ rest) ∧ Only (fun z => z = blk) w wx) (fun v _ => (intOf v).toNat)
      case atStart => exact ⟨i, i - a, ys, rfl, by omega, Nat.le_refl _, Lib.hid (by rw [HPL.out]), HY1, B1, o1⟩
      case round =>
        obtain ⟨m, j, zs, rfl, hm, hj, HP, HZ, B1x, o1x⟩ := hrel
        clear B1 o1
        cases j with
        | zero =>
          have HE := Lib.hid (show rowISector (ltOf' cf) xs a (i + 1) = zs by rw [HY2.out, HZ.out, insR_at _ (show posR (ltOf' cf) P y P.length = 0 from HP.out)])
          have hnot : ¬ a < m := by omega
          clear HP
          go_wp2_with fail
          go_quiet (fail)
          go_wp2_with fail
          go_roundw
          case rel => exact ⟨i + 1, zs, by go_num, by omega, by omega, Lib.hid (fun _ => by omega), Lib.hid HE.out.symm, B1x, o1x.quiet (Quiet.mk _ _)⟩
          case measure => simp [intOf]; omega
        | succ j =>
          obtain ⟨q, rfl⟩ : ∃ q, m = q + 1 := ⟨m - 1, by omega⟩
          have hjP : j < P.length := by rw [HPL.out]; omega
          obtain ⟨L, M, hz1, hz2, hz3⟩ := ins_split (pre := pre) (P := P) (R := R) (row := zs) (e := y) (j := j) (m := q + 1) (by rw [HPR.out]; omega) hjP HZ.out
          have hDy := HDP.out.2
          have hDp := HDP.out.1 P[j] (List.getElem_mem hjP)
          have HT := Lib.hid (fun (h : ltOf' cf y P[j] = true) => HP.out.trans (posR_yes (ltOf' cf) hjP h))
          have HF := Lib.hid (fun (h : ltOf' cf y P[j] = false) => HP.out.trans (posR_no (ltOf' cf) hjP h))
          have hLq : L.length = q := by omega
          subst hz1
          have hlen : (L ++ P[j] :: y :: M).length = n := by
            have h1 := HYL.out
            rw [HY1.out] at h1
            have h2 := congrArg List.length HZ.out
            simp only [List.length_append, List.length_take, List.length_cons, List.length_drop, HPL.out] at h1 h2 ⊢
            omega
          generalize P[j] = p at *
          obtain ⟨gp, gy⟩ := mid_get (L := L) (M := M) (p := p) (e := y)
          rw [hLq] at gp gy
          have hq1 : q + 1 < n := by rw [← hlen]; simp; omega
          have hq0 : q < n := by omega
          have hgt : decide ((a : Int) < (q : Int) + 1) = true := decide_eq_true (by omega)
          have hw1 : IntKind.i64.wrap (q : Int) = (q : Int) := IntWalk.i64_in _ (by omega)
          have hi0 : (0 : Int) ≤ (q : Int) + 1 := by omega
          have hi1 : (q : Int) + 1 < (n : Int) := by omega
          have hi2 : (0 : Int) ≤ (q : Int) := by omega
          have hi3 : (q : Int) < (n : Int) := by omega
          have bq := (Quiet.one wr).below wr.heap.size
          have B2 := B1x.next bq
          have o2 := o1x.quiet (Quiet.one wr)
          have HLEN := Lib.hid hlen
          have e0 : wr.drew.cell? ⟨blk, (q + 1) * 2, none⟩ = some (.int .i64 y.cell) := row_cell? (enc := Sector.enc) (s := 2) (k := q + 1) (fun _ => rfl) B2 gy 0 _ rfl
          have e1 : wr.drew.cell? ⟨blk, (q + 1) * 2 + 1, none⟩ = some (.int .i64 y.chance) := row_cell? (enc := Sector.enc) (s := 2) (k := q + 1) (fun _ => rfl) B2 gy 1 _ rfl
          have p0 : wr.drew.cell? ⟨blk, q * 2, none⟩ = some (.int .i64 p.cell) := row_cell? (enc := Sector.enc) (s := 2) (k := q) (fun _ => rfl) B2 gp 0 _ rfl
          have p1 : wr.drew.cell? ⟨blk, q * 2 + 1, none⟩ = some (.int .i64 p.chance) := row_cell? (enc := Sector.enc) (s := 2) (k := q) (fun _ => rfl) B2 gp 1 _ rfl
          have HGP := Lib.hid gp
          have HGY := Lib.hid gy
          have HZ3 := Lib.hid hz3
          have HLq := Lib.hid hLq
          have HM := Lib.hid hm
          clear bq hz2 hz3 hlen gp gy hLq hm HP B1x o1x
          go_wp2_with fail
          go_region_held3 (fun w' => w'.cell? ⟨blk, (q + 1) * 2, none⟩ = some (.int .i64 y.cell) ∧ w'.cell? ⟨blk, (q + 1) * 2 + 1, none⟩ = some (.int .i64 y.chance) ∧ w'.cell? ⟨blk, q * 2, none⟩ = some (.int .i64 p.cell) ∧ w'.cell? ⟨blk, q * 2 + 1, none⟩ = some (.int .i64 p.chance)) (go_keep)
            (first
              | (refine (hc.at' y p hDy hDp _).mono ?_
                 rintro e w3 ⟨rfl, b3⟩
                 have B3 := B2.next b3
                 have o3 := o2.then_ b3
                 have gp := HGP.out
                 have gy := HGY.out
                 have hlen := HLEN.out
                 clear e0 p0 e1 p1
                 have e0 : w3.cell? ⟨blk, (q + 1) * 2, none⟩ = some (.int .i64 y.cell) := row_cell? (enc := Sector.enc) (s := 2) (k := q + 1) (fun _ => rfl) B3 gy 0 _ rfl
                 have e1 : w3.cell? ⟨blk, (q + 1) * 2 + 1, none⟩ = some (.int .i64 y.chance) := row_cell? (enc := Sector.enc) (s := 2) (k := q + 1) (fun _ => rfl) B3 gy 1 _ rfl
                 have p0 : w3.cell? ⟨blk, q * 2, none⟩ = some (.int .i64 p.cell) := row_cell? (enc := Sector.enc) (s := 2) (k := q) (fun _ => rfl) B3 gp 0 _ rfl
                 have p1 : w3.cell? ⟨blk, q * 2 + 1, none⟩ = some (.int .i64 p.chance) := row_cell? (enc := Sector.enc) (s := 2) (k := q) (fun _ => rfl) B3 gp 1 _ rfl
                 clear b3 gp gy hlen))
          clear B2 o2
          cases hlt2 : ltOf' cf y p
          · have hlt3 : ¬ cf y p < 0 := by simpa [ltOf'] using hlt2
            have HE := Lib.hid (show rowISector (ltOf' cf) xs a (i + 1) = L ++ p :: y :: M by rw [HY2.out, insR_at _ (HF.out hlt2)]; exact HZ.out.symm)
            clear hlt2
            go_wp2_with fail
            go_roundw
            case rel => exact ⟨i + 1, _, by go_num, by omega, by omega, Lib.hid (fun _ => by omega), Lib.hid HE.out.symm, B3, o3⟩
            case measure => simp [intOf]; omega
          · have hlt3 : cf y p < 0 := by simpa [ltOf'] using hlt2
            have HTT := Lib.hid (HT.out hlt2)
            clear hlt2 hw1
            have fe0 := B3.frozen ((q + 1) * 2)
            have fp0 := B3.frozen (q * 2)
            have fe1 := B3.frozen ((q + 1) * 2 + 1)
            have fp1 := B3.frozen (q * 2 + 1)
            have hw1 : IntKind.i64.wrap (q : Int) = (q : Int) := IntWalk.i64_in _ (by omega)
            go_wp2_with fail
            go_region
            all_goals
              go_wp2_with fail
              go_roundw
              case rel =>
                have B5 := (Blk.many (Sector.enc p) B3 ((q + 1) * 2)).many (Sector.enc y) (q * 2)
                rw [row_set (enc := Sector.enc) (s := 2) (fun _ => rfl) _ _ (q + 1) p (by rw [HLEN.out]; omega), row_set (enc := Sector.enc) (s := 2) (fun _ => rfl) _ _ q y (by rw [List.length_set, HLEN.out]; omega), swap_at HLq.out] at B5
                have O5 := Only.many (S := fun z => z = blk) (g := blk) rfl (Sector.enc y) (Only.many (S := fun z => z = blk) (g := blk) rfl (Sector.enc p) o3 ((q + 1) * 2)) (q * 2)
                have hm := HM.out
                exact ⟨q, j, _, by go_num, by omega, by omega, HTT, Lib.hid HZ3.out.symm, B5.quiet (Quiet.one _), O5.quiet (Quiet.one _)⟩
              case measure => simp [intOf]
    · have HE := Lib.hid (show ys = rowISector (ltOf' cf) xs a b by
        rw [HY.out]
        by_cases h : a < b
        · have := HIB.out h
          obtain rfl : i = b := by omega
          rfl
        · obtain rfl : a = b := by omega
          obtain rfl : i = a + 1 := by omega
          rw [rowISector_one, rowISector_zero])
      go_wp2_with fail
      go_end0
      exact ⟨rfl, by rw [← HE.out]; exact B1, o1⟩

end Go.Proofs.Ytjcmlloglnkbfaa
