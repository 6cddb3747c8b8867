/- BestSectors, as the program has it. -/
import Derived.Test.YtjcmlloglnkbfaaStab
import Derived.Test.YtjcmlloglnkbfaaHelp2
import Derived.Shelf.Abstract
namespace Go.Proofs.Ytjcmlloglnkbfaa
open Go.RowKit

theorem isNaN_intB (a : Int) (w : World) : Calls Try.prog 111 #[.int .i64 a] w fun e w' => e = .returned (.bool false) ∧ w = w' := by
  go_enter Try.func111, Try.ntmps111
  go_wp2
  go_ret
  exact ⟨ret_bool (by simp), rfl⟩
theorem Compare_intB (a b : Int) (w : World) : Calls Try.prog 91 #[.int .i64 a, .int .i64 b] w fun e w' => e = .returned (.int .i64 (cmpI a b)) ∧ w = w' := by
  by_cases h1 : a < b
  · go_enter Try.func91, Try.ntmps91
    go_wp2_with (go_at_call 111; refine (isNaN_intB _ _).mono ?_; rintro e w' ⟨rfl, rfl⟩)
    go_ret
    exact ⟨ret_int (by unfold cmpI; rw [if_pos h1]), rfl⟩
  · by_cases h2 : b < a
    · go_enter Try.func91, Try.ntmps91
      go_wp2_with (go_at_call 111; refine (isNaN_intB _ _).mono ?_; rintro e w' ⟨rfl, rfl⟩)
      go_ret
      exact ⟨ret_int (by unfold cmpI; rw [if_neg (by omega), if_pos h2]), rfl⟩
    · go_enter Try.func91, Try.ntmps91
      go_wp2_with (go_at_call 111; refine (isNaN_intB _ _).mono ?_; rintro e w' ⟨rfl, rfl⟩)
      go_ret
      exact ⟨ret_int (by unfold cmpI; rw [if_neg (by omega), if_neg (by omega)]), rfl⟩
/-- Greater chances first. -/
def cfS (x y : Sector) : Int := cmpI y.chance x.chance
def ltS (x y : Sector) : Bool := decide (y.chance < x.chance)
theorem ltS_eq : ltOf' cfS = ltS := by
  funext x y
  unfold ltOf' cfS ltS
  exact decide_eq_decide.2 (cmpI_neg _ _)
def RS (x y : Sector) : Prop := y.chance < x.chance ∨ (x.chance = y.chance ∧ x.cell < y.cell)
def CS (x y : Sector) : Prop := x.cell < y.cell
theorem RS_trans (x y z : Sector) (h : RS x y) (k : RS y z) : RS x z := by unfold RS at *; omega
theorem RS_asym (x y : Sector) (h : RS x y) : ¬ RS y x := by unfold RS at *; omega
theorem RS_of (x y : Sector) (h : CS x y) : (ltOf' cfS y x = true → RS y x) ∧ (ltOf' cfS y x = false → RS x y) := by
  rw [ltS_eq]
  unfold ltS RS
  unfold CS at h
  constructor
  · intro k
    have := of_decide_eq_true k
    omega
  · intro k
    have := of_decide_eq_false k
    omega
theorem best1_any (x y : Sector) (w : World) : Calls Try.prog 90 #[.agg #[.int .i64 x.cell, .int .i64 x.chance], .agg #[.int .i64 y.cell, .int .i64 y.chance]] w fun e w' => e = .returned (.int .i64 (cfS x y)) ∧ Below w.heap.size w w' := by
  go_enter Try.func90, Try.ntmps90
  go_wp2_with (go_at_call 91; refine (Compare_intB _ _ _).mono ?_; rintro e w' ⟨rfl, rfl⟩)
  go_ret
  exact ⟨rfl, ((Below.refl _ _).alloc (Nat.le_refl _) _).alloc (by simp) _⟩
theorem best1_compares : Compares 90 #[] (fun x : Sector => .agg x.enc.toArray) cfS (fun _ => True) :=
  ⟨enters_of Try.func90 (by kernel_rfl) rfl, fun x y _ _ W => best1_any x y W⟩
theorem sec_pair {xs : List Sector} (h : sectorsB xs = true) : xs.Pairwise CS ∧ 1 ≤ xs.length ∧ xs.length ≤ 36 := by
  unfold sectorsB at h
  simp only [Bool.and_eq_true] at h
  have hl := inB_true h.2
  have step : ∀ k (hk : k + 1 < xs.length), xs[k].cell < xs[k + 1].cell := fun k hk => by
    have h1 := allTo_at h.1 hk
    unfold secAt at h1
    rw [List.getElem?_eq_getElem hk, Nat.add_sub_cancel, List.getElem?_eq_getElem (by omega : k < xs.length)] at h1
    simp only [Bool.and_eq_true, Bool.or_eq_true, beq_iff_eq, decide_eq_true_eq] at h1
    rcases h1.2 with h2 | h2
    · omega
    · exact h2
  have far : ∀ d i (hj : i + d + 1 < xs.length), (xs[i]'(by omega)).cell < xs[i + d + 1].cell := by
    intro d
    induction d with
    | zero => intro i hj; exact step i hj
    | succ d ih => intro i hj; have h1 := ih i (by omega); have h2 := step (i + d + 1) (by omega); exact Int.lt_trans h1 h2
  refine ⟨List.pairwise_iff_getElem.2 fun i j hi hj hij => ?_, by omega, by omega⟩
  have := far (j - i - 1) i (by omega)
  unfold CS
  simp only [show i + (j - i - 1) + 1 = j by omega] at this
  exact this
def bestM (xs : List Sector) (s : Int) : Option (List Int) := if sectorsB xs && inB s 1 6 then some (((sortR ltS xs).take s.toNat).map Sector.cell) else none
theorem bestM_len (xs : List Sector) (s : Int) : ((bestM xs s).getD []).length ≤ 36 := by
  unfold bestM
  split
  · rename_i h
    simp only [Bool.and_eq_true] at h
    have := (sec_pair h.1).2.2
    simp only [Option.getD_some, List.length_map, List.length_take, sortR_length]
    omega
  · simp
theorem row_split {w : World} {base n c : Nat} {A : Option Addr} {xs : List Sector} (h : w.ownsRow base 77 2 (.slice A n c) n (xs.flatMap Sector.enc)) (h0 : 0 < n) : ∃ (g : Nat) (rest : List Value), A = some ⟨g, 0, none⟩ ∧ base ≤ g ∧ Blk w g 77 (xs.flatMap Sector.enc ++ rest) ∧ n ≤ c := by
  rcases own_open h with ⟨_, rfl, _, _⟩ | ⟨g, cur, e, h1, h2, h3, h4, h5, h6⟩
  · omega
  · exact ⟨g, cur.drop (n * 2), e, h1, by rw [← h6, List.take_append_drop]; exact h2, h4⟩
theorem blk_sees {w : World} {g n t : Nat} {ys : List Sector} {rest : List Value} (h : Blk w g t (ys.flatMap Sector.enc ++ rest)) (hl : ys.length = n) : Sees w 0 2 (some ⟨g, 0, none⟩) n (ys.flatMap Sector.enc) := by
  refine ⟨by rw [flatMap_len (s := 2) _ (fun _ _ => rfl), hl], fun h0 => ⟨g, 0, rfl, Nat.zero_le _, h.lt, fun j u hu => ?_⟩⟩
  have h1 := h.cell j
  rw [Nat.zero_add, h1, List.getElem?_append_left ((List.getElem?_eq_some_iff.1 hu).1), hu]
theorem best_next {ys : List Sector} {k : Nat} (h : k < ys.length) : (ys.take (k + 1)).map Sector.cell = (ys.take k).map Sector.cell ++ [ys[k].cell] := by rw [List.take_succ_eq_append_getElem h, List.map_append]; rfl

set_option maxRecDepth 100000 in
set_option maxHeartbeats 4000000 in
theorem BestSectors_any (A : Option Addr) (n c : Nat) (xs : List Sector) (s : Int) (w : World) (hx : Sees w 0 2 A n (xs.flatMap Sector.enc)) (hn : n ≤ 1048576) :
    Calls Try.prog 44 #[.slice A n c, .int .i64 s] w (GivesInts w (bestM xs s)) := by
  have hl := hx.count (by decide) (fun _ => rfl)
  have HL := Lib.hid hl
  clear hl
  go_enter Try.func44, Try.ntmps44
  go_wp2_with fail
  refine (areSectors_any A n c xs w hx hn).mono ?_
  cases g1 : sectorsB xs
  · rintro e w1 ⟨rfl, b1⟩
    go_wp2_with fail
    go_ret2
    rw [show bestM xs s = none by simp [bestM, g1]]
    exact gives_nil b1
  · rintro e w1 ⟨rfl, b1⟩
    cases g2 : inB s 1 6
    · go_wp2_with (go_at_call 67; refine (inside_any _ _ _ _).mono ?_; rw [g2]; rintro e w' ⟨rfl, rfl⟩)
      go_ret2
      rw [show bestM xs s = none by simp [bestM, g1, g2]]
      exact gives_nil b1
    · obtain ⟨hpw, hl1, hl2⟩ := sec_pair g1
      obtain ⟨hs1, hs2⟩ := inB_true g2
      have HR := Lib.hid (show bestM xs s = some (((sortR ltS xs).take s.toNat).map Sector.cell) by simp [bestM, g1, g2])
      have hn0 : 0 < n := by have := HL.out; omega
      have hn36 : n ≤ 36 := by have := HL.out; omega
      have HPW := Lib.hid hpw
      clear hpw hl1 hl2 g1
      go_wp2_with (go_at_call 67; refine (inside_any _ _ _ _).mono ?_; rw [g2]; rintro e w' ⟨rfl, rfl⟩)
      refine (Clone_Sector A n c xs w1 (hx.next b1) hn0 (by omega)).mono ?_
      rintro e w2 ⟨A2, c2, rfl, o2, b2⟩
      obtain ⟨gb, rest, rfl, hgb, B2, hcap⟩ := row_split o2 hn0
      have K2 := bel_then b1 b2
      have hz1 := b1.size
      clear o2 b2 g2
      have U : Below w2.heap.size w2 (w2.alloc (.cells #[] 3)) := (Below.refl _ _).alloc (Nat.le_refl _) _
      have O3 := own_empty w2 3 1
      have hK2 := K2.size
      have B3 := B2.next U
      have hgl := B2.lt
      have K3 := bel_then K2 U
      clear U B2
      go_wp2_with fail
      generalize w2.alloc (.cells #[] 3) = w3 at *
      refine (SortStable_Sector 90 #[] cfS (fun _ => True) RS CS best1_compares RS_trans RS_asym RS_of gb c2 n 77 xs rest w3 B3 HL.out hn36 (fun _ _ => trivial) HPW.out).mono ?_
      rintro e w4 ⟨rfl, ys, B4, hys, o4⟩
      rw [ltS_eq] at hys
      have HY := Lib.hid hys
      have HYL := Lib.hid (show ys.length = n by rw [hys, sortR_length]; exact HL.out)
      have O4 := own_only O3 o4 (fun b hb (e : b = gb) => by have h5 : w2.heap.size = b := (by simpa [OwnB, Value.ownBlock] using hb); omega)
      have K4 := K3.trans (o4.below (fun b (hb : b = gb) => by omega) K3.size)
      have hz4 : w2.heap.size ≤ w4.heap.size := by
        have h7 := (O4.lt w2.heap.size (by simp [Value.ownBlock])).2
        omega
      clear hys B3 O3 o4 K3
      by_cases hsn : s ≤ (n : Int)
      · obtain ⟨k, rfl⟩ := Int.eq_ofNat_of_zero_le (show 0 ≤ s by omega)
        have hkn : k ≤ n := by omega
        have hkc : k ≤ c2 := by omega
        go_wp2_with fail
        go_loopw [7, 30] (fun v iv wr => ∃ (t : Nat) (A' : Option Addr) (c' : Nat), t ≤ k ∧ iv = .int .i64 (t : Int) ∧ v = .slice A' t c' ∧ wr.ownsRow w2.heap.size 3 1 (.slice A' t c') t (ints ((ys.take t).map Sector.cell)) ∧ Blk wr gb 77 (ys.flatMap Sector.enc ++ rest) ∧ w2.heap.size ≤ wr.heap.size ∧ Below w.heap.size w wr) (fun _ iv _ => k - (intOf iv).toNat)
        case atStart => exact ⟨0, _, _, Nat.zero_le _, rfl, rfl, O4, B4, hz4, K4⟩
        case round =>
          obtain ⟨t, A', c', ht, rfl, rfl, own, hB, hz5, hb⟩ := hrel
          by_cases hlt : t < k
          · have hty : t < ys.length := by rw [HYL.out]; omega
            have gt : (ys.flatMap Sector.enc ++ rest) = (ys.flatMap Sector.enc ++ rest) := rfl
            have hx2 : Sees wr 0 2 (some ⟨gb, 0, none⟩) n (ys.flatMap Sector.enc) := blk_sees hB HYL.out
            obtain ⟨b, off, hbe, hky, x0, x1⟩ := hx2.elem2 (fun _ => rfl) (show t < n by omega)
            obtain ⟨rfl, rfl⟩ : gb = b ∧ 0 = off := by simpa using hbe
            rw [Nat.zero_add] at x0 x1
            have HN := Lib.hid (best_next hty)
            have hgl2 := hB.lt
            go_wp2_with (at_builtin; go_loud (refine wpList_pushNew rfl _ _ _ rfl Try.underlying22 info_int rfl (by decide) rfl (own_alloc own _) rfl (by simp) (by rfl) (by rfl) (by omega) (by decide) (by simp; omega) ?_); intro A3 c3 w6 own3 ho3 hbb3 hat3)
            go_roundw
            case rel => exact ⟨t + 1, A3, c3, by omega, by go_num, rfl, by rw [HN.out]; simpa [ints] using own3, (hB.alloc _).only ho3 (fun e => by have := (own.lt _ (ownB_iff.2 e)).1; omega), by have := hbb3.size; simp at this; omega, (hb.alloc hb.size _).trans (hbb3.mono (by omega))⟩
            case measure => simp [intOf]; omega
          · obtain rfl : k = t := by omega
            go_wp2_with fail
            go_ret2
            have HL2 := Lib.hid (show ((ys.take k).map Sector.cell).length = k by rw [List.length_map, List.length_take, HYL.out]; omega)
            have HE := Lib.hid (show bestM xs (k : Int) = some ((ys.take k).map Sector.cell) by rw [HR.out, ← HY.out]; rw [Int.toNat_natCast])
            rw [HE.out]
            exact ⟨A', c', by show _ = Ending.returned (.tuple #[.slice A' ((ys.take k).map Sector.cell).length c', .bool true]); rw [HL2.out]; rfl, by have o5 := own_base own hK2; show World.ownsRow _ _ _ _ (.slice A' ((ys.take k).map Sector.cell).length c') ((ys.take k).map Sector.cell).length _; rw [HL2.out]; exact o5, hb⟩
      · have hns : ¬ s ≤ (n : Int) := hsn
        go_wp2_with fail
        go_loopw [7, 30] (fun v iv wr => ∃ (t : Nat) (A' : Option Addr) (c' : Nat), t ≤ n ∧ iv = .int .i64 (t : Int) ∧ v = .slice A' t c' ∧ wr.ownsRow w2.heap.size 3 1 (.slice A' t c') t (ints ((ys.take t).map Sector.cell)) ∧ Blk wr gb 77 (ys.flatMap Sector.enc ++ rest) ∧ w2.heap.size ≤ wr.heap.size ∧ Below w.heap.size w wr) (fun _ iv _ => n - (intOf iv).toNat)
        case atStart => exact ⟨0, _, _, Nat.zero_le _, rfl, rfl, O4, B4, hz4, K4⟩
        case round =>
          obtain ⟨t, A', c', ht, rfl, rfl, own, hB, hz5, hb⟩ := hrel
          by_cases hlt : t < n
          · have hty : t < ys.length := by rw [HYL.out]; omega
            have gt : (ys.flatMap Sector.enc ++ rest) = (ys.flatMap Sector.enc ++ rest) := rfl
            have hx2 : Sees wr 0 2 (some ⟨gb, 0, none⟩) n (ys.flatMap Sector.enc) := blk_sees hB HYL.out
            obtain ⟨b, off, hbe, hky, x0, x1⟩ := hx2.elem2 (fun _ => rfl) (show t < n by omega)
            obtain ⟨rfl, rfl⟩ : gb = b ∧ 0 = off := by simpa using hbe
            rw [Nat.zero_add] at x0 x1
            have HN := Lib.hid (best_next hty)
            have hgl2 := hB.lt
            go_wp2_with (at_builtin; go_loud (refine wpList_pushNew rfl _ _ _ rfl Try.underlying22 info_int rfl (by decide) rfl (own_alloc own _) rfl (by simp) (by rfl) (by rfl) (by omega) (by decide) (by simp; omega) ?_); intro A3 c3 w6 own3 ho3 hbb3 hat3)
            go_roundw
            case rel => exact ⟨t + 1, A3, c3, by omega, by go_num, rfl, by rw [HN.out]; simpa [ints] using own3, (hB.alloc _).only ho3 (fun e => by have := (own.lt _ (ownB_iff.2 e)).1; omega), by have := hbb3.size; simp at this; omega, (hb.alloc hb.size _).trans (hbb3.mono (by omega))⟩
            case measure => simp [intOf]; omega
          · obtain rfl : n = t := by omega
            go_wp2_with fail
            go_ret2
            have HL2 := Lib.hid (show ((ys.take n).map Sector.cell).length = n by rw [List.length_map, List.length_take, HYL.out]; omega)
            have HE := Lib.hid (show bestM xs s = some ((ys.take n).map Sector.cell) by rw [HR.out, ← HY.out]; rw [List.take_of_length_le (by rw [HYL.out]; omega), List.take_of_length_le (by rw [HYL.out]; exact Nat.le_refl _)])
            rw [HE.out]
            exact ⟨A', c', by show _ = Ending.returned (.tuple #[.slice A' ((ys.take n).map Sector.cell).length c', .bool true]); rw [HL2.out]; rfl, by have o5 := own_base own hK2; show World.ownsRow _ _ _ _ (.slice A' ((ys.take n).map Sector.cell).length c') ((ys.take n).map Sector.cell).length _; rw [HL2.out]; exact o5, hb⟩

end Go.Proofs.Ytjcmlloglnkbfaa
