/- slices.Insert of one area, at a row of the call's own. -/
import Derived.Test.YtljiflbaknakaaaAreaT
import Derived.Test.YtljiflbaknakaaaOwn
import Derived.Shelf.Spec.SlicesInsertGrow
namespace Go.Proofs.Ytljiflbaknakaaa
open Go.RowKit Go.Lib

theorem setCells_many (g : Nat) : ∀ (vs : List Value) (w : World) (i : Nat), w.setCells g i vs = setManyW w g i vs
  | [], _, _ => rfl
  | v :: vs, w, i => by rw [World.setCells, setManyW, setCells_many g vs]
theorem run_copy_many {P : Program} (w : World) (dT sT ty elem : TypeId) (b o dLen dCap : Nat) (a : Addr) (sLen sCap s k : Nat) (cs : List Value)
    (hu : P.underlying dT = some (.slice elem)) (hs : (P.info? elem).map (·.size) = some s) (hk : Nat.min sLen dLen = k) (hn : cs.length = k * s)
    (hsrc : ∀ j v, cs[j]? = some v → w.cell? (a.add j) = some v) (hc : ∀ j, j < cs.length → (w.cell? ⟨b, o + j, none⟩).isSome = true) (hf : ∀ j, j < cs.length → w.frozen? ⟨b, o + j, none⟩ = false) (h1 : ∀ v ∈ cs, v.oneCell' = true) :
    (Builtin.copy_ #[dT, sT] ty #[.slice (some ⟨b, o, none⟩) dLen dCap, .slice (some a) sLen sCap]).run P w = .ok (goInt k) (w.setCells b o cs) := by
  have hl := run_loadCells_list (P := P) w a cs hsrc
  have hst := run_storeCells_cells (P := P) b o cs 0 w (by simpa using hc) (by simpa using hf) h1
  cases hq : P.info? elem with
  | none => simp [hq] at hs
  | some i =>
    have hi : i.size = s := by simpa [hq] using hs
    simp [Builtin.copy_, run_underlying hu, Builtin.lenOf, Builtin.firstCells, sizeOf, typeInfo, hq, hi, hk, ← hn, hl, hst]
/-- One element of s cells put in at place i of a row. -/
theorem ins_cells {X X1 X2 cs vs : List Value} {i n s : Nat} (hcl : cs.length = n * s) (hvl : vs.length = s) (hi : i ≤ n) (hX : (n + 1) * s ≤ X.length) (ht : X.take (i * s) = cs.take (i * s))
    (h1 : X1 = setMany X ((i + 1) * s) (cs.drop (i * s))) (h2 : X2 = setMany X1 (i * s) vs) : X2.take ((n + 1) * s) = cs.take (i * s) ++ vs ++ cs.drop (i * s) := by
  subst h1 h2
  have e1 : (n + 1) * s = n * s + s := Nat.succ_mul _ _
  have e2 : (i + 1) * s = i * s + s := Nat.succ_mul _ _
  have e3 : i * s ≤ n * s := Nat.mul_le_mul_right _ hi
  refine List.ext_getElem? fun j => ?_
  have hd : (cs.drop (i * s)).length = n * s - i * s := by rw [List.length_drop, hcl]
  have htk : (cs.take (i * s)).length = i * s := by rw [List.length_take, hcl]; omega
  by_cases hj : j < (n + 1) * s
  · rw [List.getElem?_take_of_lt hj, setMany_get _ _ _ _ (by rw [setMany_length]; omega)]
    by_cases h3 : i * s ≤ j ∧ j < i * s + vs.length
    · rw [if_pos h3, List.getElem?_append_left (by rw [List.length_append]; omega), List.getElem?_append_right (by omega), htk]
    · rw [if_neg h3, setMany_get _ _ _ _ (by omega)]
      by_cases h4 : (i + 1) * s ≤ j ∧ j < (i + 1) * s + (cs.drop (i * s)).length
      · rw [if_pos h4, List.getElem?_append_right (by rw [List.length_append]; omega), List.length_append, htk, hvl, e2]
      · have h5 : j < i * s := by omega
        rw [if_neg h4, List.append_assoc, List.getElem?_append_left (by omega), ← ht, List.getElem?_take_of_lt h5]
  · rw [List.getElem?_eq_none (by rw [List.length_take]; omega), List.getElem?_eq_none (by simp only [List.length_append]; omega)]
/-- The same, the element written first. -/
theorem ins_cells' {X X1 X2 cs vs : List Value} {i n s : Nat} (hcl : cs.length = n * s) (hvl : vs.length = s) (hi : i ≤ n) (hX : (n + 1) * s ≤ X.length) (ht : X.take (i * s) = cs.take (i * s))
    (h1 : X1 = setMany X (i * s) vs) (h2 : X2 = setMany X1 ((i + 1) * s) (cs.drop (i * s))) : X2.take ((n + 1) * s) = cs.take (i * s) ++ vs ++ cs.drop (i * s) := by
  subst h1 h2
  have e1 : (n + 1) * s = n * s + s := Nat.succ_mul _ _
  have e2 : (i + 1) * s = i * s + s := Nat.succ_mul _ _
  have e3 : i * s ≤ n * s := Nat.mul_le_mul_right _ hi
  refine List.ext_getElem? fun j => ?_
  have hd : (cs.drop (i * s)).length = n * s - i * s := by rw [List.length_drop, hcl]
  have htk : (cs.take (i * s)).length = i * s := by rw [List.length_take, hcl]; omega
  by_cases hj : j < (n + 1) * s
  · rw [List.getElem?_take_of_lt hj, setMany_get _ _ _ _ (by rw [setMany_length]; omega)]
    by_cases h4 : (i + 1) * s ≤ j ∧ j < (i + 1) * s + (cs.drop (i * s)).length
    · rw [if_pos h4, List.getElem?_append_right (by rw [List.length_append]; omega), List.length_append, htk, hvl, e2]
    · rw [if_neg h4, setMany_get _ _ _ _ (by omega)]
      by_cases h3 : i * s ≤ j ∧ j < i * s + vs.length
      · rw [if_pos h3, List.getElem?_append_left (by rw [List.length_append]; omega), List.getElem?_append_right (by omega), htk]
      · have h5 : j < i * s := by omega
        rw [if_neg h3, List.append_assoc, List.getElem?_append_left (by omega), ← ht, List.getElem?_take_of_lt h5]
  · rw [List.getElem?_eq_none (by rw [List.length_take]; omega), List.getElem?_eq_none (by simp only [List.length_append]; omega)]
theorem Blk.cellsB {w : World} {g t i : Nat} {cs : List Value} (h : Blk w g t cs) (vs : List Value) : Blk (w.setCells g i vs) g t (setMany cs i vs) := by
  rw [setCells_many]
  exact h.many vs i
theorem only_cells {S : Nat → Prop} {a w : World} {g : Nat} (hg : S g) (h : Only S a w) (vs : List Value) (i : Nat) : Only S a (w.setCells g i vs) := by
  rw [setCells_many]
  exact Only.many hg vs h i
/-- What slices.Insert gives. -/
def InsOf (base : Nat) (w : World) (A : Option Addr) (n : Nat) (xs : List Value) (e : Ending) (w' : World) : Prop :=
  ∃ (A' : Option Addr) (c' : Nat), e = .returned (.slice A' (n + 1) c') ∧ w'.ownsRow base 62 4 (.slice A' (n + 1) c') (n + 1) xs ∧ Only (OwnB A) w w' ∧ Below base w w' ∧ ∀ b, OwnB A' b → OwnB A b ∨ w.heap.size ≤ b

set_option maxHeartbeats 4000000 in
set_option maxRecDepth 100000 in
/-- at the end -/
theorem Insert_end (base n c vb : Nat) (A : Option Addr) (cs vs : List Value) (w : World) (h : w.ownsRow base 62 4 (.slice A n c) n cs) (hb : base ≤ w.heap.size) (hn : n ≤ 1000)
    (hv : Blk w vb 62 vs) (hvl : vs.length = 4) (h1 : vs.all Value.oneCell' = true) :
    Calls Try.prog 87 #[.slice A n c, .int .i64 (n : Int), .slice (some ⟨vb, 0, none⟩) 1 1] w (InsOf base w A n (cs ++ vs)) := by
  rcases own_open h with ⟨rfl, rfl, rfl, rfl⟩ | ⟨g, cur, rfl, hg, hB, hcl, hnc, hcm, htk⟩
  · go_enter Try.func87, Try.ntmps87
    go_wp2_with (at_builtin; go_loud (refine wpList_cat rfl _ _ _ (by rfl) Try.underlying31 info_impl_Area rfl (by decide) (by rfl) h (by rfl) (m := 1) (hv.sees (s := 4) (Nat.zero_le _) hvl) h1 (by omega) (by omega) (by decide) (by omega) ?_); intro A5 c5 w5 o5 h5 b5 q5)
    go_ret
    exact ⟨A5, c5, rfl, o5, h5, b5, q5⟩
  · have hc : c ≤ 9223372036854775807 := by simp only [maxLen] at hcm; omega
    by_cases hcn : c = n
    · subst hcn
      go_enter Try.func87, Try.ntmps87
      go_wp2_with (at_builtin; go_loud (refine wpList_cat rfl _ _ _ (by rfl) Try.underlying31 info_impl_Area rfl (by decide) (by rfl) h (by rfl) (m := 1) (hv.sees (s := 4) (Nat.zero_le _) hvl) h1 (by omega) (by omega) (by decide) (by omega) ?_); intro A5 c5 w5 o5 h5 b5 q5)
      go_ret
      exact ⟨A5, c5, rfl, o5, h5, b5, q5⟩
    · go_enter Try.func87, Try.ntmps87
      go_wp2_with (at_builtin; go_loud (refine wpList_cat rfl _ _ _ (by rfl) Try.underlying31 info_impl_Area rfl (by decide) (by rfl) h (by rfl) (m := 1) (hv.sees (s := 4) (Nat.zero_le _) hvl) h1 (by omega) (by omega) (by decide) (by omega) ?_); intro A5 c5 w5 o5 h5 b5 q5)
      go_ret
      exact ⟨A5, c5, rfl, o5, h5, b5, q5⟩

set_option maxHeartbeats 4000000 in
set_option maxRecDepth 100000 in
/-- within, in place -/
theorem Insert_shift (base n c i vb g : Nat) (cur cs vs : List Value) (w : World) (hg : base ≤ g) (hB : Blk w g 62 cur) (hcl : cur.length = c * 4) (hcm : c ≤ maxLen) (htk : cur.take (n * 4) = cs) (h1c : ∀ v ∈ cs, v.oneCell' = true) (hi : i < n) (hroom : n + 1 ≤ c) (hn : n ≤ 1000)
    (hv : Blk w vb 62 vs) (hvl : vs.length = 4) (h1 : vs.all Value.oneCell' = true) (hne : vb ≠ g) (hb : base ≤ w.heap.size) :
    Calls Try.prog 87 #[.slice (some ⟨g, 0, none⟩) n c, .int .i64 (i : Int), .slice (some ⟨vb, 0, none⟩) 1 1] w (InsOf base w (some ⟨g, 0, none⟩) n (cs.take (i * 4) ++ vs ++ cs.drop (i * 4))) := by
  have hc63 : c ≤ 9223372036854775807 := by simp only [maxLen] at hcm; omega
  have hcsl : cs.length = n * 4 := by rw [← htk, List.length_take]; omega
  have hdl : (cs.drop (i * 4)).length = (n - i) * 4 := by rw [List.length_drop, hcsl]; omega
  have hcell : ∀ j v, cs[j]? = some v → w.cell? ⟨g, j, none⟩ = some v := fun j v hj => by
    rw [hB.cell]
    rw [← htk] at hj
    rw [List.getElem?_take] at hj
    split at hj
    · exact hj
    · cases hj
  have hin : ∀ j, j < c * 4 → (w.cell? ⟨g, j, none⟩).isSome = true := fun j hj => by rw [hB.cell, List.getElem?_eq_getElem (by omega)]; rfl
  have hsz : (Try.prog.info? 62).map (·.size) = some 4 := by kernel_rfl
  have hsa : w.shape? vb = some (62, 4) := by simp [World.shape?, show w.heap[vb]? = _ from hv, hvl]
  have hsb : w.shape? g = some (62, c * 4) := by simp [World.shape?, show w.heap[g]? = _ from hB, hcl]
  have hov : ∀ lb cb, (callFunc 111 #[.slice (some ⟨vb, 0, none⟩) 1 1, .slice (some ⟨g, (i + 1) * 4, none⟩) lb cb]).run Try.prog w = .ok (.value (.bool false)) w := fun lb cb => by
    rw [run_callFunc_extern Try.func111 (by kernel_rfl) (by kernel_rfl) (by kernel_rfl) (e := Extern.SlicesOverlaps.overlaps #[31, 31] #[4]) (by kernel_rfl),
      Lib.run_overlaps_apart w 31 4 62 Try.underlying31 4 Try.sizeOf62 ⟨vb, 0, none⟩ ⟨g, (i + 1) * 4, none⟩ 1 1 lb cb hne _ _ _ _ hsa hsb (by omega) (hv.frozen 0) (hv.frozen 4)]
    rfl
  have hcp1 : ∀ ty o' a' dL dc sL sc, o' = (i + 1) * 4 → a' = i * 4 → dL = n - i → sL = n + 1 - i → (Builtin.copy_ #[31, 31] ty #[.slice (some ⟨g, o', none⟩) dL dc, .slice (some ⟨g, a', none⟩) sL sc]).run Try.prog w.drew = .ok (goInt ((n - i : Nat) : Int)) (w.drew.setCells g ((i + 1) * 4) (cs.drop (i * 4))) := fun ty o' a' dL dc sL sc e1 e2 e3 e4 => by
    subst e1 e2 e3 e4
    exact run_copy_many w.drew _ _ ty 62 g ((i + 1) * 4) (n - i) dc ⟨g, i * 4, none⟩ (n + 1 - i) sc 4 (n - i) (cs.drop (i * 4)) Try.underlying31 hsz (by simp only [Nat.min_def]; split <;> omega) hdl
      (fun j v hj => by rw [Addr.add_lit]; exact hcell (i * 4 + j) v (by rwa [List.getElem?_drop] at hj)) (fun j hj => hin _ (by omega)) (fun j _ => hB.frozen _) (fun v hv => h1c v (List.mem_of_mem_drop hv))
  obtain ⟨W1, hW1⟩ : ∃ W1, W1 = w.drew.setCells g ((i + 1) * 4) (cs.drop (i * 4)) := ⟨_, rfl⟩
  have B1 : Blk W1 g 62 (setMany cur ((i + 1) * 4) (cs.drop (i * 4))) := by rw [hW1]; exact (show Blk w.drew g _ cur from hB).cellsB _
  have V1 : Blk W1 vb 62 vs := by
    rw [hW1]
    exact (show Blk w.drew vb _ vs from hv).only (only_cells (S := fun b => b = g) rfl (Only.refl _ _) _ _) hne
  have hcp2 : ∀ (W : World), (∀ x, W.cell? x = W1.cell? x) → (∀ x, W.frozen? x = W1.frozen? x) → ∀ ty o' dL dc, o' = i * 4 → dL = n + 1 - i → (Builtin.copy_ #[31, 31] ty #[.slice (some ⟨g, o', none⟩) dL dc, .slice (some ⟨vb, 0, none⟩) 1 1]).run Try.prog W = .ok (goInt 1) (W.setCells g (i * 4) vs) := fun W hWc hWf ty o' dL dc e1 e2 => by
    subst e1 e2
    exact run_copy_many W _ _ ty 62 g (i * 4) (n + 1 - i) dc ⟨vb, 0, none⟩ 1 1 4 1 vs Try.underlying31 hsz (by simp only [Nat.min_def]; split <;> omega) hvl
      (fun j v hj => by rw [Addr.add_lit, hWc, V1.cell]; simpa using hj) (fun j hj => by rw [hWc, B1.cell, List.getElem?_eq_getElem (by rw [setMany_length]; omega)]; rfl) (fun j _ => by rw [hWf]; exact B1.frozen _) (List.all_eq_true.1 h1)
  have hfin : InsOf base w (some ⟨g, 0, none⟩) n (cs.take (i * 4) ++ vs ++ cs.drop (i * 4)) (.returned (.slice (some ⟨g, 0, none⟩) (n + 1) c)) (W1.setCells g (i * 4) vs) := by
    have O : Only (OwnB (some ⟨g, 0, none⟩)) w (W1.setCells g (i * 4) vs) := by
      rw [hW1]
      exact only_cells (S := OwnB (some ⟨g, 0, none⟩)) rfl (only_cells (S := OwnB (some ⟨g, 0, none⟩)) rfl ((Only.refl _ _).quiet (Quiet.one w)) _ _) _ _
    exact ⟨_, c, rfl, own_shut hg (B1.cellsB vs) (by simp only [setMany_length]; exact hcl) hroom hcm (ins_cells hcsl hvl (Nat.le_of_lt hi) (by omega) (by rw [← htk, List.take_take, Nat.min_eq_left (by omega)]) rfl rfl), O, O.below (fun b hb => by have h : g = b := (by simpa [OwnB, Value.ownBlock] using hb); omega) hb, fun b hb => .inl hb⟩
  have hw1 : IntKind.i64.wrap ((i : Int) + 1) = (i : Int) + 1 := by rw [IntKind.wrap_i64]; omega
  have hz2 : ¬ ((i : Int) = (n : Int)) := by omega
  have hb1 : (0 : Int) ≤ (i : Int) + 1 := by omega
  have hin' : i ≤ n := by omega
  have htn : ((i : Int) + 1).toNat = i + 1 := by omega
  have hb2 : ¬ (c = i + 1) := by omega
  have hb3 : (i : Int) ≤ (n : Int) + 1 := by omega
  have hb4 : ¬ (c = i) := by omega
  have hfin2 := hfin
  rw [hW1] at hfin2
  obtain ⟨R, hR⟩ : ∃ R, cs.take (i * 4) ++ vs ++ cs.drop (i * 4) = R := ⟨_, rfl⟩
  rw [hR] at hfin hfin2
  rw [hR]
  have HF := Lib.hid hfin
  have HF2 := Lib.hid hfin2
  have mixed : Try.prog.follows .mixedOrders = true := by kernel_rfl
  clear hfin hfin2 hR
  go_enter Try.func87, Try.ntmps87
  go_wp2_with (simp only [hov])
  go_region_law_o (refine step_copy_runI rfl _ _ 31 31 rfl _ _ (by simp [Act.eval, Act.put]) (by simp [Act.eval, Act.put]) (hcp1 _ _ _ _ _ _ _ (by omega) (by omega) (by omega) (by omega)) ?_)
  rw [← hW1]
  go_wp2_with (at_builtin; refine wpList_copy_runI _ rfl _ _ 31 31 rfl _ _ rfl rfl (hcp2 _ (fun _ => rfl) (fun _ => rfl) _ _ _ _ (by omega) (by omega)) ?_)
  go_ret
  first | exact HF2.out | exact HF.out

set_option maxHeartbeats 4000000 in
set_option maxRecDepth 100000 in
/-- within, in a new row -/
theorem Insert_grow (base n c i vb g : Nat) (cur cs vs : List Value) (w : World) (hB : Blk w g 62 cur) (hcl : cur.length = c * 4) (hnc : n ≤ c) (htk : cur.take (n * 4) = cs) (h1c : ∀ v ∈ cs, v.oneCell' = true) (hi : i < n) (hroom : c < n + 1) (hn : n ≤ 1000)
    (hv : Blk w vb 62 vs) (hvl : vs.length = 4) (h1 : vs.all Value.oneCell' = true) (hb : base ≤ w.heap.size) :
    Calls Try.prog 87 #[.slice (some ⟨g, 0, none⟩) n c, .int .i64 (i : Int), .slice (some ⟨vb, 0, none⟩) 1 1] w (InsOf base w (some ⟨g, 0, none⟩) n (cs.take (i * 4) ++ vs ++ cs.drop (i * 4))) := by
  have hcsl : cs.length = n * 4 := by rw [← htk, List.length_take]; omega
  have hdl : (cs.drop (i * 4)).length = (n - i) * 4 := by rw [List.length_drop, hcsl]; omega
  have hcell : ∀ j v, cs[j]? = some v → w.cell? ⟨g, j, none⟩ = some v := fun j v hj => by
    rw [hB.cell]
    rw [← htk] at hj
    rw [List.getElem?_take] at hj
    split at hj
    · exact hj
    · cases hj
  have hsz : (Try.prog.info? 62).map (·.size) = some 4 := by kernel_rfl
  obtain ⟨i0, hi0, hz0, hzs, hzb⟩ := info_parts info_impl_Area
  have hbw : g < w.heap.size := hB.lt
  have hvw : vb < w.heap.size := hv.lt
  have hik : i + (n + 1 - i) = n + 1 := by omega
  have hold : (Builtin.firstCells i0.size i (.slice (some ⟨g, 0, none⟩) i c)).run Try.prog w.drew = .ok (cs.take (i * 4)).toArray w.drew := by
    rw [hzs]
    exact run_firstCells_some w.drew 4 i ⟨g, 0, none⟩ i c (cs.take (i * 4)) (by rw [List.length_take]; omega) (fun j v hj => by
      rw [Addr.add_lit, Nat.zero_add]
      rw [List.getElem?_take] at hj
      split at hj
      · exact hcell j v hj
      · cases hj)
  obtain ⟨z, hz⟩ : ∃ z : Value, (.agg #[.int .i64 0, .slice none 0 0, .int .i64 0, .int .i64 0]) = z := ⟨_, rfl⟩
  have hzc : z.cells.size = 4 := by rw [← hz]; rfl
  rw [hz] at hz0
  obtain ⟨G, hG⟩ : ∃ G, G = grownCap w (n + 1) c 62 := ⟨_, rfl⟩
  obtain ⟨ROW, hROW⟩ : ∃ ROW : List Value, ROW = cs.take (i * 4) ++ (Builtin.zeroCells z.cells (n + 1 - i)).toList ++ (Builtin.zeroCells z.cells (G - (n + 1))).toList := ⟨_, rfl⟩
  have hrz : ∀ ty (q : Int), q = ((n + 1 - i : Nat) : Int) → (Builtin.append_ #[31, 3] ty #[.slice (some ⟨g, 0, none⟩) i c, .int .i64 q]).run Try.prog w = .ok (.slice (some ⟨w.heap.size, 0, none⟩) (n + 1) G) (w.drew.alloc (.cells ROW.toArray 62)) := fun ty q hq => by
    subst hq
    have h := Lib.run_append_grow_zeros w 31 3 ty 62 i0 _ .i64 .i64 Try.underlying31 Try.underlying3 hi0 hz0 (some ⟨g, 0, none⟩) i c (cs.take (i * 4)) hold (n + 1 - i) (by omega) (by omega) (by omega) (by omega) (by rw [hzb]; omega) (by rw [hzb, hik]; exact growslice_fits hroom (by omega))
    rw [hik, ← hG] at h
    have hrow : (cs.take (i * 4)).toArray ++ Builtin.zeroCells z.cells (n + 1 - i) ++ Builtin.zeroCells z.cells (G - (n + 1)) = ROW.toArray := by
      rw [hROW]
      apply Array.ext'
      simp only [Array.toList_append]
    rw [h, hrow]
  have hGn : n + 1 ≤ G := by rw [hG]; exact grownCap_ge w _ _ _
  have hG63 : G ≤ 9223372036854775807 := by
    have := grownCap_le_maxLen w (n + 1) c 62 (by unfold maxLen; omega)
    rw [← hG] at this
    unfold maxLen at this
    omega
  have htl : (cs.take (i * 4)).length = i * 4 := by rw [List.length_take]; omega
  have hRl : ROW.length = G * 4 := by
    rw [hROW]
    simp only [List.length_append, htl, Array.length_toList, Builtin.zeroCells, Array.size_map, Array.size_range, hzc]
    omega
  have hRt : ROW.take (i * 4) = cs.take (i * 4) := by rw [hROW, List.append_assoc, List.take_append_of_le_length (by omega), List.take_of_length_le (by omega)]
  obtain ⟨W1, hW1⟩ : ∃ W1, W1 = w.drew.alloc (.cells ROW.toArray 62) := ⟨_, rfl⟩
  have R1 : Blk W1 w.heap.size 62 ROW := by rw [hW1]; exact Blk.at_ rfl
  have bw1 : Below w.heap.size w W1 := by rw [hW1]; exact ((Quiet.one w).below _).alloc (Nat.le_refl _) _
  have V1 := hv.next bw1
  have G1 := hB.next bw1
  rw [← hW1] at hrz
  have hcpA : ∀ (W : World), (∀ x, W.cell? x = W1.cell? x) → (∀ x, W.frozen? x = W1.frozen? x) → ∀ ty o' dL dc, o' = i * 4 → dL = n + 1 - i → (Builtin.copy_ #[31, 31] ty #[.slice (some ⟨w.heap.size, o', none⟩) dL dc, .slice (some ⟨vb, 0, none⟩) 1 1]).run Try.prog W = .ok (goInt 1) (W.setCells w.heap.size (i * 4) vs) := fun W hWc hWf ty o' dL dc e1 e2 => by
    subst e1 e2
    exact run_copy_many W _ _ ty 62 w.heap.size (i * 4) (n + 1 - i) dc ⟨vb, 0, none⟩ 1 1 4 1 vs Try.underlying31 hsz (by simp only [Nat.min_def]; split <;> omega) hvl
      (fun j v hj => by rw [Addr.add_lit, hWc, V1.cell]; simpa using hj) (fun j hj => by rw [hWc, R1.cell, List.getElem?_eq_getElem (by omega)]; rfl) (fun j _ => by rw [hWf]; exact R1.frozen _) (List.all_eq_true.1 h1)
  have R2 : Blk (W1.setCells w.heap.size (i * 4) vs) w.heap.size 62 (setMany ROW (i * 4) vs) := R1.cellsB vs
  have G2 : Blk (W1.setCells w.heap.size (i * 4) vs) g 62 cur := G1.only (only_cells (S := fun b => b = w.heap.size) rfl (Only.refl _ _) _ _) (by omega)
  have hcpB : ∀ (W : World), (∀ x, W.cell? x = (W1.setCells w.heap.size (i * 4) vs).cell? x) → (∀ x, W.frozen? x = (W1.setCells w.heap.size (i * 4) vs).frozen? x) → ∀ ty o' a' dL dc sL sc, o' = (i + 1) * 4 → a' = i * 4 → dL = n - i → sL = n - i → (Builtin.copy_ #[31, 31] ty #[.slice (some ⟨w.heap.size, o', none⟩) dL dc, .slice (some ⟨g, a', none⟩) sL sc]).run Try.prog W = .ok (goInt ((n - i : Nat) : Int)) (W.setCells w.heap.size ((i + 1) * 4) (cs.drop (i * 4))) := fun W hWc hWf ty o' a' dL dc sL sc e1 e2 e3 e4 => by
    subst e1 e2 e3 e4
    exact run_copy_many W _ _ ty 62 w.heap.size ((i + 1) * 4) (n - i) dc ⟨g, i * 4, none⟩ (n - i) sc 4 (n - i) (cs.drop (i * 4)) Try.underlying31 hsz (by simp) hdl
      (fun j v hj => by
        rw [Addr.add_lit, hWc, G2.cell, ← hB.cell]
        exact hcell (i * 4 + j) v (by rwa [List.getElem?_drop] at hj))
      (fun j hj => by rw [hWc, R2.cell, List.getElem?_eq_getElem (by rw [setMany_length]; omega)]; rfl) (fun j _ => by rw [hWf]; exact R2.frozen _) (fun v hv => h1c v (List.mem_of_mem_drop hv))
  have hfin : ∀ W : World, W = ((W1.setCells w.heap.size (i * 4) vs).drew).setCells w.heap.size ((i + 1) * 4) (cs.drop (i * 4)) → InsOf base w (some ⟨g, 0, none⟩) n (cs.take (i * 4) ++ vs ++ cs.drop (i * 4)) (.returned (.slice (some ⟨w.heap.size, 0, none⟩) (n + 1) G)) W := fun W hW => by
    subst hW
    have O2 : Only (fun b => b = w.heap.size) W1 (((W1.setCells w.heap.size (i * 4) vs).drew).setCells w.heap.size ((i + 1) * 4) (cs.drop (i * 4))) := only_cells (S := fun b => b = w.heap.size) rfl ((only_cells (S := fun b => b = w.heap.size) rfl (Only.refl _ _) _ _).quiet (Quiet.one _)) _ _
    have B2 : Below w.heap.size w (((W1.setCells w.heap.size (i * 4) vs).drew).setCells w.heap.size ((i + 1) * 4) (cs.drop (i * 4))) := bw1.trans (O2.below (fun b (e : _ = _) => by omega) bw1.size)
    refine ⟨_, G, rfl, own_shut hb ((show Blk (W1.setCells w.heap.size (i * 4) vs).drew _ _ _ from R2).cellsB _) (by simp only [setMany_length]; exact hRl) hGn (by simp only [maxLen]; omega) (ins_cells' hcsl hvl (Nat.le_of_lt hi) (by omega) hRt rfl rfl), Only.of_below B2, B2.mono hb, fun b hb => ?_⟩
    have h : w.heap.size = b := by simpa [OwnB, Value.ownBlock] using hb
    exact .inr (by omega)
  have hw1 : IntKind.i64.wrap ((i : Int) + 1) = (i : Int) + 1 := by rw [IntKind.wrap_i64]; omega
  have hz2 : ¬ ((i : Int) = (n : Int)) := by omega
  have hz3 : (c : Int) < (n : Int) + 1 := by omega
  have hb1 : (0 : Int) ≤ (i : Int) + 1 := by omega
  have hin' : i ≤ n := by omega
  have htn : ((i : Int) + 1).toNat = i + 1 := by omega
  have hb3 : (i : Int) ≤ (n : Int) := by omega
  have hGi : ¬ (G = i) := by omega
  have hGim : ¬ (G = i + 1) := by omega
  have hci : ¬ (c = i) := by omega
  obtain ⟨R, hR⟩ : ∃ R, cs.take (i * 4) ++ vs ++ cs.drop (i * 4) = R := ⟨_, rfl⟩
  rw [hR] at hfin
  rw [hR]
  have HF := Lib.hid hfin
  have mixed : Try.prog.follows .mixedOrders = true := by kernel_rfl
  clear hfin hR hROW hG hold hik hRl hRt hz hz0
  subst hW1
  have hE1 : ∀ x, ((w.alloc (.cells ROW.toArray 62)).drew).cell? x = (w.drew.alloc (.cells ROW.toArray 62)).cell? x := fun x => rfl
  have hE2 : ∀ x, ((w.alloc (.cells ROW.toArray 62)).drew).frozen? x = (w.drew.alloc (.cells ROW.toArray 62)).frozen? x := fun x => rfl
  have hF1 : ∀ x, (((w.alloc (.cells ROW.toArray 62)).drew.setCells w.heap.size (i * 4) vs).drew).cell? x = ((w.drew.alloc (.cells ROW.toArray 62)).setCells w.heap.size (i * 4) vs).cell? x := fun x => rfl
  have hF2 : ∀ x, (((w.alloc (.cells ROW.toArray 62)).drew.setCells w.heap.size (i * 4) vs).drew).frozen? x = ((w.drew.alloc (.cells ROW.toArray 62)).setCells w.heap.size (i * 4) vs).frozen? x := fun x => rfl
  go_enter Try.func87, Try.ntmps87
  go_wp2_with (first
    | (at_builtin; refine Lib.wpList_append_run _ rfl _ _ _ _ rfl _ _ rfl rfl _ _ (hrz _ _ (by omega)) ?_)
    | (at_builtin; refine wpList_copy_runI _ rfl _ _ 31 31 rfl _ _ rfl rfl (hcpA _ hE1 hE2 _ _ _ _ (by omega) (by omega)) ?_)
    | (at_builtin; refine wpList_copy_runI _ rfl _ _ 31 31 rfl _ _ rfl rfl (hcpA _ (fun _ => rfl) (fun _ => rfl) _ _ _ _ (by omega) (by omega)) ?_))
  go_region_law_o (refine step_copy_runI rfl _ _ 31 31 rfl (.slice (some ⟨w.heap.size, (i + 1) * 4, none⟩) (n - i) (G - (i + 1))) (.slice (some ⟨g, i * 4, none⟩) (n - i) (c - i)) (by simp [Act.eval, Act.put]) (by simp [Act.eval, Act.put]) (hcpB _ hF1 hF2 3 _ _ _ (G - (i + 1)) _ (c - i) rfl rfl rfl rfl) ?_)
  go_wp2
  go_ret
  exact HF.out _ rfl

theorem areas_one (rs : List (Hd Area)) : ∀ v ∈ rs.flatMap areaSh.enc, v.oneCell' = true := by
  intro v hv
  obtain ⟨r, _, h⟩ := List.mem_flatMap.1 hv
  simp only [areaSh, List.mem_cons, List.not_mem_nil, or_false] at h
  rcases h with rfl | rfl | rfl | rfl <;> rfl
theorem Insert_any (base n c i vb : Nat) (A : Option Addr) (cs vs : List Value) (w : World) (h : w.ownsRow base 62 4 (.slice A n c) n cs) (h1c : ∀ v ∈ cs, v.oneCell' = true) (hi : i ≤ n) (hb : base ≤ w.heap.size) (hn : n ≤ 1000)
    (hv : Blk w vb 62 vs) (hvl : vs.length = 4) (h1 : vs.all Value.oneCell' = true) (hne : ¬ OwnB A vb) :
    Calls Try.prog 87 #[.slice A n c, .int .i64 (i : Int), .slice (some ⟨vb, 0, none⟩) 1 1] w (InsOf base w A n (cs.take (i * 4) ++ vs ++ cs.drop (i * 4))) := by
  rcases Nat.lt_or_ge i n with hlt | hge
  · rcases own_open h with ⟨rfl, rfl, rfl, rfl⟩ | ⟨g, cur, rfl, hg, hB, hcl, hnc, hcm, htk⟩
    · omega
    · rcases Nat.lt_or_ge c (n + 1) with h2 | h2
      · exact Insert_grow base n c i vb g cur cs vs w hB hcl hnc htk h1c hlt h2 hn hv hvl h1 hb
      · exact Insert_shift base n c i vb g cur cs vs w hg hB hcl hcm htk h1c hlt h2 hn hv hvl h1 (fun e => hne (by rw [e]; rfl)) hb
  · obtain rfl : i = n := by omega
    have hl : cs.length = i * 4 := h.1
    rw [List.take_of_length_le (by omega), List.drop_eq_nil_of_le (by omega), List.append_nil]
    exact Insert_end base i c vb A cs vs w h hb hn hv hvl h1

end Go.Proofs.Ytljiflbaknakaaa
