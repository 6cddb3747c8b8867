/- MoveArea, as the program and as the reference have it. -/
import Derived.Test.YtljiflbaknakaaaNewA
import Derived.Test.YtljiflbaknakaaaNest2
import Derived.Test.YtljiflbaknakaaaOpn
namespace Go.Proofs.Ytljiflbaknakaaa
open Go.RowKit

def shiftA (d : Int) (a : Area) : Area := ⟨a.id, a.cells, a.first + d, a.last + d⟩
def isId (id : Int) (a : Area) : Bool := decide (a.id = id)
def movedTo (xs : List Area) (d : Int) (k : Nat) : List Area := if h : k < xs.length then xs.set k (shiftA d xs[k]) else xs
def moveArea (m : MapV) (xs : List Area) (id d : Int) : Option (List Area) :=
  if areasB m xs && inB d (-364) 364 then
    match xs.findIdx? (isId id) with
    | some k => if areasB m (movedTo xs d k) then some (movedTo xs d k) else none
    | none => none
  else none
theorem movedTo_eq {xs : List Area} {d : Int} {k : Nat} (hk : k < xs.length) : movedTo xs d k = xs.set k (shiftA d xs[k]) := dif_pos hk
theorem movedTo_len (xs : List Area) (d : Int) (k : Nat) : (movedTo xs d k).length = xs.length := by
  unfold movedTo
  split <;> simp
theorem movedTo_id (xs : List Area) (d : Int) (k j : Nat) (hj : j < xs.length) (hj' : j < (movedTo xs d k).length) : (movedTo xs d k)[j].id = xs[j].id ∧ (movedTo xs d k)[j].cells = xs[j].cells := by
  by_cases hk : k < xs.length
  · simp only [movedTo_eq hk, List.getElem_set]
    by_cases e : k = j
    · subst e; simp [shiftA]
    · simp [e]
  · have : movedTo xs d k = xs := dif_neg hk
    simp [this]
theorem find_some {xs : List Area} {id : Int} {k : Nat} (hk : k < xs.length) (hp : isId id xs[k] = true) (hb : (xs.take k).any (isId id) = false) : xs.findIdx? (isId id) = some k := by
  rw [List.findIdx?_eq_some_iff_getElem]
  refine ⟨hk, hp, fun j hj hjp => ?_⟩
  rw [List.any_eq_false] at hb
  exact hb xs[j] (List.mem_take_iff_getElem.2 ⟨j, by omega, rfl⟩) hjp
theorem find_none {xs : List Area} {id : Int} (h : xs.any (isId id) = false) : xs.findIdx? (isId id) = none := by
  rw [List.findIdx?_eq_none_iff]
  rw [List.any_eq_false] at h
  exact fun x hx => by simpa using h x hx
theorem ids_apart {m : MapV} {xs : List Area} (h : GoodAreas m xs) {j k : Nat} (hjk : j < k) (hk : k < xs.length) : xs[j].id < xs[k].id := by
  induction k with
  | zero => omega
  | succ k ih =>
    have h1 := h.2.2.2 k hk
    by_cases e : j = k
    · subst e; exact h1
    · have := ih (by omega) (by omega); omega
theorem wt_set {xs : List Area} {d : Int} {k : Nat} : wtN Area.wt (movedTo xs d k) = wtN Area.wt xs := by
  by_cases hk : k < xs.length
  · rw [movedTo_eq hk]
    induction xs generalizing k with
    | nil => simp at hk
    | cons x l ih =>
      cases k with
      | zero => simp [wtN, shiftA, Area.wt]
      | succ k =>
        have := ih (k := k) (by simpa using hk)
        simp only [List.set_cons_succ, wtN, List.getElem_cons_succ, this]
  · rw [show movedTo xs d k = xs from dif_neg hk]
theorem moveArea_some {m : MapV} {xs : List Area} {id d : Int} {R : List Area} (h : moveArea m xs id d = some R) : ∃ k, R = movedTo xs d k ∧ areasB m R = true := by
  unfold moveArea at h
  split at h
  · split at h
    · split at h
      · injection h with h
        rename_i k _ g
        exact ⟨k, h.symm, h ▸ g⟩
      · cases h
    · cases h
  · cases h
theorem moveArea_len (m : MapV) (xs : List Area) (id d : Int) : ((moveArea m xs id d).getD []).length ≤ xs.length := by
  cases h : moveArea m xs id d with
  | none => simp
  | some R =>
    obtain ⟨k, rfl, _⟩ := moveArea_some h
    simp [movedTo_len]
theorem moveArea_wt (m : MapV) (xs : List Area) (id d : Int) : wtN Area.wt ((moveArea m xs id d).getD []) ≤ wtN Area.wt xs := by
  cases h : moveArea m xs id d with
  | none => simp [wtN]
  | some R =>
    obtain ⟨k, rfl, _⟩ := moveArea_some h
    simp [wt_set]
theorem moveArea_cnt (m : MapV) (xs : List Area) (id d : Int) (hi : ∀ x ∈ xs, x.cnt ≤ 1048576) : ∀ x ∈ (moveArea m xs id d).getD [], x.cnt ≤ 1048576 := by
  cases h : moveArea m xs id d with
  | none => simp
  | some R =>
    obtain ⟨k, rfl, _⟩ := moveArea_some h
    intro x hx
    obtain ⟨j, hj, rfl⟩ := List.getElem_of_mem hx
    have hj' : j < xs.length := by simpa [movedTo_len] using hj
    have h2 := (movedTo_id xs d k j hj' (by simpa using hj)).2
    have h3 := hi xs[j] (List.getElem_mem hj')
    unfold Area.cnt at *
    simp only [Option.getD_some]
    rw [h2]; exact h3
/-- A list of areas in memory of the call's own, and a word on whether there is one. -/
def GivesAreasO (w : World) (R : Option (List Area)) (e : Ending) (w' : World) : Prop :=
  ∃ A c, e = .returned (.tuple #[.slice A (R.getD []).length c, .bool R.isSome]) ∧ MineN areaSh w' (In w.heap.size w'.heap.size) 62 3 A (R.getD []).length c (R.getD []) ∧ Below w.heap.size w w'
theorem givesA_nil {w w' : World} (h : Below w.heap.size w w') : GivesAreasO w none (.returned (.tuple #[.slice none 0 0, .bool false])) w' := ⟨none, 0, rfl, MineN.nil _ _ _ _, h⟩
theorem givesA_empty {w : World} (wr : World) (h : Below w.heap.size w wr) : GivesAreasO w none (.returned (.tuple #[.slice (some ⟨wr.heap.size, 0, none⟩) 0 0, .bool false])) (wr.alloc (.cells #[] 62)) :=
  ⟨_, 0, rfl, ⟨[], rfl, (Mine.of (own_empty wr 62 4)).wide (fun b hb => ⟨Nat.le_trans h.size hb.1, hb.2⟩), Inners.nil _, by simp⟩, h.alloc h.size _⟩
theorem givesA_some {w w' : World} {A : Option Addr} {c : Nat} {R : List Area} (hm : MineN areaSh w' (In w.heap.size w'.heap.size) 62 3 A R.length c R) (h : Below w.heap.size w w') : GivesAreasO w (some R) (.returned (.tuple #[.slice A R.length c, .bool true])) w' := ⟨A, c, rfl, hm, h⟩
theorem givesA_at {w w' : World} {A : Option Addr} {n c : Nat} {R : List Area} (hn : R.length = n) (hm : MineN areaSh w' (In w.heap.size w'.heap.size) 62 3 A n c R) (h : Below w.heap.size w w') : GivesAreasO w (some R) (.returned (.tuple #[.slice A n c, .bool true])) w' := by
  subst hn
  exact givesA_some hm h

theorem MoveArea1_any (A : Option Addr) (n c : Nat) (a : Area) (id : Int) (B : Nat) (w : World) (h1 : w.cell? ⟨B, 0, none⟩ = some (.int .i64 id)) (hB : B < w.heap.size) :
    Calls Try.prog 80 #[.agg #[.int .i64 a.id, .slice A n c, .int .i64 a.first, .int .i64 a.last], .pointer (some ⟨B, 0, none⟩)] w fun e w' => e = .returned (.bool (isId id a)) ∧ Below w.heap.size w w' := by
  have K0 : Below w.heap.size w (w.alloc (.cells #[.int .i64 a.id, .slice A n c, .int .i64 a.first, .int .i64 a.last] 62)) := (Below.refl _ _).alloc (Nat.le_refl _) _
  have HE := Lib.hid (show isId id a = (a.id == id) by rw [isId, Bool.eq_iff_iff]; simp)
  go_enter Try.func80, Try.ntmps80
  go_wp2_with fail
  go_ret
  exact ⟨ret_bool HE.out.symm, K0⟩
theorem MoveArea1_answers (rs : List (Hd Area)) (id : Int) (B : Nat) (w : World) (h1 : Blk w B 3 [.int .i64 id]) :
    Answers 80 #[.pointer (some ⟨B, 0, none⟩)] (fun x : Hd Area => .agg (areaSh.enc x).toArray) (fun r => isId id r.x) rs w :=
  ⟨enters_of Try.func80 (by kernel_rfl) rfl, fun i hi W hb => MoveArea1_any rs[i].A rs[i].n rs[i].c rs[i].x id B W ((h1.next hb).cell 0) (h1.next hb).lt⟩

set_option maxRecDepth 100000 in
set_option maxHeartbeats 4000000 in
theorem MoveArea_any (A1 A2 : Option Addr) (n1 n2 c1 c2 : Nat) (m : MapV) (A : Option Addr) (n c : Nat) (xs : List Area) (id d : Int) (w : World) (hm : SeesMap w A1 n1 A2 n2 m) (hn' : n1 ≤ 1048576 ∧ n2 ≤ 1048576) (hx : SeesN areaSh w 0 A n xs) (hn : n ≤ 1048576) (hi : ∀ x ∈ xs, x.cnt ≤ 1048576) :
    Calls Try.prog 32 #[.agg #[.int .i64 m.width, .int .i64 m.height, .slice A1 n1 c1, .slice A2 n2 c2], .slice A n c, .int .i64 id, .int .i64 d] w (GivesAreasO w (moveArea m xs id d)) := by
  have HLx := Lib.hid hx.count
  have hlx1 : xs.length ≤ n := by rw [HLx.out]; exact Nat.le_refl _
  have hlx2 : n ≤ xs.length := by rw [HLx.out]; exact Nat.le_refl _
  have hmf : ∀ (fn : Fn) (first cap : Array Value) (w : World), (Instr.makeFunc fn first cap).run Try.prog w = .ok (.func fn first cap) w := fun _ _ _ _ => rfl
  have hx0 := hx
  obtain ⟨rs, hrs, ho, hin⟩ := hx
  have K0 : Below w.heap.size w ((w.alloc (.cells #[.int .i64 m.width, .int .i64 m.height, .slice A1 n1 c1, .slice A2 n2 c2] 29)).alloc (.cells #[.int .i64 id] 3)) := ((Below.refl w.heap.size w).alloc (Nat.le_refl _) _).alloc (by simp) _
  have Bm0 : Blk ((w.alloc (.cells #[.int .i64 m.width, .int .i64 m.height, .slice A1 n1 c1, .slice A2 n2 c2] 29)).alloc (.cells #[.int .i64 id] 3)) w.heap.size 29 [.int .i64 m.width, .int .i64 m.height, .slice A1 n1 c1, .slice A2 n2 c2] := (Blk.at_ rfl).alloc _
  have B1 : Blk ((w.alloc (.cells #[.int .i64 m.width, .int .i64 m.height, .slice A1 n1 c1, .slice A2 n2 c2] 29)).alloc (.cells #[.int .i64 id] 3)) (w.heap.size + 1) 3 [.int .i64 id] := Blk.at_ (by simp)
  have ans := MoveArea1_answers rs id _ _ B1
  have HRS := Lib.hid hrs
  clear hrs hin B1
  go_enter Try.func32, Try.ntmps32
  go_wp2_with fail
  refine (IndexFunc_Area 80 #[.pointer (some ⟨w.heap.size + 1, 0, none⟩)] _ _ _ _ rs _ (ho.next K0) (by omega) ans).mono ?_
  rintro e w1 ⟨r, rfl, hr, b1⟩
  have K1 := bel_then K0 b1
  have Bm1 := Bm0.next b1
  have cm1 := Bm1.cell
  clear ans
  go_wp2_with fail
  refine (AreAreas_any _ _ _ _ _ _ m _ _ _ xs _ (hm.next K1) hn' (hx0.next K1) hn hi).mono ?_
  cases g1 : areasB m xs
  · rintro e w2 ⟨rfl, b2⟩
    go_wp2_with fail
    go_ret2
    rw [show moveArea m xs id d = none by simp [moveArea, g1]]
    exact givesA_nil (bel_then K1 b2)
  · rintro e w2 ⟨rfl, b2⟩
    have HG := Lib.hid (areasB_at g1)
    have K2 := bel_then K1 b2
    have Bm2 := Bm1.next b2
    have cm2 := Bm2.cell
    clear cm1
    rcases hr with ⟨rfl, hno⟩ | ⟨k, rfl, hk, hp, hno⟩
    · have HF := Lib.hid (show moveArea m xs id d = none by
        have h2 : xs.any (isId id) = false := by rw [← HRS.out, List.any_map]; exact hno
        rw [moveArea, find_none h2]; simp)
      clear hno g1
      go_wp2_with fail
      go_ret2
      rw [HF.out]
      exact givesA_nil K2
    · have hkn : k < xs.length := by rw [← HRS.out, List.length_map]; exact hk
      have hxk : xs[k] = rs[k].x := by simp only [← HRS.out, List.getElem_map]
      have HFI := Lib.hid (find_some (xs := xs) (id := id) hkn (by rw [hxk]; exact hp) (by rw [← HRS.out, ← List.map_take, List.any_map]; exact hno))
      clear hno hp hk hxk
      cases g2 : inB d (-364) 364
      · have HF := Lib.hid (show moveArea m xs id d = none by simp [moveArea, g2])
        clear g1
        go_wp2_with (go_at_call 67; refine (inside_any _ _ _ _).mono ?_; rintro e w' ⟨rfl, rfl⟩)
        go_ret2
        rw [HF.out]
        exact givesA_nil K2
      · have HF := Lib.hid (show moveArea m xs id d = if areasB m (movedTo xs d k) then some (movedTo xs d k) else none by rw [moveArea, g1, g2, HFI.out]; rfl)
        have hd := inB_true g2
        clear g1
        go_wp2_with (go_at_call 67; refine (inside_any _ _ _ _).mono ?_; rintro e w' ⟨rfl, rfl⟩)
        refine (newAreas_any _ _ _ xs _ (hx0.next K2) hn hi).mono ?_
        rintro e w3 ⟨A3, c3, rfl, M3, b3⟩
        have K3 := bel_then K2 b3
        have Bm3 := Bm2.next b3
        have z2 := K2.size
        have zb := Bm2.lt
        obtain ⟨rs3, hrs3, hR⟩ := M3
        have HR3 := Lib.hid hrs3
        have hk3 : k < rs3.length := by rw [← List.length_map (f := Hd.x), hrs3]; exact hkn
        have hx3 : rs3[k].x = xs[k] := by simp only [← hrs3, List.getElem_map]
        clear hrs3
        obtain ⟨g, cur, rfl, hSg, Bg, hcl, hcn, hget⟩ := hR.block (by omega)
        have hk4 : k * 4 + 4 ≤ cur.length := by
          have : (k + 1) * 4 ≤ xs.length * 4 := Nat.mul_le_mul_right _ (by omega)
          have h2 : xs.length * 4 ≤ cur.length := hcn
          omega
        have e2 := hget k 2 hk3 (by decide)
        have e3 := hget k 3 hk3 (by decide)
        have s2 : w3.cell? ⟨g, k * 4 + 2, none⟩ = some (.int .i64 xs[k].first) := by rw [Bg.cell, show k * 4 + 2 = k * areaSh.s + 2 from rfl, e2, ← hx3]; rfl
        have s3 : w3.cell? ⟨g, k * 4 + 3, none⟩ = some (.int .i64 xs[k].last) := by rw [Bg.cell, show k * 4 + 3 = k * areaSh.s + 3 from rfl, e3, ← hx3]; rfl
        have hfz := Bg.frozen
        have hok := areaOK_facts (HG.out.2.2.1 k hkn)
        have hok1 := hok.2.2.2.1
        have hok2 := hok.2.2.2.2
        have hSg1 := hSg.1
        have hSg2 := hSg.2
        have hm0 := hm.next K3
        have HX := Lib.hid hx3
        have hget2 := Lib.hid hget
        clear e2 e3 hok hx3 hget cm2
        have hgne : w.heap.size ≠ g := by omega
        have hgne2 : g ≠ w.heap.size := by omega
        have cm3 := Bm3.cell
        go_wp2_with fail
        have O4 : Only (fun b => b = g) w3 ((w3.setCell ⟨g, k * 4 + 2, none⟩ (.int .i64 (xs[k].first + d))).setCell ⟨g, k * 4 + 3, none⟩ (.int .i64 (xs[k].last + d))) := ((Only.refl (fun b => b = g) w3).setCell (p := ⟨g, k * 4 + 2, none⟩) rfl _).setCell (p := ⟨g, k * 4 + 3, none⟩) rfl _
        have B4 := (Bg.set_ (k * 4 + 2) (.int .i64 (xs[k].first + d))).set_ (k * 4 + 3) (.int .i64 (xs[k].last + d))
        have R4 := hR.turn Bg hk3 (shiftA d rs3[k].x) rfl O4 B4 (by simp) (fun j hj => by
          have h5 := hget2.out k j hk3 hj
          have hj4 : j < 4 := hj
          rw [show k * areaSh.s + j = k * 4 + j from rfl] at h5 ⊢
          match j, hj4 with
          | 0, _ => rw [List.getElem?_set_ne (by omega), List.getElem?_set_ne (by omega), h5]; rfl
          | 1, _ => rw [List.getElem?_set_ne (by omega), List.getElem?_set_ne (by omega), h5]; rfl
          | 2, _ => rw [List.getElem?_set_ne (by omega), List.getElem?_set_self (by omega), ← HX.out]; rfl
          | 3, _ => rw [List.getElem?_set_self (by simp only [List.length_set]; omega), ← HX.out]; rfl) (fun j hj => by
          have hj' : ¬ (k * 4 ≤ j ∧ j < k * 4 + 4) := hj
          rw [List.getElem?_set_ne (by omega), List.getElem?_set_ne (by omega)])
        have HM := Lib.hid (show (rs3.set k ⟨shiftA d rs3[k].x, rs3[k].A, rs3[k].n, rs3[k].c⟩).map Hd.x = movedTo xs d k by rw [List.map_set, HR3.out, movedTo_eq hkn, HX.out])
        have K4 : Below w.heap.size w _ := K3.trans (O4.below (fun b hb => by omega) (by omega))
        have Bm4 := Bm3.only O4 (fun h => hgne h)
        have cm4 := Bm4.cell
        have M4 := R4.made
        rw [HM.out] at M4
        have hl4 := movedTo_len xs d k
        refine (AreAreas_any _ _ _ _ _ _ m _ _ _ (movedTo xs d k) _ (hm.next K4) hn' M4.sees (by omega) ?_).mono ?_
        · intro x hx
          obtain ⟨j, hj, rfl⟩ := List.getElem_of_mem hx
          have hj' : j < xs.length := by rw [← movedTo_len xs d k]; exact hj
          have h2 := (movedTo_id xs d k j hj' hj).2
          have h3 := hi xs[j] (List.getElem_mem hj')
          unfold Area.cnt at *
          rw [h2]; exact h3
        have HLm := Lib.hid hl4
        clear hl4 cm4
        cases g4 : areasB m (movedTo xs d k)
        · have HF2 := Lib.hid (HF.out.trans (if_neg (by rw [g4]; decide)))
          rintro e w5 ⟨rfl, b5⟩
          go_wp2_with fail
          go_ret2
          rw [HF2.out]
          exact givesA_nil (bel_then K4 b5)
        · have HF2 := Lib.hid (HF.out.trans (if_pos g4))
          rintro e w5 ⟨rfl, b5⟩
          have K5 := bel_then K4 b5
          have M5 := (M4.next b5).wide (T := In w.heap.size w5.heap.size) (fun b hb => ⟨by have := hb.1; omega, by have := hb.2; have := b5.size; have := O4.size; omega⟩)
          go_wp2_with fail
          go_ret2
          rw [HF2.out]
          exact givesA_at HLm.out M5 K5

/-- how far the reference's search has come -/
def MoveSt (m : MapV) (xs : List Area) (id d : Int) (k : Nat) (cur : List Area) : Prop :=
  (cur = xs ∧ (xs.take k).any (isId id) = false) ∨ ∃ (j : Nat) (hj : j < xs.length), j < k ∧ isId id xs[j] = true ∧ (xs.take j).any (isId id) = false ∧ cur = movedTo xs d j ∧ areasB m cur = false
theorem moveSt_len {m : MapV} {xs cur : List Area} {id d : Int} {k : Nat} (h : MoveSt m xs id d k cur) : cur.length = xs.length := by
  rcases h with ⟨rfl, _⟩ | ⟨j, hj, _, _, _, rfl, _⟩
  · rfl
  · exact movedTo_len _ _ _
theorem moveSt_id {m : MapV} {xs cur : List Area} {id d : Int} {k : Nat} (h : MoveSt m xs id d k cur) (i : Nat) (hi : i < cur.length) (hi' : i < xs.length) : cur[i].id = xs[i].id := by
  rcases h with ⟨rfl, _⟩ | ⟨j, hj, _, _, _, rfl, _⟩
  · rfl
  · exact (movedTo_id xs d j i hi' hi).1
theorem moveSt_skip {m : MapV} {xs cur : List Area} {id d : Int} {k : Nat} (h : MoveSt m xs id d k cur) (hk : k < xs.length) (hn : isId id xs[k] = false) : MoveSt m xs id d (k + 1) cur := by
  rcases h with ⟨rfl, h2⟩ | ⟨j, hj, h1, h2⟩
  · refine .inl ⟨rfl, ?_⟩
    rw [List.take_succ_eq_append_getElem hk, List.any_append, h2]
    simp [hn]
  · exact .inr ⟨j, hj, by omega, h2⟩
theorem moveSt_first {m : MapV} {xs cur : List Area} {id d : Int} {k : Nat} (hg : GoodAreas m xs) (h : MoveSt m xs id d k cur) (hk : k < xs.length) (hp : isId id xs[k] = true) : cur = xs ∧ (xs.take k).any (isId id) = false := by
  rcases h with h | ⟨j, hj, h1, h2, _⟩
  · exact h
  · have := ids_apart hg h1 hk
    simp only [isId, decide_eq_true_eq] at hp h2
    omega
theorem moveSt_end {m : MapV} {xs cur : List Area} {id d : Int} {k : Nat} (h : MoveSt m xs id d k cur) (hk : xs.length ≤ k) : moveArea m xs id d = none := by
  unfold moveArea
  split
  · rcases h with ⟨rfl, h2⟩ | ⟨j, hj, h1, h2, h3, h4, h5⟩
    · rw [List.take_of_length_le hk] at h2
      rw [find_none h2]
    · rw [find_some hj h2 h3]
      show (if areasB m (movedTo xs d j) then some (movedTo xs d j) else none) = none
      rw [← h4, h5]
      rfl
  · rfl
set_option maxRecDepth 100000 in
set_option maxHeartbeats 4000000 in
theorem specMoveArea_any (A1 A2 : Option Addr) (n1 n2 c1 c2 : Nat) (m : MapV) (A : Option Addr) (n c : Nat) (xs : List Area) (id d : Int) (w : World) (hm : SeesMap w A1 n1 A2 n2 m) (hn' : n1 ≤ 1048576 ∧ n2 ≤ 1048576) (hx : SeesN areaSh w 0 A n xs) (hn : n ≤ 1048576) (hi : ∀ x ∈ xs, x.cnt ≤ 1048576) :
    Calls Try.prog 31 #[.agg #[.int .i64 m.width, .int .i64 m.height, .slice A1 n1 c1, .slice A2 n2 c2], .slice A n c, .int .i64 id, .int .i64 d] w (GivesAreasO w (moveArea m xs id d)) := by
  have HLx := Lib.hid hx.count
  have hlx1 : xs.length ≤ n := by rw [HLx.out]; exact Nat.le_refl _
  have hlx2 : n ≤ xs.length := by rw [HLx.out]; exact Nat.le_refl _
  have K0 : Below w.heap.size w (w.alloc (.cells #[.int .i64 m.width, .int .i64 m.height, .slice A1 n1 c1, .slice A2 n2 c2] 29)) := (Below.refl w.heap.size w).alloc (Nat.le_refl _) _
  have Bm0 : Blk (w.alloc (.cells #[.int .i64 m.width, .int .i64 m.height, .slice A1 n1 c1, .slice A2 n2 c2] 29)) w.heap.size 29 [.int .i64 m.width, .int .i64 m.height, .slice A1 n1 c1, .slice A2 n2 c2] := Blk.at_ rfl
  go_enter Try.func31, Try.ntmps31
  go_wp2_with fail
  refine (l24Good_any _ _ _ _ _ _ m _ _ _ xs _ (hm.next K0) hn' (hx.next K0) hn hi).mono ?_
  cases g1 : areasB m xs
  · rintro e w2 ⟨rfl, b2⟩
    go_wp2_with fail
    go_ret2
    rw [show moveArea m xs id d = none by simp [moveArea, g1]]
    exact givesA_empty _ (bel_then K0 b2)
  · rintro e w2 ⟨rfl, b2⟩
    have HG := Lib.hid (areasB_at g1)
    have K2 := bel_then K0 b2
    have Bm2 := Bm0.next b2
    cases g2 : inB d (-364) 364
    · have HF := Lib.hid (show moveArea m xs id d = none by simp [moveArea, g2])
      clear g1
      go_wp2_with (go_at_call 77; refine (l1In_any _ _ _ _).mono ?_; rintro e w' ⟨rfl, rfl⟩)
      go_ret2
      rw [HF.out]
      exact givesA_empty _ K2
    · have HA := Lib.hid g1
      have HD := Lib.hid g2
      have hd := inB_true g2
      clear g1
      go_wp2_with (go_at_call 77; refine (l1In_any _ _ _ _).mono ?_; rintro e w' ⟨rfl, rfl⟩)
      refine (l24Copy_any _ _ _ xs _ (hx.next K2) hn hi).mono ?_
      rintro e w3 ⟨A3, c3, rfl, M3, b3⟩
      have K3 := bel_then K2 b3
      have Bm3 := Bm2.next b3
      have z2 := K2.size
      have zb := Bm2.lt
      obtain ⟨rs3, hrs3, hR3⟩ := M3
      have HR3 := Lib.hid hrs3
      clear hrs3 g2
      go_wp2_with fail
      go_loopw [11] (fun i wr => ∃ (k : Nat) (rs : List (Hd Area)) (cur : List Area), k ≤ n ∧ i = .int .i64 k ∧ Hid (rs.map Hd.x = cur) ∧ Hid (MoveSt m xs id d k cur) ∧ MineR areaSh wr (In (w.heap.size + 1) wr.heap.size) 62 3 A3 xs.length c3 rs ∧ Blk wr w.heap.size 29 [.int .i64 m.width, .int .i64 m.height, .slice A1 n1 c1, .slice A2 n2 c2] ∧ Below w.heap.size w wr) (fun i _ => n - (intOf i).toNat)
      case atStart => exact ⟨0, rs3, xs, Nat.zero_le _, rfl, HR3, Lib.hid (.inl ⟨rfl, rfl⟩), hR3.wide (fun b hb => ⟨by have := hb.1; omega, hb.2⟩), Bm3, K3⟩
      case round =>
        obtain ⟨k, rs, cur, hk, rfl, HC, HS, hR, Bm, hb⟩ := hrel
        by_cases hlt : k < n
        · have hkn : k < xs.length := by omega
          have hlc := moveSt_len HS.out
          have hkr : k < rs.length := by rw [← List.length_map (f := Hd.x), HC.out, hlc]; exact hkn
          have hkc : k < cur.length := by rw [hlc]; exact hkn
          have hxr : rs[k].x = cur[k] := by simp only [← HC.out, List.getElem_map]
          have hid := moveSt_id HS.out k hkc hkn
          obtain ⟨g, cs, rfl, hSg, Bg, hcl, hcn, hget⟩ := hR.block (by omega)
          have hk4 : k * 4 + 4 ≤ cs.length := by
            have h1 : (k + 1) * 4 ≤ xs.length * 4 := Nat.mul_le_mul_right _ (by omega)
            have h2 : xs.length * 4 ≤ cs.length := hcn
            omega
          have s0 : wr.cell? ⟨g, k * 4, none⟩ = some (.int .i64 xs[k].id) := by rw [Bg.cell, show k * 4 = k * areaSh.s + 0 from rfl, hget k 0 hkr (by decide), ← hid, ← hxr]; rfl
          have hSg1 := hSg.1
          have hSg2 := hSg.2
          have hm0 := Bm.cell
          have HX := Lib.hid hxr
          have HLc := Lib.hid hlc
          cases gp : isId id xs[k]
          · have hq : (xs[k].id == id) = false := by simpa [isId] using gp
            have HN := Lib.hid (moveSt_skip HS.out hkn gp)
            clear gp hxr hid hget hm0 hlc
            go_wp2_with fail
            go_roundw
            case rel => exact ⟨k + 1, rs, cur, by omega, by go_num, HC, HN, hR, Bm, hb⟩
            case measure => simp [intOf]; omega
          · have hq : (xs[k].id == id) = true := by simpa [isId] using gp
            obtain ⟨hcx, hno⟩ := moveSt_first HG.out HS.out hkn gp
            have HFI := Lib.hid (find_some hkn gp hno)
            have HNO := Lib.hid hno
            have GP := Lib.hid gp
            subst hcx
            have hxr' : rs[k].x = cur[k] := HX.out
            have s1 : wr.cell? ⟨g, k * 4 + 1, none⟩ = some (.slice rs[k].A rs[k].n rs[k].c) := by rw [Bg.cell, show k * 4 + 1 = k * areaSh.s + 1 from rfl, hget k 1 hkr (by decide)]; rfl
            have s2 : wr.cell? ⟨g, k * 4 + 2, none⟩ = some (.int .i64 cur[k].first) := by rw [Bg.cell, show k * 4 + 2 = k * areaSh.s + 2 from rfl, hget k 2 hkr (by decide), ← hxr']; rfl
            have s3 : wr.cell? ⟨g, k * 4 + 3, none⟩ = some (.int .i64 cur[k].last) := by rw [Bg.cell, show k * 4 + 3 = k * areaSh.s + 3 from rfl, hget k 3 hkr (by decide), ← hxr']; rfl
            have hok := areaOK_facts (HG.out.2.2.1 k hkn)
            have hok1 := hok.2.2.2.1
            have hok2 := hok.2.2.2.2
            have hfz := Bg.frozen
            have hget2 := Lib.hid hget
            have hgne : w.heap.size ≠ g := by omega
            have hgne2 : g ≠ w.heap.size := by omega
            have hgw : g ≠ wr.heap.size := by omega
            have hww : w.heap.size ≠ wr.heap.size := by have := Bm.lt; omega
            have hwl := Bm.lt
            generalize hrA : rs[k].A = Ak at *
            generalize hrn : rs[k].n = nk at *
            generalize hrc : rs[k].c = ck at *
            have HrA := Lib.hid hrA
            have Hrn := Lib.hid hrn
            have Hrc := Lib.hid hrc
            clear hok gp hxr hid hget hxr' hno hlc hrA hrn hrc
            go_wp2_with fail
            have O4 : Only (fun b => b = g) wr ((((wr.setCell ⟨g, k * 4, none⟩ (.int .i64 cur[k].id)).setCell ⟨g, k * 4 + 1, none⟩ (.slice Ak nk ck)).setCell ⟨g, k * 4 + 2, none⟩ (.int .i64 (cur[k].first + d))).setCell ⟨g, k * 4 + 3, none⟩ (.int .i64 (cur[k].last + d))) := (((((Only.refl (fun b => b = g) wr).setCell (p := ⟨g, k * 4, none⟩) rfl (.int .i64 cur[k].id)).setCell (p := ⟨g, k * 4 + 1, none⟩) rfl (.slice Ak nk ck)).setCell (p := ⟨g, k * 4 + 2, none⟩) rfl (.int .i64 (cur[k].first + d))).setCell (p := ⟨g, k * 4 + 3, none⟩) rfl (.int .i64 (cur[k].last + d)))
            have B4 := ((((Bg.set_ (k * 4) (.int .i64 cur[k].id)).set_ (k * 4 + 1) (.slice Ak nk ck)).set_ (k * 4 + 2) (.int .i64 (cur[k].first + d))).set_ (k * 4 + 3) (.int .i64 (cur[k].last + d)))
            have R4 := hR.turn Bg hkr (shiftA d cur[k]) (by show ints cur[k].cells = ints rs[k].x.cells; rw [HX.out]) O4 B4 (by simp) (fun j hj => by
              have hj4 : j < 4 := hj
              rw [show k * areaSh.s + j = k * 4 + j from rfl, HrA.out, Hrn.out, Hrc.out]
              match j, hj4 with
              | 0, _ => rw [List.getElem?_set_ne (by omega), List.getElem?_set_ne (by omega), List.getElem?_set_ne (by omega), show k * 4 + 0 = k * 4 from rfl, List.getElem?_set_self (by omega)]; rfl
              | 1, _ => rw [List.getElem?_set_ne (by omega), List.getElem?_set_ne (by omega), List.getElem?_set_self (by simp only [List.length_set]; omega)]; rfl
              | 2, _ => rw [List.getElem?_set_ne (by omega), List.getElem?_set_self (by simp only [List.length_set]; omega)]; rfl
              | 3, _ => rw [List.getElem?_set_self (by simp only [List.length_set]; omega)]; rfl) (fun j hj => by
              have hj' : ¬ (k * 4 ≤ j ∧ j < k * 4 + 4) := hj
              rw [List.getElem?_set_ne (by omega), List.getElem?_set_ne (by omega), List.getElem?_set_ne (by omega), List.getElem?_set_ne (by omega)])
            have HM := Lib.hid (show (rs.set k ⟨shiftA d cur[k], rs[k].A, rs[k].n, rs[k].c⟩).map Hd.x = movedTo cur d k by rw [List.map_set, HC.out, movedTo_eq hkn])
            have K4 : Below w.heap.size w _ := hb.trans (O4.below (fun b hb => by omega) (by omega))
            have Bm4 := Bm.only O4 (fun h => hgne h)
            have zo := O4.size
            generalize ((((wr.setCell ⟨g, k * 4, none⟩ (.int .i64 cur[k].id)).setCell ⟨g, k * 4 + 1, none⟩ (.slice Ak nk ck)).setCell ⟨g, k * 4 + 2, none⟩ (.int .i64 (cur[k].first + d))).setCell ⟨g, k * 4 + 3, none⟩ (.int .i64 (cur[k].last + d))) = w4 at *
            have K45 : Below w4.heap.size w4 (w4.alloc (.cells #[.int .i64 cur[k].id, .slice Ak nk ck, .int .i64 (cur[k].first + d), .int .i64 (cur[k].last + d)] 62)) := (Below.refl _ _).alloc (Nat.le_refl _) _
            have K5 := K4.alloc (by omega) (.cells #[.int .i64 cur[k].id, .slice Ak nk ck, .int .i64 (cur[k].first + d), .int .i64 (cur[k].last + d)] 62)
            have R5 := R4.next K45
            have Bm5 := Bm4.next K45
            have M5 := R5.made
            rw [HM.out] at M5
            have hl4 := movedTo_len cur d k
            refine (l24Good_any _ _ _ _ _ _ m _ _ _ (movedTo cur d k) _ (hm.next K5) hn' M5.sees (by omega) ?_).mono ?_
            · intro x hx
              obtain ⟨j, hj, rfl⟩ := List.getElem_of_mem hx
              have hj' : j < cur.length := by rw [← movedTo_len cur d k]; exact hj
              have h2 := (movedTo_id cur d k j hj' hj).2
              have h3 := hi cur[j] (List.getElem_mem hj')
              unfold Area.cnt at *
              rw [h2]; exact h3
            have HLm := Lib.hid hl4
            clear hl4
            cases g4 : areasB m (movedTo cur d k)
            · have HST := Lib.hid (show MoveSt m cur id d (k + 1) (movedTo cur d k) from .inr ⟨k, hkn, by omega, GP.out, HNO.out, rfl, g4⟩)
              rintro e w5 ⟨rfl, b5⟩
              have z5 := b5.size
              simp only [World.size_alloc] at z5
              go_wp2_with fail
              go_roundw
              case rel => exact ⟨k + 1, _, _, by omega, by go_num, HM, HST, (R5.next b5).wide (fun b hb => ⟨hb.1, by have := hb.2; omega⟩), Bm5.next b5, bel_then K5 b5⟩
              case measure => simp [intOf]; omega
            · have HF2 := Lib.hid (show moveArea m cur id d = some (movedTo cur d k) by rw [moveArea, HA.out, HD.out, HFI.out]; show (if areasB m (movedTo cur d k) then some (movedTo cur d k) else none) = _; rw [if_pos g4])
              rintro e w5 ⟨rfl, b5⟩
              have z5 := b5.size
              simp only [World.size_alloc] at z5
              have K6 := bel_then K5 b5
              have M6 := (M5.next b5).wide (T := In w.heap.size w5.heap.size) (fun b hb => ⟨by have := hb.1; omega, by have := hb.2; omega⟩)
              go_wp2_with fail
              go_ret2
              rw [HF2.out]
              exact givesA_at HLm.out M6 K6
        · have HF := Lib.hid (moveSt_end HS.out (by omega))
          go_wp2_with fail
          go_ret2
          rw [HF.out]
          exact givesA_empty _ hb

end Go.Proofs.Ytljiflbaknakaaa
