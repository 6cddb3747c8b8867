/- Closed days as pairs: the plain law, and the rows of a table of the call's own that are written. -/
import Derived.Test.YtljiflbaknakaaaRowsT
import Derived.Test.YtljiflbaknakaaaOpn
import Derived.Test.YtljiflbaknakaaaNest3
namespace Go.Proofs.Ytljiflbaknakaaa
open Go.RowKit

/-- A pair as a row. -/
def rowP (p : Int × Int) : List Int := [p.1, p.2]
/-- One day more. -/
def spanStep (o : Bool) (d : Int) (ps : List (Int × Int)) : List (Int × Int) :=
  if o then ps else
  match ps.getLast? with
  | some p => if p.2 = d - 1 then ps.dropLast ++ [(p.1, d)] else ps ++ [(d, d)]
  | none => ps ++ [(d, d)]
def spansTo (m : MapV) (xs : List Area) (cell : Nat) : Nat → List (Int × Int)
  | 0 => []
  | d + 1 => spanStep (openB m xs (d : Int) cell) (d : Int) (spansTo m xs cell d)
theorem spanStep_len (o : Bool) (d : Int) (ps : List (Int × Int)) : (spanStep o d ps).length ≤ ps.length + 1 := by
  unfold spanStep
  split
  · omega
  · split
    · split
      · simp only [List.length_append, List.length_dropLast, List.length_cons, List.length_nil]; omega
      · simp
    · simp
theorem spansTo_len (m : MapV) (xs : List Area) (cell : Nat) : ∀ d, (spansTo m xs cell d).length ≤ d
  | 0 => Nat.le_refl _
  | d + 1 => by
    have h1 := spansTo_len m xs cell d
    have h2 := spanStep_len (openB m xs (d : Int) cell) (d : Int) (spansTo m xs cell d)
    show (spanStep _ _ _).length ≤ _
    omega
theorem spanStep_open (d : Int) (ps : List (Int × Int)) : spanStep true d ps = ps := rfl
theorem spanStep_nil (d : Int) : spanStep false d [] = [(d, d)] := rfl
theorem spanStep_more {d : Int} {ps : List (Int × Int)} {k : Nat} (hk : k < ps.length) (he : ps.length = k + 1) (h : ps[k].2 = d - 1) : spanStep false d ps = ps.set k (ps[k].1, d) := by
  obtain ⟨qs, p, rfl⟩ : ∃ qs p, ps = qs ++ [p] := ⟨ps.dropLast, ps.getLast (by intro e; rw [e] at hk; simp at hk), (List.dropLast_concat_getLast _).symm⟩
  simp only [List.length_append, List.length_cons, List.length_nil] at he
  obtain rfl : qs.length = k := by omega
  simp only [List.getElem_concat_length] at h
  simp [spanStep, h]
theorem spanStep_new {d : Int} {ps : List (Int × Int)} {k : Nat} (hk : k < ps.length) (he : ps.length = k + 1) (h : ps[k].2 ≠ d - 1) : spanStep false d ps = ps ++ [(d, d)] := by
  obtain ⟨qs, p, rfl⟩ : ∃ qs p, ps = qs ++ [p] := ⟨ps.dropLast, ps.getLast (by intro e; rw [e] at hk; simp at hk), (List.dropLast_concat_getLast _).symm⟩
  simp only [List.length_append, List.length_cons, List.length_nil] at he
  obtain rfl : qs.length = k := by omega
  simp only [List.getElem_concat_length] at h
  simp [spanStep, h]
def closedDays (m : MapV) (xs : List Area) (cell : Int) : Option (List (List Int)) :=
  if areasB m xs && isCellB m cell then some ((spansTo m xs cell.toNat 365).map rowP) else none
theorem closedDays_cases {m : MapV} {xs : List Area} {cell : Int} {R : List (List Int)} (h : closedDays m xs cell = some R) : areasB m xs = true ∧ isCellB m cell = true ∧ R = (spansTo m xs cell.toNat 365).map rowP := by
  unfold closedDays at h
  split at h
  · rename_i hb
    simp only [Bool.and_eq_true] at hb
    injection h with h
    exact ⟨hb.1, hb.2, h.symm⟩
  · cases h
theorem closedDays_len (m : MapV) (xs : List Area) (cell : Int) : ((closedDays m xs cell).getD []).length ≤ 365 := by
  cases h : closedDays m xs cell with
  | none => simp
  | some R =>
    obtain ⟨-, -, rfl⟩ := closedDays_cases h
    simpa using spansTo_len m xs cell.toNat 365
theorem wtN_rows (ps : List (Int × Int)) : wtN IntRow.wt (ps.map rowP) = 2 * ps.length := by
  induction ps with
  | nil => rfl
  | cons p l ih => simp only [List.map_cons, wtN, ih, List.length_cons]; show 2 + _ = _; omega
theorem closedDays_wt (m : MapV) (xs : List Area) (cell : Int) : wtN IntRow.wt ((closedDays m xs cell).getD []) ≤ 730 := by
  cases h : closedDays m xs cell with
  | none => simp [wtN]
  | some R =>
    obtain ⟨-, -, rfl⟩ := closedDays_cases h
    have := spansTo_len m xs cell.toNat 365
    simp only [Option.getD_some, wtN_rows]
    omega
theorem closedDays_cnt (m : MapV) (xs : List Area) (cell : Int) : ∀ x ∈ (closedDays m xs cell).getD [], IntRow.cnt x ≤ 1048576 := by
  cases h : closedDays m xs cell with
  | none => simp
  | some R =>
    obtain ⟨-, -, rfl⟩ := closedDays_cases h
    intro x hx
    simp only [Option.getD_some, List.mem_map] at hx
    obtain ⟨p, _, rfl⟩ := hx
    show 2 ≤ _
    omega

section
variable {w w4 : World} {S : Nat → Prop} {A A2 : Option Addr} {n c c2 B k : Nat} {rs : List (Hd (List Int))} {a b : Int}
/-- One row of a table of the call's own: where it lies; its second number can be written. -/
theorem row_at (h : MineR rowSh w S 22 3 A n c rs) (hk : k < rs.length) (hx : rs[k].x = [a, b]) :
    ∃ g g2 d : Nat, A = some ⟨g, 0, none⟩ ∧ S g ∧ w.cell? ⟨g, k, none⟩ = some (.slice (some ⟨g2, 0, none⟩) 2 d) ∧ w.frozen? ⟨g, k, none⟩ = false ∧ g ≠ g2 ∧ S g2 ∧ g2 < w.heap.size ∧
      w.cell? ⟨g2, 0, none⟩ = some (.int .i64 a) ∧ w.cell? ⟨g2, 1, none⟩ = some (.int .i64 b) ∧ w.frozen? ⟨g2, 1, none⟩ = false ∧
      ∀ v : Int, MineR rowSh (w.setCell ⟨g2, 1, none⟩ (.int .i64 v)) S 22 3 A n c (rs.set k ⟨[a, v], some ⟨g2, 0, none⟩, 2, d⟩) := by
  have hc := h.count
  obtain ⟨g, curo, rfl, hS, hBo, hclo, hncl, hget⟩ := h.block (by omega)
  have hm := h.inners.each rs[k] (List.getElem_mem hk)
  have hlen : rs[k].n = 2 := by
    have h1 := hm.own.1
    rw [hx] at h1
    simpa [rowSh, ints] using h1.symm
  have ho := hget k 0 hk (by decide)
  rw [show k * rowSh.s + 0 = k from Nat.mul_one k] at ho
  have ho2 : curo[k]? = some (.slice rs[k].A rs[k].n rs[k].c) := ho
  rcases own_open hm.own with ⟨_, h0, _, _⟩ | ⟨g2, cur, hA, _, hB, hcl, hnc, hcm, htk⟩
  · omega
  · rw [hlen] at htk hnc
    have htk' : cur.take 2 = [.int .i64 a, .int .i64 b] := by rw [hx] at htk; simpa [rowSh, ints] using htk
    obtain ⟨u0, u1, tl, rfl⟩ : ∃ u0 u1 tl, cur = u0 :: u1 :: tl := by
      match cur, htk' with
      | u0 :: u1 :: tl, _ => exact ⟨u0, u1, tl, rfl⟩
    simp only [List.take_succ_cons, List.take_zero, List.cons.injEq, and_true] at htk'
    obtain ⟨rfl, rfl⟩ := htk'
    have hown : ∀ b, OwnB rs[k].A b ↔ b = g2 := fun b => by rw [hA]; simp [OwnB, Value.ownBlock, eq_comm]
    have hgg : g ≠ g2 := fun e => h.apart rs[k] (List.getElem_mem hk) g2 ((hown g2).2 rfl) (by rw [e]; rfl)
    refine ⟨g, g2, rs[k].c, rfl, hS, ?_, hBo.frozen k, hgg, hm.top g2 ((hown g2).2 rfl), hB.lt, by rw [hB.cell]; rfl, by rw [hB.cell]; rfl, hB.frozen 1, fun v => ?_⟩
    · rw [hBo.cell, ho2, hA, hlen]
    · have hO : Only (fun b => b = g2) w (w.setCell ⟨g2, 1, none⟩ (.int .i64 v)) := (Only.refl (fun b => b = g2) w).setCell (p := ⟨g2, 1, none⟩) rfl _
      have h3 := h.within hk [a, v] rfl (hO.mono fun b hb => (hown b).2 hb) ⟨by
        rw [hA, hlen]
        exact own_shut (Nat.zero_le _) (hB.set_ 1 (.int .i64 v)) (by simpa using hcl) hnc hcm rfl, fun b hb => hb⟩
      rw [hA, hlen] at h3
      exact h3
/-- A row is exchanged for a new one. -/
theorem row_swap (h : MineR rowSh w (fun b => B ≤ b) 22 3 A n c rs) (hk : k < rs.length) {g : Nat} (hA : A = some ⟨g, 0, none⟩) (a v : Int) :
    MineR rowSh ((w.alloc (.cells #[.int .i64 a, .int .i64 v] 3)).setCell ⟨g, k, none⟩ (.slice (some ⟨w.heap.size, 0, none⟩) 2 2)) (fun b => B ≤ b) 22 3 A n c (rs.set k ⟨[a, v], some ⟨w.heap.size, 0, none⟩, 2, 2⟩) ∨ w.heap.size < B := by
  rcases Nat.lt_or_ge w.heap.size B with hBw | hBw
  · exact .inr hBw
  refine .inl ?_
  have hc := h.count
  obtain ⟨g', cur, rfl, hS, hB, hcl, hncl, hget⟩ := h.block (by omega)
  injection hA with hA
  injection hA with e1 _ _
  subst e1
  have hs1 : n ≤ cur.length := by have : n * rowSh.s = n := Nat.mul_one n; omega
  have hkc : k < cur.length := by omega
  have hbel : Below w.heap.size w (w.alloc (.cells #[.int .i64 a, .int .i64 v] 3)) := (Below.refl _ _).alloc (Nat.le_refl _) _
  have hR1 := h.next hbel
  have hB1 := hB.next hbel
  have hnew : Blk (w.alloc (.cells #[.int .i64 a, .int .i64 v] 3)) w.heap.size 3 [.int .i64 a, .int .i64 v] := Blk.at_ rfl
  have hO : Only (fun b => b = g') (w.alloc (.cells #[.int .i64 a, .int .i64 v] 3)) ((w.alloc (.cells #[.int .i64 a, .int .i64 v] 3)).setCell ⟨g', k, none⟩ (.slice (some ⟨w.heap.size, 0, none⟩) 2 2)) := (Only.refl (fun b => b = g') _).setCell (p := ⟨g', k, none⟩) rfl _
  have hgl := hB.lt
  have hnew2 := hnew.only hO (by omega)
  refine hR1.swap (r := ⟨[a, v], some ⟨w.heap.size, 0, none⟩, 2, 2⟩) (D := fun b => b = w.heap.size) hB1 hk hO (hB1.set_ k _) (by simp) (fun j hj => ?_) (fun j hj => ?_) ⟨own_shut (Nat.zero_le _) hnew2 rfl (Nat.le_refl _) (by simp [maxLen]) rfl, fun b hb => by simpa [OwnB, Value.ownBlock, eq_comm] using hb⟩ (fun b hb => by omega) (by omega) (fun r' hr' b hb => ?_)
  · have hj0 : j = 0 := by have : rowSh.s = 1 := rfl; omega
    subst hj0
    show (cur.set k _)[k * 1 + 0]? = _
    rw [Nat.mul_one, Nat.add_zero, List.getElem?_set_self hkc]
    rfl
  · have hj1 : k ≠ j := by
      intro e
      subst e
      exact hj ⟨by show k * 1 ≤ k; omega, by show k < k * 1 + 1; omega⟩
    rw [List.getElem?_set_ne hj1]
  · have := (h.inners.each r' hr').lt b hb
    omega
/-- One row more. -/
theorem row_push (h : MineR rowSh w (fun b => B ≤ b) 22 3 A n c rs) (hBw : B ≤ w.heap.size) (a v : Int)
    (o4 : w4.ownsRow 0 22 1 (.slice A2 (n + 1) c2) (n + 1) (rs.flatMap rowSh.enc ++ [.slice (some ⟨w.heap.size, 0, none⟩) 2 2])) (h4 : Only (OwnB A) (w.alloc (.cells #[.int .i64 a, .int .i64 v] 3)) w4)
    (q4 : ∀ b, OwnB A2 b → OwnB A b ∨ (w.alloc (.cells #[.int .i64 a, .int .i64 v] 3)).heap.size ≤ b) :
    MineR rowSh w4 (fun b => B ≤ b) 22 3 A2 (n + 1) c2 (rs ++ [⟨[a, v], some ⟨w.heap.size, 0, none⟩, 2, 2⟩]) ∧ Below B w w4 := by
  have hU : Below w.heap.size w (w.alloc (.cells #[.int .i64 a, .int .i64 v] 3)) := (Below.refl _ _).alloc (Nat.le_refl _) _
  have hBn : Blk (w.alloc (.cells #[.int .i64 a, .int .i64 v] 3)) w.heap.size 3 [.int .i64 a, .int .i64 v] := Blk.at_ rfl
  have hz4 := h4.size
  have hon : (w.alloc (.cells #[.int .i64 a, .int .i64 v] 3)).ownsRow w.heap.size 3 1 (.slice (some ⟨w.heap.size, 0, none⟩) 2 2) 2 (ints [a, v]) := hBn.own (Nat.le_refl _) rfl (by simp [maxLen])
  simp only [World.size_alloc] at hz4
  have hs := nest_snoc (sh := rowSh) (x := [a, v]) (w2 := w.alloc (.cells #[.int .i64 a, .int .i64 v] 3)) (D := fun _ => False) (h.inn.inners.next hU) h.apart h.outer.lt hon (fun b hb => hb.elim) (Nat.le_refl _) (Only.refl _ _) h4 q4 hBw (by simp)
  refine ⟨⟨⟨by rw [List.flatMap_append]; exact o4, fun b hb => ?_⟩, hs.1.wide fun b hb => hb.1, hs.2⟩, (((Below.refl _ _).alloc hBw _).trans (h4.below (fun b hb => h.outer.top b hb) (by simp; omega)))⟩
  rcases q4 b hb with h5 | h5
  · exact h.outer.top b h5
  · simp only [World.size_alloc] at h5
    show B ≤ b
    omega
end
end Go.Proofs.Ytljiflbaknakaaa
