/- slices.DeleteFunc at []int. -/
import Derived.Test.YtkchdhmnomelkaaGreatSortP
import Derived.Test.YtkchdhmnomelkaaGreatLib1
import Derived.Test.YtkchdhmnomelkaaGreatOwn
namespace Go.Proofs.YtkchdhmnomelkaaGreat
open Go.RowKit

theorem own_row {w : World} {base t s n c : Nat} {A : Option Addr} {cs : List Value} (h : w.ownsRow base t s (.slice A n c) n cs) : (A = none ∧ n = 0 ∧ c = 0 ∧ cs = []) ∨ ∃ (g : Nat) (rest : List Value), A = some ⟨g, 0, none⟩ ∧ base ≤ g ∧ Blk w g t (cs ++ rest) ∧ (cs ++ rest).length = c * s ∧ n ≤ c ∧ c ≤ maxLen := by
  rcases own_open h with h1 | ⟨g, cur, h1, h2, h3, h4, h5, h6, h7⟩
  · exact .inl h1
  · refine .inr ⟨g, cur.drop (n * s), h1, h2, ?_, ?_, h5, h6⟩
    · rw [← h7, List.take_append_drop]; exact h3
    · rw [← h7, List.take_append_drop]; exact h4
theorem own_row_mk {w : World} {base t s n c g : Nat} {cs rest : List Value} (hg : base ≤ g) (hB : Blk w g t (cs ++ rest)) (hl : (cs ++ rest).length = c * s) (hn : n ≤ c) (hm : c ≤ maxLen) (hc : cs.length = n * s) : w.ownsRow base t s (.slice (some ⟨g, 0, none⟩) n c) n cs :=
  own_shut hg hB hl hn hm (by rw [← hc, List.take_left'] ; rfl)
set_option maxRecDepth 100000 in
set_option maxHeartbeats 1000000 in
theorem setCells_many (g : Nat) : ∀ (vs : List Value) (i : Nat) (w : World), w.setCells g i vs = setManyW w g i vs
  | [], _, _ => rfl
  | v :: vs, i, w => by
    rw [World.setCells, setManyW, setCells_many g vs (i + 1)]
theorem run_clear {P : Program} (w : World) (t e : TypeId) (z : Value) (s : Nat) (ht : P.underlying t = some (.slice e)) (hv : ∀ w, (zeroValue e).run P w = .ok z w) (hz : z.cells.size = s) (h1 : ∀ v ∈ z.cells, v.oneCell' = true) (b o n c : Nat) (hn : 0 < n) (cs : List Value) (tt : TypeId) (hB : Blk w b tt cs) (hr : o + n * s ≤ cs.length) :
    ∃ zs : List Value, zs.length = n * s ∧ ∀ ty, (Builtin.clear_ #[t] ty #[.slice (some ⟨b, o, none⟩) n c]).run P w = .ok (.tuple #[]) (setManyW w b o zs) := by
  refine ⟨(Builtin.zeroCells z.cells n).toList, by simp [Builtin.zeroCells, hz], fun ty => ?_⟩
  have hlen : (Builtin.zeroCells z.cells n).toList.length = n * s := by simp [Builtin.zeroCells, hz]
  have hst := run_storeCells_cells (P := P) b o (Builtin.zeroCells z.cells n).toList 0 w (fun j hj => by rw [Nat.add_zero, hB.cell, List.getElem?_eq_getElem (by omega)]; rfl) (fun j _ => hB.frozen _) (fun v hv' => by
    simp only [Builtin.zeroCells, Array.toList_map, Array.toList_range, List.mem_map, List.mem_range] at hv'
    obtain ⟨i, hi, rfl⟩ := hv'
    have hp : 0 < z.cells.size := by rcases Nat.eq_zero_or_pos z.cells.size with h | h; · rw [h] at hi; omega
                                     · exact h
    have hm := Nat.mod_lt i hp
    rw [getElem!_pos z.cells _ hm]
    exact h1 _ (Array.getElem_mem hm))
  simp only [Nat.add_zero] at hst
  rw [setCells_many] at hst
  obtain ⟨m, rfl⟩ : ∃ m, n = m + 1 := ⟨n - 1, by omega⟩
  simp [Builtin.clear_, run_underlying ht, hv, hst]
/-- The function value answers p at each element, in every world in which blocks of S alone have changed. -/
structure AnswersO {α : Type} (g : Nat) (lb : Array Value) (enc : α → Value) (p : α → Bool) (xs : List α) (S : Nat → Prop) (w : World) : Prop where
  enters : ∀ args w, (callFunc g args).run Tryz.prog w = .ok (.enter g args) w
  at' : ∀ (x : α), x ∈ xs → ∀ W : World, Only S w W → Calls Tryz.prog g (#[enc x] ++ lb) W fun e W' => e = .returned (.bool (p x)) ∧ Below W.heap.size W W'
theorem AnswersO.plain {α : Type} {g : Nat} {lb : Array Value} {enc : α → Value} {p : α → Bool} {xs : List α} {S : Nat → Prop} {w : World} (h : AnswersO g lb enc p xs S w) : Answers g lb enc p xs w :=
  ⟨h.enters, fun i hi W hb => h.at' xs[i] (List.getElem_mem hi) W (Only.of_below hb)⟩
theorem setMany_before {α : Type} (vs cs : List α) (k : Nat) (h : k + vs.length ≤ cs.length) : (setMany cs k vs).take k = cs.take k := by
  refine List.ext_getElem? fun j => ?_
  rw [List.getElem?_take, List.getElem?_take]
  by_cases hj : j < k
  · rw [if_pos hj, if_pos hj, setMany_get _ _ _ _ h, if_neg (by omega)]
  · rw [if_neg hj, if_neg hj]
theorem row_take {α : Type} {enc : α → List Value} {s : Nat} (henc : ∀ x, (enc x).length = s) (ys : List α) (rest : List Value) (i : Nat) (hi : i ≤ ys.length) : (ys.flatMap enc ++ rest).take (i * s) = (ys.take i).flatMap enc := by
  have e1 : ys.flatMap enc ++ rest = (ys.take i).flatMap enc ++ ((ys.drop i).flatMap enc ++ rest) := by rw [← List.append_assoc, ← List.flatMap_append, List.take_append_drop]
  rw [e1, List.take_left' (by rw [flatMap_len _ (fun x _ => henc x), List.length_take, show min i ys.length = i by omega])]
theorem filter_next {α : Type} {p : α → Bool} {xs : List α} {k : Nat} (hk : k < xs.length) : (xs.take (k + 1)).filter p = if p xs[k] then (xs.take k).filter p ++ [xs[k]] else (xs.take k).filter p := by
  rw [List.take_succ_eq_append_getElem hk, List.filter_append]
  by_cases h : p xs[k] <;> simp [h]
theorem take_set_snoc {α : Type} {ys : List α} {i : Nat} (v : α) (hi : i < ys.length) : (ys.set i v).take (i + 1) = ys.take i ++ [v] := by
  rw [List.take_succ_eq_append_getElem (by simpa using hi), List.take_set_of_le (Nat.le_refl i)]
  simp
def intC (x : Int) : List Value := [.int .i64 x]
theorem flatMap_intC (xs : List Int) : xs.flatMap intC = ints xs := by
  induction xs with
  | nil => rfl
  | cons x l ih => rw [List.flatMap_cons, ih]; rfl
end Go.Proofs.YtkchdhmnomelkaaGreat
