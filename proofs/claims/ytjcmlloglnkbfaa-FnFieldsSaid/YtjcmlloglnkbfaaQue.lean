/- A queue of numbers: a slice of the call's own that is cut at its front and grows at its end. -/
import Derived.Test.YtjcmlloglnkbfaaOwn
import Derived.ArgAppend
namespace Go.Proofs.Ytjcmlloglnkbfaa
open Go.RowKit

/-- The n numbers xs lie from place off on in block g, with room up to c. -/
structure Que (w : World) (lo g off n c : Nat) (xs : List Int) : Prop where
  ge : lo ≤ g
  blk : ∃ cur, Blk w g 3 cur ∧ off + c ≤ cur.length ∧ ∀ j (h : j < xs.length), cur[off + j]? = some (.int .i64 xs[j])
  len : xs.length = n
  cap : n ≤ c
theorem Que.lt {w : World} {lo g off n c : Nat} {xs : List Int} (h : Que w lo g off n c xs) : g < w.heap.size := by
  obtain ⟨cur, h1, _⟩ := h.blk
  exact h1.lt
theorem Que.next {w w' : World} {lo g off n c : Nat} {xs : List Int} (h : Que w lo g off n c xs) (hb : Below w.heap.size w w') : Que w' lo g off n c xs := by
  obtain ⟨cur, h1, h2, h3⟩ := h.blk
  exact ⟨h.ge, ⟨cur, h1.next hb, h2, h3⟩, h.len, h.cap⟩
theorem Que.only {w w' : World} {lo g off n c : Nat} {xs : List Int} {S : Nat → Prop} (h : Que w lo g off n c xs) (ho : Only S w w') (hS : ¬ S g) : Que w' lo g off n c xs := by
  obtain ⟨cur, h1, h2, h3⟩ := h.blk
  exact ⟨h.ge, ⟨cur, h1.only ho hS, h2, h3⟩, h.len, h.cap⟩
theorem Que.cell {w : World} {lo g off n c : Nat} {xs : List Int} (h : Que w lo g off n c xs) {j : Nat} (hj : j < n) : ∃ hx : j < xs.length, w.cell? ⟨g, off + j, none⟩ = some (.int .i64 xs[j]) := by
  obtain ⟨cur, h1, _, h3⟩ := h.blk
  have hl := h.len
  exact ⟨by omega, (h1.cell _).trans (h3 j (by omega))⟩
/-- queue[1:] -/
theorem Que.pop {w : World} {lo g off n c : Nat} {x : Int} {xs : List Int} (h : Que w lo g off (n + 1) c (x :: xs)) : Que w lo g (off + 1) n (c - 1) xs := by
  obtain ⟨cur, h1, h2, h3⟩ := h.blk
  have hl := h.len
  have hc := h.cap
  refine ⟨h.ge, ⟨cur, h1, by omega, fun j hj => ?_⟩, by simpa using hl, by omega⟩
  have := h3 (j + 1) (by simpa using hj)
  rw [show off + 1 + j = off + (j + 1) by omega]
  simpa using this
/-- .. where nothing is left and there is no room: the address stays. -/
theorem Que.last {w : World} {lo g off : Nat} {x : Int} {xs : List Int} (h : Que w lo g off 1 1 (x :: xs)) : Que w lo g off 0 0 xs := by
  obtain ⟨cur, h1, h2, _⟩ := h.blk
  have hl := h.len
  obtain rfl : xs = [] := by cases xs <;> simp_all
  exact ⟨h.ge, ⟨cur, h1, by omega, fun j hj => absurd hj (by simp)⟩, rfl, Nat.le_refl _⟩
theorem Que.sees {w : World} {lo g off n c : Nat} {xs : List Int} (h : Que w lo g off n c xs) : Sees w lo 1 (some ⟨g, off, none⟩) n (ints xs) := by
  obtain ⟨cur, h1, h2, h3⟩ := h.blk
  refine ⟨by rw [ints_length, h.len]; omega, fun _ => ⟨g, off, rfl, h.ge, h1.lt, fun j u hu => ?_⟩⟩
  have hj : j < xs.length := by
    have := (List.getElem?_eq_some_iff.1 hu).1
    rwa [ints_length] at this
  rw [ints_get xs j hj] at hu
  rw [h1.cell, h3 j hj, hu]
set_option maxRecDepth 100000 in
/-- queue = append(queue, v): v boxed just ahead. -/
theorem wpList_quePush {w : World} {ops : Array Oper} {rest : List Oper} {o : Oper} {a : Act} {Q : Exit → Act → World → Prop} (hgd : o.guard = none) (sx xx : Operand)
    (ho : o.op = .call { callee := .builtin .append, args := #[sx, xx], argTypes := #[22, 22] })
    {lo g off n c : Nat} {xs : List Int} {v : Int} (hs : a.eval sx = .slice (some ⟨g, off, none⟩) n c) (hq : Que w lo g off n c xs)
    {bH : Nat} (hx : a.eval xx = .slice (some ⟨bH, 0, none⟩) 1 1) (hH : w.heap.size = bH) (hn : n ≤ 1000000000) (hlo : lo ≤ w.heap.size)
    (h : ∀ (g' off' c' : Nat) (w' : World), Que w' lo g' off' (n + 1) c' (xs ++ [v]) → Only (fun b => b = g) w w' → (g' = g ∨ w.heap.size ≤ g') → wpList Try.prog ops Q rest (a.put o.dst (.slice (some ⟨g', off', none⟩) (n + 1) c')) w') :
    wpList Try.prog ops Q (o :: rest) a (w.alloc (.cells #[.int .i64 v] 3)) := by
  subst hH
  obtain ⟨i0, hi, hz0, hz1, hz2⟩ := info_parts info_int
  have hlt := hq.lt
  have hl := hq.len
  have hU : Below w.heap.size w (w.alloc (.cells #[.int .i64 v] 3)) := (Below.refl _ _).alloc (Nat.le_refl _) _
  obtain ⟨cur, h1, h2, h3⟩ := (hq.next hU).blk
  have hB : Blk (w.alloc (.cells #[.int .i64 v] 3)) w.heap.size 3 [.int .i64 v] := Blk.at_ rfl
  refine wpList_append_arg (w.alloc (.cells #[.int .i64 v] 3)) hgd sx xx 22 ho 3 i0 (.int .i64 0) 1 8 Try.underlying22 hi hz0 hz1 hz2 rfl (by decide) g off n c (ints xs) hs (by rw [ints_length]; omega) (fun j u hu => ?_)
    ⟨w.heap.size, 0, none⟩ 1 1 [.int .i64 v] hx rfl (fun j u hu => ?_) (by simp [Value.oneCell']) (fun hr j hj => ?_) (by simp only [maxLen]; omega) (by omega) (fun hr => ?_) (fun hr v' w' hown hgr => ?_)
  · have hj : j < xs.length := by
      have := (List.getElem?_eq_some_iff.1 hu).1
      rwa [ints_length] at this
    rw [ints_get xs j hj] at hu
    rw [h1.cell, h3 j hj, hu]
  · have hadd : (⟨w.heap.size, 0, none⟩ : Addr).add j = ⟨w.heap.size, 0 + j, none⟩ := by unfold Addr.add; split <;> simp_all
    rw [hadd, Nat.zero_add, hB.cell, hu]
  · have hj0 : j = 0 := by simpa using hj
    subst hj0
    rw [h1.cell, h1.frozen]
    refine ⟨?_, rfl⟩
    rw [List.getElem?_eq_getElem (by omega)]
    rfl
  · have he : (w.alloc (.cells #[.int .i64 v] 3)).setCells g (off + n * 1) [.int .i64 v] = (w.alloc (.cells #[.int .i64 v] 3)).setCell ⟨g, off + n, none⟩ (.int .i64 v) := by
      simp [World.setCells]
    rw [he]
    refine h g off c _ ⟨hq.ge, ⟨cur.set (off + n) (.int .i64 v), h1.set_ _ _, by rw [List.length_set]; exact h2, fun j hj => ?_⟩, by simp; omega, by omega⟩ ((Only.of_below hU).trans ((Only.refl (fun b => b = g) _).setCell (p := ⟨g, off + n, none⟩) rfl _)) (.inl rfl)
    by_cases e : j = n
    · subst e
      rw [List.getElem?_set_self (by omega)]
      congr 2
      rw [List.getElem_append_right (by omega)]
      simp
    · have hj' : j < xs.length := by simp at hj; omega
      rw [List.getElem?_set_ne (by omega), h3 j hj', List.getElem_append_left hj']
  · rcases hown.2 with ⟨hv, h0⟩ | ⟨g', cap', cur', rfl, k1, k2, k3, k4, k5, k6⟩
    · omega
    · have hz : (w.alloc (.cells #[.int .i64 v] 3)).heap.size = w.heap.size + 1 := by simp
      clear k4
      refine h g' 0 cap' w' ⟨by omega, ⟨cur'.toList, by unfold Blk; simpa using k2, by rw [Array.length_toList]; omega, fun j hj => ?_⟩, by simp; omega, k3⟩ ((Only.of_below hU).trans ⟨hgr.os, hgr.tape, hgr.output, hgr.size, fun k hk _ => hgr.block k hk (fun e => by cases e)⟩) (.inr (by omega))
      have e1 := congrArg (fun l => l[j]?) k6
      have hj' : j < n + 1 := by simp at hj; omega
      simp only [Nat.mul_one] at e1
      rw [List.getElem?_take_of_lt hj'] at e1
      rw [Nat.zero_add, e1, show ints xs ++ [.int .i64 v] = ints (xs ++ [v]) by rw [ints_append]; rfl, ints_get _ j hj]

end Go.Proofs.Ytjcmlloglnkbfaa
