/- The draws of maps. -/
import Derived.Test.YtljiflbaknakaaaCurX
import Derived.Test.YtljiflbaknakaaaMap
namespace Go.Proofs.Ytljiflbaknakaaa
open Go.RowKit

theorem own_row {w : World} {base t s n c : Nat} {A : Option Addr} {cs : List Value} (h : w.ownsRow base t s (.slice A n c) n cs) : (A = none ∧ n = 0 ∧ c = 0 ∧ cs = []) ∨ ∃ (g : Nat) (rest : List Value), A = some ⟨g, 0, none⟩ ∧ base ≤ g ∧ Blk w g t (cs ++ rest) ∧ (cs ++ rest).length = c * s ∧ n ≤ c ∧ c ≤ maxLen := by
  rcases own_open h with h1 | ⟨g, cur, h1, h2, h3, h4, h5, h6, h7⟩
  · exact .inl h1
  · refine .inr ⟨g, cur.drop (n * s), h1, h2, ?_, ?_, h5, h6⟩
    · rw [← h7, List.take_append_drop]; exact h3
    · rw [← h7, List.take_append_drop]; exact h4
theorem own_row_mk {w : World} {base t s n c g : Nat} {cs rest : List Value} (hg : base ≤ g) (hB : Blk w g t (cs ++ rest)) (hl : (cs ++ rest).length = c * s) (hn : n ≤ c) (hm : c ≤ maxLen) (hc : cs.length = n * s) : w.ownsRow base t s (.slice (some ⟨g, 0, none⟩) n c) n cs :=
  own_shut hg hB hl hn hm (by rw [← hc, List.take_left'] ; rfl)
/-- A map that is being drawn: the result's block, the map's block gm, its two lists. -/
structure MapSt (w wr : World) (g n gm : Nat) (wd ht : Int) (A1 : Option Addr) (n1 c1 : Nat) (r : List Int) (A2 : Option Addr) (n2 c2 : Nat) (c : List Int) : Prop where
  cur : Cur wr g n
  res : Blk wr w.heap.size 29 [.int .i64 0, .int .i64 0, .slice none 0 0, .slice none 0 0]
  blk : Blk wr gm 29 [.int .i64 wd, .int .i64 ht, .slice A1 n1 c1, .slice A2 n2 c2]
  o1 : wr.ownsRow (w.heap.size + 1) 3 1 (.slice A1 n1 c1) n1 (ints r)
  o2 : wr.ownsRow (w.heap.size + 1) 3 1 (.slice A2 n2 c2) n2 (ints c)
  far1 : ∀ b, OwnB A1 b → b ≠ gm ∧ ¬ OwnB A2 b
  far2 : ∀ b, OwnB A2 b → b ≠ gm
  lo : w.heap.size < gm
  only : Only (fun b => b = g) w wr
section
variable {w wr wv w' : World} {g n n' gm : Nat} {wd ht : Int} {A1 A2 : Option Addr} {n1 c1 n2 c2 : Nat} {r c : List Int}
theorem MapSt.below (h : MapSt w wr g n gm wd ht A1 n1 c1 r A2 n2 c2 c) (hb : Below wr.heap.size wr wv) : MapSt w wv g n gm wd ht A1 n1 c1 r A2 n2 c2 c :=
  ⟨h.cur.next hb, h.res.next hb, h.blk.next hb, own_below h.o1 hb, own_below h.o2 hb, h.far1, h.far2, h.lo, h.only.then_ hb⟩
theorem MapSt.drawn (h : MapSt w wr g n gm wd ht A1 n1 c1 r A2 n2 c2 c) (hg : g < w.heap.size) (hc : Cur wv g n') (ho : Only (fun b => b = g) wr wv) : MapSt w wv g n' gm wd ht A1 n1 c1 r A2 n2 c2 c :=
  ⟨hc, h.res.only ho (fun (e : _ = _) => by omega), h.blk.only ho (fun (e : _ = _) => by have := h.lo; omega), own_only h.o1 ho (fun b hb (e : _ = _) => by have := (own_top h.o1 hb).1; omega), own_only h.o2 ho (fun b hb (e : _ = _) => by have := (own_top h.o2 hb).1; omega), h.far1, h.far2, h.lo, h.only.trans ho⟩
theorem MapSt.step (h : MapSt w wr g n gm wd ht A1 n1 c1 r A2 n2 c2 c) (hg : g < w.heap.size) (hb : Below wr.heap.size wr wv) (hc : Cur w' g n') (ho : Only (fun b => b = g) wv w') : MapSt w w' g n' gm wd ht A1 n1 c1 r A2 n2 c2 c := (h.below hb).drawn hg hc ho
theorem MapSt.more (h : MapSt w wr g n gm wd ht A1 n1 c1 r A2 n2 c2 c) (hn : n ≤ n') : MapSt w wr g n' gm wd ht A1 n1 c1 r A2 n2 c2 c := { h with cur := h.cur.more hn }
/-- the costs have grown -/
theorem MapSt.push2 {A' : Option Addr} {m' c' : Nat} {v : Int} (h : MapSt w wr g n gm wd ht A1 n1 c1 r A2 n2 c2 c) (hg : g < w.heap.size) (ho0 : wv.ownsRow (w.heap.size + 1) 3 1 (.slice A' m' c') m' (ints c ++ [.int .i64 v])) (hq : Only (OwnB A2) wr wv) (hz : wr.heap.size ≤ wv.heap.size) (hat : ∀ b, OwnB A' b → OwnB A2 b ∨ wr.heap.size ≤ b) :
    MapSt w (wv.setCell ⟨gm, 3, none⟩ (.slice A' m' c')) g n gm wd ht A1 n1 c1 r A' m' c' (c ++ [v]) := by
  have ho : wv.ownsRow (w.heap.size + 1) 3 1 (.slice A' m' c') m' (ints (c ++ [v])) := by rw [ints_append]; exact ho0
  have hgm := h.blk.lt
  have hA : ∀ b, OwnB A2 b → b ≠ g := fun b hb => by have := (own_top h.o2 hb).1; omega
  have hfar' : ∀ b, OwnB A' b → b ≠ gm := fun b hb => by
    rcases hat b hb with h1 | h1
    · exact h.far2 b h1
    · omega
  have hS : Only (fun b => b = gm) wv (wv.setCell ⟨gm, 3, none⟩ (.slice A' m' c')) := only_set (Only.refl _ _) 3 _
  obtain ⟨Ac, mc, cc, p, s, k1, k2, k3, k4⟩ := h.cur.ex
  have hlo := h.lo
  refine ⟨⟨Ac, mc, cc, p, s, (k1.only hq (fun hb => hA _ hb rfl)).only hS (fun (e : _ = _) => by omega), k2, k3, CodeAt.only (CodeAt.only k4 k1.lt hq (fun b hb => by have := (own_top h.o2 hb).1; omega)) (k1.only hq (fun hb => hA _ hb rfl)).lt hS (fun b (e : _ = _) => by omega)⟩, (h.res.only hq (fun hb => by have := (own_top h.o2 hb).1; omega)).only hS (fun (e : _ = _) => by omega), (h.blk.only hq (fun hb => h.far2 _ hb rfl)).set_ 3 _, own_only (own_only h.o1 hq (fun b hb h2 => (h.far1 b hb).2 h2)) hS (fun b hb (e : _ = _) => (h.far1 b hb).1 e), own_only ho hS (fun b hb (e : _ = _) => hfar' b hb e), fun b hb => ⟨(h.far1 b hb).1, fun h2 => ?_⟩, hfar', hlo, ?_⟩
  · rcases hat b h2 with h3 | h3
    · exact (h.far1 b hb).2 h3
    · have := (own_top h.o1 hb).2; omega
  · have h1 := h.only
    have e1 : Only (fun b => b = g) w wv := ⟨hq.os.trans h1.os, hq.tape.trans h1.tape, hq.output.trans h1.output, Nat.le_trans h1.size hz, fun k hk hS => (hq.block k (Nat.lt_of_lt_of_le hk h1.size) (fun hb => by have := (own_top h.o2 hb).1; omega)).trans (h1.block k hk hS)⟩
    exact only_new e1 (by show w.heap.size ≤ gm; omega) _
/-- the heights have grown -/
theorem MapSt.push1 {A' : Option Addr} {m' c' : Nat} {v : Int} (h : MapSt w wr g n gm wd ht A1 n1 c1 r A2 n2 c2 c) (hg : g < w.heap.size) (ho0 : wv.ownsRow (w.heap.size + 1) 3 1 (.slice A' m' c') m' (ints r ++ [.int .i64 v])) (hq : Only (OwnB A1) wr wv) (hz : wr.heap.size ≤ wv.heap.size) (hat : ∀ b, OwnB A' b → OwnB A1 b ∨ wr.heap.size ≤ b) :
    MapSt w (wv.setCell ⟨gm, 2, none⟩ (.slice A' m' c')) g n gm wd ht A' m' c' (r ++ [v]) A2 n2 c2 c := by
  have ho : wv.ownsRow (w.heap.size + 1) 3 1 (.slice A' m' c') m' (ints (r ++ [v])) := by rw [ints_append]; exact ho0
  have hgm := h.blk.lt
  have hA : ∀ b, OwnB A1 b → b ≠ g := fun b hb => by have := (own_top h.o1 hb).1; omega
  have hfar' : ∀ b, OwnB A' b → b ≠ gm := fun b hb => by
    rcases hat b hb with h1 | h1
    · exact (h.far1 b h1).1
    · omega
  have hS : Only (fun b => b = gm) wv (wv.setCell ⟨gm, 2, none⟩ (.slice A' m' c')) := only_set (Only.refl _ _) 2 _
  obtain ⟨Ac, mc, cc, p, s, k1, k2, k3, k4⟩ := h.cur.ex
  have hlo := h.lo
  refine ⟨⟨Ac, mc, cc, p, s, (k1.only hq (fun hb => hA _ hb rfl)).only hS (fun (e : _ = _) => by omega), k2, k3, CodeAt.only (CodeAt.only k4 k1.lt hq (fun b hb => by have := (own_top h.o1 hb).1; omega)) (k1.only hq (fun hb => hA _ hb rfl)).lt hS (fun b (e : _ = _) => by omega)⟩, (h.res.only hq (fun hb => by have := (own_top h.o1 hb).1; omega)).only hS (fun (e : _ = _) => by omega), (h.blk.only hq (fun hb => (h.far1 _ hb).1 rfl)).set_ 2 _, own_only ho hS (fun b hb (e : _ = _) => hfar' b hb e), own_only (own_only h.o2 hq (fun b hb h2 => (h.far1 b h2).2 hb)) hS (fun b hb (e : _ = _) => h.far2 b hb e), fun b hb => ⟨hfar' b hb, fun h2 => ?_⟩, h.far2, hlo, ?_⟩
  · rcases hat b hb with h3 | h3
    · exact (h.far1 b h3).2 h2
    · have := (own_top h.o2 h2).2; omega
  · have h1 := h.only
    have e1 : Only (fun b => b = g) w wv := ⟨hq.os.trans h1.os, hq.tape.trans h1.tape, hq.output.trans h1.output, Nat.le_trans h1.size hz, fun k hk hS => (hq.block k (Nat.lt_of_lt_of_le hk h1.size) (fun hb => by have := (own_top h.o1 hb).1; omega)).trans (h1.block k hk hS)⟩
    exact only_new e1 (by show w.heap.size ≤ gm; omega) _
end
/-- A map, drawn. -/
def DrawnM (w : World) (g n : Nat) (e : Ending) (w' : World) : Prop := ∃ (m : MapV) (A1 : Option Addr) (n1 c1 : Nat) (A2 : Option Addr) (n2 c2 : Nat), e = .returned (.agg #[.int .i64 m.width, .int .i64 m.height, .slice A1 n1 c1, .slice A2 n2 c2]) ∧ SeesMap w' A1 n1 A2 n2 m ∧ (n1 ≤ 40 ∧ n2 ≤ 40) ∧ ((0 ≤ m.width ∧ m.width ≤ 10) ∧ (0 ≤ m.height ∧ m.height ≤ 10)) ∧ (∀ b, OwnB A1 b ∨ OwnB A2 b → w.heap.size ≤ b ∧ b < w'.heap.size) ∧ Cur w' g n ∧ Only (fun b => b = g) w w'

theorem MapSt.done {w wr : World} {g n gm : Nat} {wd ht : Int} {A1 A2 : Option Addr} {n1 c1 n2 c2 : Nat} {r c : List Int} (h : MapSt w wr g n gm wd ht A1 n1 c1 r A2 n2 c2 c) (hg : g < w.heap.size) (hn : n1 ≤ 40 ∧ n2 ≤ 40) (hs : (0 ≤ wd ∧ wd ≤ 10) ∧ (0 ≤ ht ∧ ht ≤ 10)) :
    DrawnM w g n (.returned (.agg #[.int .i64 wd, .int .i64 ht, .slice A1 n1 c1, .slice A2 n2 c2])) (setManyW wr w.heap.size 0 [.int .i64 wd, .int .i64 ht, .slice A1 n1 c1, .slice A2 n2 c2]) := by
  have ho : Only (fun b => b = w.heap.size) wr (setManyW wr w.heap.size 0 [.int .i64 wd, .int .i64 ht, .slice A1 n1 c1, .slice A2 n2 c2]) := Only.many (S := fun b => b = w.heap.size) rfl _ (Only.refl _ _) 0
  have s1 := (Sees.of_own h.o1).only ho (fun b off e hn (hb : b = _) => by have := (own_top h.o1 (by rw [e]; rfl : OwnB A1 b)).1; omega)
  have s2 := (Sees.of_own h.o2).only ho (fun b off e hn (hb : b = _) => by have := (own_top h.o2 (by rw [e]; rfl : OwnB A2 b)).1; omega)
  have hsz := ho.size
  obtain ⟨Ac, mc, cc, p, s, k1, k2, k3, k4⟩ := h.cur.ex
  have hz := h.only.size
  refine ⟨⟨wd, ht, r, c⟩, A1, n1, c1, A2, n2, c2, rfl, ⟨s1.less (Nat.zero_le _), s2.less (Nat.zero_le _)⟩, hn, hs, fun b hb => ?_, ⟨Ac, mc, cc, p, s, k1.only ho (fun (e : _ = _) => by omega), k2, k3, CodeAt.only k4 k1.lt ho (fun b (e : _ = _) => by omega)⟩, ?_⟩
  · rcases hb with hb | hb
    · have := own_top h.o1 hb; omega
    · have := own_top h.o2 hb; omega
  · have h1 := h.only
    exact ⟨ho.os.trans h1.os, ho.tape.trans h1.tape, ho.output.trans h1.output, Nat.le_trans h1.size ho.size, fun k hk hS => (ho.block k (by omega) (fun e => by omega)).trans (h1.block k hk hS)⟩

theorem MapSt.setWide {w wr : World} {g n gm : Nat} {wd ht : Int} {A1 A2 : Option Addr} {n1 c1 n2 c2 : Nat} {r c : List Int} (h : MapSt w wr g n gm wd ht A1 n1 c1 r A2 n2 c2 c) (hg : g < w.heap.size) (v : Int) : MapSt w (wr.setCell ⟨gm, 0, none⟩ (.int .i64 v)) g n gm v ht A1 n1 c1 r A2 n2 c2 c := by
  have hS : Only (fun b => b = gm) wr (wr.setCell ⟨gm, 0, none⟩ (.int .i64 v)) := only_set (Only.refl _ _) 0 _
  obtain ⟨Ac, mc, cc, p, s, k1, k2, k3, k4⟩ := h.cur.ex
  have hlo := h.lo
  exact ⟨⟨Ac, mc, cc, p, s, k1.only hS (fun (e : _ = _) => by omega), k2, k3, CodeAt.only k4 k1.lt hS (fun b (e : _ = _) => by omega)⟩, h.res.only hS (fun (e : _ = _) => by omega), h.blk.set_ 0 _, own_only h.o1 hS (fun b hb (e : _ = _) => (h.far1 b hb).1 e), own_only h.o2 hS (fun b hb (e : _ = _) => h.far2 b hb e), h.far1, h.far2, hlo, only_new h.only (by show w.heap.size ≤ gm; omega) _⟩
/-- a value of a list has been turned -/
theorem MapSt.set2 {w wr : World} {g n gm b2 i : Nat} {wd ht : Int} {A1 : Option Addr} {n1 c1 n2 c2 : Nat} {r c : List Int} (h : MapSt w wr g n gm wd ht A1 n1 c1 r (some ⟨b2, 0, none⟩) n2 c2 c) (hg : g < w.heap.size) (v : Int) (hi : i < n2) : MapSt w (wr.setCell ⟨b2, i, none⟩ (.int .i64 v)) g n gm wd ht A1 n1 c1 r (some ⟨b2, 0, none⟩) n2 c2 (c.set i v) := by
  have hS : Only (fun b => b = b2) wr (wr.setCell ⟨b2, i, none⟩ (.int .i64 v)) := only_set (Only.refl _ _) i _
  obtain ⟨Ac, mc, cc, p, s, k1, k2, k3, k4⟩ := h.cur.ex
  have hlo := h.lo
  have ht2 := own_top h.o2 (b := b2) rfl
  have hf2 := h.far2 b2 rfl
  refine ⟨⟨Ac, mc, cc, p, s, k1.only hS (fun (e : _ = _) => by omega), k2, k3, CodeAt.only k4 k1.lt hS (fun b (e : _ = _) => by omega)⟩, h.res.only hS (fun (e : _ = _) => by omega), h.blk.only hS (fun (e : _ = _) => hf2 e.symm), own_only h.o1 hS (fun b hb (e : _ = _) => by subst e; exact (h.far1 _ hb).2 rfl), ?_, h.far1, h.far2, hlo, only_new h.only (by show w.heap.size ≤ b2; omega) _⟩
  rcases own_row h.o2 with ⟨e, _⟩ | ⟨b3, rest, e, hb, hB, hl, hnc, hm⟩
  · cases e
  · obtain rfl : b2 = b3 := by simpa using e
    have hcl : c.length = n2 := (Sees.of_own h.o2).icount
    have hB2 := hB.set_ i (.int .i64 v)
    have e1 : (ints c ++ rest).set i (.int .i64 v) = ints (c.set i v) ++ rest := by
      rw [List.set_append_left _ _ (by rw [ints_length]; omega)]
      simp [ints, List.map_set]
    rw [e1] at hB2
    exact own_row_mk hb hB2 (by rw [List.length_append, ints_length, List.length_set]; rw [List.length_append, ints_length] at hl; exact hl) hnc hm (by rw [ints_length, List.length_set]; omega)
/-- a value of a list has been turned -/
theorem MapSt.set1 {w wr : World} {g n gm b1 i : Nat} {wd ht : Int} {A2 : Option Addr} {n1 c1 n2 c2 : Nat} {r c : List Int} (h : MapSt w wr g n gm wd ht (some ⟨b1, 0, none⟩) n1 c1 r A2 n2 c2 c) (hg : g < w.heap.size) (v : Int) (hi : i < n1) : MapSt w (wr.setCell ⟨b1, i, none⟩ (.int .i64 v)) g n gm wd ht (some ⟨b1, 0, none⟩) n1 c1 (r.set i v) A2 n2 c2 c := by
  have hS : Only (fun b => b = b1) wr (wr.setCell ⟨b1, i, none⟩ (.int .i64 v)) := only_set (Only.refl _ _) i _
  obtain ⟨Ac, mc, cc, p, s, k1, k2, k3, k4⟩ := h.cur.ex
  have hlo := h.lo
  have ht2 := own_top h.o1 (b := b1) rfl
  have hf2 := (h.far1 b1 rfl).1
  refine ⟨⟨Ac, mc, cc, p, s, k1.only hS (fun (e : _ = _) => by omega), k2, k3, CodeAt.only k4 k1.lt hS (fun b (e : _ = _) => by omega)⟩, h.res.only hS (fun (e : _ = _) => by omega), h.blk.only hS (fun (e : _ = _) => hf2 e.symm), ?_, own_only h.o2 hS (fun b hb (e : _ = _) => by subst e; exact (h.far1 _ rfl).2 hb), h.far1, h.far2, hlo, only_new h.only (by show w.heap.size ≤ b1; omega) _⟩
  rcases own_row h.o1 with ⟨e, _⟩ | ⟨b3, rest, e, hb, hB, hl, hnc, hm⟩
  · cases e
  · obtain rfl : b1 = b3 := by simpa using e
    have hcl : r.length = n1 := (Sees.of_own h.o1).icount
    have hB2 := hB.set_ i (.int .i64 v)
    have e1 : (ints r ++ rest).set i (.int .i64 v) = ints (r.set i v) ++ rest := by
      rw [List.set_append_left _ _ (by rw [ints_length]; omega)]
      simp [ints, List.map_set]
    rw [e1] at hB2
    exact own_row_mk hb hB2 (by rw [List.length_append, ints_length, List.length_set]; rw [List.length_append, ints_length] at hl; exact hl) hnc hm (by rw [ints_length, List.length_set]; omega)
set_option maxRecDepth 100000 in
set_option maxHeartbeats 8000000 in
theorem mapOf_any (g n : Nat) (w : World) (h : Cur w g n) (hn : n ≤ 900000) :
    Calls Try.prog 93 #[.pointer (some ⟨g, 0, none⟩)] w (DrawnM w g (n + 200)) := by
  have hg := h.lt
  have U1 : Below w.heap.size w (w.alloc (.cells #[.int .i64 0, .int .i64 0, .slice none 0 0, .slice none 0 0] 29)) := (Below.refl _ _).alloc (Nat.le_refl _) _
  have R0 : Blk (w.alloc (.cells #[.int .i64 0, .int .i64 0, .slice none 0 0, .slice none 0 0] 29)) w.heap.size 29 [.int .i64 0, .int .i64 0, .slice none 0 0, .slice none 0 0] := Blk.at_ rfl
  go_enter Try.func93, Try.ntmps93
  go_wp2_with fail
  refine (pick_any 4 g n _ (h.next U1) (by omega) (by decide) (by decide)).mono ?_
  rintro e w1 ⟨p, rfl, hp, k1, o1⟩
  have hp3 : p ≤ 3 := hp
  have O1 : Only (fun b => b = g) w w1 := (Only.of_below U1).trans o1
  have R1 := R0.only o1 (fun (e : _ = _) => by omega)
  clear hp U1 R0 o1
  go_wp2_with fail
  refine (pick_any 4 g (n + 2) w1 k1 (by omega) (by decide) (by decide)).mono ?_
  rintro e w2 ⟨q, rfl, hq, k2, o2⟩
  have hq3 : q ≤ 3 := hq
  have O2 := O1.trans o2
  have R2 := R1.only o2 (fun (e : _ = _) => by omega)
  have hz2 := R2.lt
  clear hq k1 O1 R1 o2
  have M : MapSt w (((w2.alloc (.cells #[] 3)).alloc (.cells #[] 3)).alloc (.cells #[.int .i64 (2 + (p : Int)), .int .i64 (1 + (q : Int)), .slice (some ⟨w2.heap.size, 0, none⟩) 0 0, .slice (some ⟨w2.heap.size + 1, 0, none⟩) 0 0] 29)) g (n + 2 + 2 + 6 * 0) (w2.heap.size + 1 + 1) (2 + (p : Int)) (1 + (q : Int)) (some ⟨w2.heap.size, 0, none⟩) 0 0 [] (some ⟨w2.heap.size + 1, 0, none⟩) 0 0 [] := by
    have V : Below w2.heap.size w2 (((w2.alloc (.cells #[] 3)).alloc (.cells #[] 3)).alloc (.cells #[.int .i64 (2 + (p : Int)), .int .i64 (1 + (q : Int)), .slice (some ⟨w2.heap.size, 0, none⟩) 0 0, .slice (some ⟨w2.heap.size + 1, 0, none⟩) 0 0] 29)) := (((Below.refl _ _).alloc (Nat.le_refl _) _).alloc (by simp) _).alloc (by simp; omega) _
    refine ⟨k2.next V, R2.next V, Blk.at_ (by simp), own_base (own_alloc (own_alloc (own_empty_at 3 1 rfl) _) _) (by omega), own_base (own_alloc (own_empty_at 3 1 (by simp)) _) (by omega), fun b hb => ?_, fun b hb => ?_, by omega, O2.then_ V⟩
    · have h4 : w2.heap.size = b := by simpa [OwnB, Value.ownBlock] using hb
      refine ⟨by omega, fun h5 => ?_⟩
      have h6 : w2.heap.size + 1 = b := by simpa [OwnB, Value.ownBlock] using h5
      omega
    · have h6 : w2.heap.size + 1 = b := by simpa [OwnB, Value.ownBlock] using hb
      omega
  obtain ⟨P, hP⟩ : ∃ P : Nat, (2 + p) * (1 + q) = P := ⟨_, rfl⟩
  have hP20 : P ≤ 20 := by rw [← hP]; exact Nat.mul_le_mul (show 2 + p ≤ 5 by omega) (show 1 + q ≤ 4 by omega)
  have hP2 : 2 ≤ P := by rw [← hP]; exact Nat.mul_le_mul (show 2 ≤ 2 + p by omega) (show 1 ≤ 1 + q by omega)
  have hPI : (2 + (p : Int)) * (1 + (q : Int)) = (P : Int) := by rw [← hP]; push_cast; rfl
  have hp4 : (p : Int) ≤ 3 := by omega
  have hq4 : (q : Int) ≤ 3 := by omega
  clear hP k2 O2 R2 hz2
  go_wp2_with fail
  generalize w2.heap.size + 1 + 1 = gm at *
  go_loopw [4] (fun iv wr => ∃ (i : Nat) (A1 A2 : Option Addr) (c1 c2 : Nat) (r c : List Int), i ≤ P ∧ iv = .int .i64 (i : Int) ∧ MapSt w wr g (n + 2 + 2 + 6 * i) gm (2 + (p : Int)) (1 + (q : Int)) A1 i c1 r A2 i c2 c) (fun iv _ => P - (intOf iv).toNat)
  case atStart => exact ⟨0, _, _, _, _, _, _, Nat.zero_le _, rfl, M⟩
  case round =>
    clear M
    obtain ⟨i, A1, A2, c1, c2, r, c, hi, rfl, M⟩ := hrel
    have cm := M.blk.cell
    by_cases hlt : i < P
    · have HLT := Lib.hid hlt
      go_wp2_with fail
      refine (among_any g _ wr.heap.size 8 _ [1, 1, 1, 2, 3, 0, 1, 2] _ (Blk.at_ rfl : Blk (wr.alloc (.cells #[.int .i64 1, .int .i64 1, .int .i64 1, .int .i64 2, .int .i64 3, .int .i64 0, .int .i64 1, .int .i64 2] 3)) wr.heap.size 3 (ints [1, 1, 1, 2, 3, 0, 1, 2])) (by have := hg; have := M.only.size; omega) (M.cur.next ((Below.refl _ _).alloc (Nat.le_refl _) _)) (by omega) rfl (by decide) (by decide)).mono ?_
      rintro e wa ⟨wav, rfl, wam, wac, wao⟩
      replace M := M.step hg ((Below.refl _ _).alloc (Nat.le_refl _) _) wac wao
      clear wac wao
      go_wp2_with fail
      refine (among_any g _ wa.heap.size 6 _ [0, 0, 1, 2, 2, 5] _ (Blk.at_ rfl : Blk (wa.alloc (.cells #[.int .i64 0, .int .i64 0, .int .i64 1, .int .i64 2, .int .i64 2, .int .i64 5] 3)) wa.heap.size 3 (ints [0, 0, 1, 2, 2, 5])) (by have := hg; have := M.only.size; omega) (M.cur.next ((Below.refl _ _).alloc (Nat.le_refl _) _)) (by omega) rfl (by decide) (by decide)).mono ?_
      rintro e wb ⟨wbv, rfl, wbm, wbc, wbo⟩
      replace M := M.step hg ((Below.refl _ _).alloc (Nat.le_refl _) _) wbc wbo
      clear wbc wbo
      clear cm
      have cm := M.blk.cell
      have wam8 : -1 ≤ wav ∧ wav ≤ 10 := by simp at wam; omega
      by_cases hc0 : wav = 0
      · have hcb : (wav == 0) = true := by rw [hc0]; rfl
        clear hc0
        go_wp2_with fail
        refine (one_any 6 g _ wb M.cur (by omega) (by decide) (by decide)).mono ?_
        rintro e wc ⟨bb, rfl, kc, oc⟩
        replace M := M.drawn hg kc oc
        clear kc oc
        cases bb
        all_goals
          have hz := M.blk.lt
          have hlo := M.lo
          have hn1 : i + 1 ≤ 20 := by omega
          clear cm
          have cm := M.blk.cell
          go_wp2_with (first | (at_builtin; (refine wpList_pushNew rfl _ _ _ rfl Try.underlying22 info_int rfl (by decide) rfl M.o2 rfl (by simp) (by rfl) (by rfl) (by omega) (by decide) (by have := hz; have := hlo; omega) ?_); intro A6 c6 w6 o6 h6 b6 q6; have M3 := M.push2 hg o6 h6 b6.size q6; have Bw6 := M.blk.only h6 (fun hb => M.far2 _ hb rfl); have cw6 := Bw6.cell; have fw6 := Bw6.frozen; have dw6 := M3.blk.cell; have gw6 := M3.blk.frozen) | (at_builtin; (refine wpList_pushNew rfl _ _ _ rfl Try.underlying22 info_int rfl (by decide) rfl M3.o1 rfl (by simp) (by rfl) (by rfl) (by omega) (by decide) (by have := hz; have := hlo; have := b6.size; simp [World.setCell]; omega) ?_); intro A8 c8 w8 o8 h8 b8 q8; have M4 := M3.push1 hg o8 h8 b8.size q8; have Bw8 := M3.blk.only h8 (fun hb => (M3.far1 _ hb).1 rfl); have cw8 := Bw8.cell; have fw8 := Bw8.frozen; have dw8 := M4.blk.cell; have gw8 := M4.blk.frozen))
          go_roundw
          case rel => exact ⟨i + 1, _, _, _, _, _, _, by have := HLT.out; omega, by go_num, M4.more (by omega)⟩
          case measure => have := HLT.out; simp [intOf]; omega
      · have hcb : (wav == 0) = false := beq_eq_false_iff_ne.2 hc0
        clear hc0
        have hz := M.blk.lt
        have hlo := M.lo
        have hn1 : i + 1 ≤ 20 := by omega
        clear cm
        have cm := M.blk.cell
        go_wp2_with (first | (at_builtin; (refine wpList_pushNew rfl _ _ _ rfl Try.underlying22 info_int rfl (by decide) rfl M.o2 rfl (by simp) (by rfl) (by rfl) (by omega) (by decide) (by have := hz; have := hlo; omega) ?_); intro A6 c6 w6 o6 h6 b6 q6; have M3 := M.push2 hg o6 h6 b6.size q6; have Bw6 := M.blk.only h6 (fun hb => M.far2 _ hb rfl); have cw6 := Bw6.cell; have fw6 := Bw6.frozen; have dw6 := M3.blk.cell; have gw6 := M3.blk.frozen) | (at_builtin; (refine wpList_pushNew rfl _ _ _ rfl Try.underlying22 info_int rfl (by decide) rfl M3.o1 rfl (by simp) (by rfl) (by rfl) (by omega) (by decide) (by have := hz; have := hlo; have := b6.size; simp [World.setCell]; omega) ?_); intro A8 c8 w8 o8 h8 b8 q8; have M4 := M3.push1 hg o8 h8 b8.size q8; have Bw8 := M3.blk.only h8 (fun hb => (M3.far1 _ hb).1 rfl); have cw8 := Bw8.cell; have fw8 := Bw8.frozen; have dw8 := M4.blk.cell; have gw8 := M4.blk.frozen))
        go_roundw
        case rel => exact ⟨i + 1, _, _, _, _, _, _, by have := HLT.out; omega, by go_num, M4.more (by omega)⟩
        case measure => have := HLT.out; simp [intOf]; omega
    · obtain rfl : P = i := by omega
      go_wp2_with fail
      refine (pick_any 48 g _ wr M.cur (by omega) (by decide) (by decide)).mono ?_
      rintro e w3 ⟨z, rfl, hz48, kz, oz⟩
      replace M := M.drawn hg kz oz
      clear kz oz cm hz48
      have cm := M.blk.cell
      have fm := M.blk.frozen
      have hzz := M.blk.lt
      have hlo := M.lo
      by_cases h0 : z = 0
      · have zb0 : ((z : Int) == 0) = true := by rw [h0]; rfl
        clear h0
        go_wp2_with fail
        refine (among_any g _ w3.heap.size 3 _ [0, 7, 2 + (p : Int) + 1] _ (Blk.at_ rfl : Blk (w3.alloc (.cells #[.int .i64 0, .int .i64 7, .int .i64 (2 + (p : Int) + 1)] 3)) w3.heap.size 3 (ints [0, 7, 2 + (p : Int) + 1])) (by have := hg; have := M.only.size; omega) (M.cur.next ((Below.refl _ _).alloc (Nat.le_refl _) _)) (by omega) rfl (by decide) (by decide)).mono ?_
        rintro e wa ⟨wav, rfl, wam, wac, wao⟩
        replace M := M.step hg ((Below.refl _ _).alloc (Nat.le_refl _) _) wac wao
        clear wac wao
        clear cm fm
        have cm := M.blk.cell
        have fm := M.blk.frozen
        have hv : 0 ≤ wav ∧ wav ≤ 7 := by simp at wam; omega
        have M2 := M.setWide hg wav
        have cm2 := M2.blk.cell
        have cr := M2.res.cell
        have fr := M2.res.frozen
        have hne : gm ≠ w.heap.size := by omega
        have hne' : w.heap.size ≠ gm := by omega
        clear wam
        go_wp2_with fail
        refine bodyPost_ret (v := .agg #[.int .i64 wav, .int .i64 (1 + (q : Int)), .slice A1 P c1, .slice A2 P c2]) (by simp [results, Try.results93, go_sem, cr]) rfl ?_
        exact (M2.more (by omega)).done hg ⟨by omega, by omega⟩ ⟨⟨by omega, by omega⟩, ⟨by omega, by omega⟩⟩
      have zb0 : ((z : Int) == 0) = false := beq_eq_false_iff_ne.2 (by omega)
      obtain ⟨b1, hb1⟩ : ∃ b1, A1 = some ⟨b1, 0, none⟩ := by
        rcases own_row M.o1 with ⟨_, e, _⟩ | ⟨b, _, e, _⟩
        · omega
        · exact ⟨b, e⟩
      obtain ⟨b2, hb2⟩ : ∃ b2, A2 = some ⟨b2, 0, none⟩ := by
        rcases own_row M.o2 with ⟨_, e, _⟩ | ⟨b, _, e, _⟩
        · omega
        · exact ⟨b, e⟩
      subst hb1 hb2
      by_cases h1 : z = 1
      · have zb1 : ((z : Int) == 1) = true := by rw [h1]; rfl
        clear h0 h1
        have WB : Below w3.heap.size w3 (w3.alloc (.cells #[.int .i64 (-1), .int .i64 10, .int .i64 9] 3)).drew := bel_quiet ((Below.refl _ _).alloc (Nat.le_refl _) _) (Quiet.one _)
        have ML := M.below WB
        have BL : Blk (w3.alloc (.cells #[.int .i64 (-1), .int .i64 10, .int .i64 9] 3)).drew w3.heap.size 3 (ints [-1, 10, 9]) := (Blk.at_ rfl).quiet (Quiet.one _)
        have cl := ML.blk.cell
        have hsz := M.only.size
        have hPi : (0 : Int) < (P : Int) := by omega
        have hPn : 0 < P := by omega
        clear cm fm
        have cm := (M.below ((Quiet.one w3).below _)).blk.cell
        go_wp2_with fail
        refine wp_region_held_drew (S := fun w' => w'.cell? ⟨gm, 3, none⟩ = some (.slice (some ⟨b2, 0, none⟩) P c2)) (by kernel_rfl) (by (try dsimp only); first | go_keep | exact (M5.blk.far (p := ⟨b2, 0, none⟩) hgne _).cell 3) (fun hHeld => ?_)
        refine wpAnyH_take (i := 0) (v := ?_) rfl (by kernel_rfl) (by kernel_rfl) (by kernel_rfl) (fun _ _ _ h => h) (Or.inl ⟨by rfl, ?_⟩) (by assumption) ?_
        rotate_left 1
        · (intro w hSw; (try dsimp only at hSw); go_simp; try with_reducible rfl)
        simp only [Act.put, List.setIfInBounds_toArray, List.set_cons_zero, List.set_cons_succ, List.getElem_toArray, List.getElem_cons_zero]
        refine wpAnyH_take (i := 1) (v := ?_) rfl (by kernel_rfl) (by kernel_rfl) (by kernel_rfl) (fun _ _ _ h => h) (Or.inl ⟨by rfl, ?_⟩) (by assumption) ?_
        rotate_left 1
        · (intro w hSw; (try dsimp only at hSw); go_simp; try with_reducible rfl)
        simp only [Act.put, List.setIfInBounds_toArray, List.set_cons_zero, List.set_cons_succ, List.getElem_toArray, List.getElem_cons_zero, List.getElem_cons_succ]
        refine wpAnyH_take (i := 2) (v := ?_) rfl (by kernel_rfl) (by kernel_rfl) (by kernel_rfl) (fun _ _ _ h => h) (Or.inl ⟨by rfl, ?_⟩) (by assumption) ?_
        rotate_left 1
        · (intro w hSw; (try dsimp only at hSw); go_simp; try with_reducible rfl)
        simp only [Act.put, List.setIfInBounds_toArray, List.set_cons_zero, List.set_cons_succ, List.getElem_toArray, List.getElem_cons_zero, List.getElem_cons_succ]
        refine wpAnyH_ready (rs := [3]) (by kernel_rfl) (by simp) ?_
        refine AllReadyH.cons rfl (fun K hK => ?_) AllReadyH.nil
        go_simp
        refine hK.out _ _ (by (try dsimp only); first | go_keep | exact (M5.blk.far (p := ⟨b2, 0, none⟩) hgne _).cell 3) (fun hHeld => ?_)
        clear hK K
        try simp only [Act.put, List.setIfInBounds_toArray, List.set_cons_zero, List.set_cons_succ, List.getElem_toArray, List.getElem_cons_zero, List.getElem_cons_succ]
        refine wpAnyH_ready (rs := [4]) (by kernel_rfl) (by simp) ?_
        refine AllReadyH.cons rfl (fun K hK => ?_) AllReadyH.nil
        go_simp
        refine (among_any g _ w3.heap.size 3 _ [-1, 10, 9] _ BL (by omega) ML.cur (by omega) rfl (by decide) (by decide)).mono ?_
        rintro e wa ⟨wav, rfl, wam, kc, oc⟩
        have M5 := ML.drawn hg kc oc
        clear kc oc wam cm cl
        have cm := M5.blk.cell
        obtain ⟨b', off', e', hx0, hcell⟩ := (Sees.of_own M5.o2).int (show 0 < P by omega)
        injection e' with e'
        injection e' with e1 e2
        subst e1 e2
        have hfz : wa.frozen? ⟨b2, 0, none⟩ = false := by
          rcases own_row M5.o2 with ⟨e, _⟩ | ⟨b, rest, e, _, hB, _⟩
          · cases e
          · obtain rfl : b2 = b := by simpa using e
            exact hB.frozen 0
        have hgne : gm ≠ b2 := fun e => by subst e; exact absurd rfl (M5.far2 _ rfl)
        have hgne' : b2 ≠ gm := Ne.symm hgne
        go_wp2_with fail
        refine hK.out _ _ (by (try dsimp only); first | go_keep | exact (M5.blk.far (p := ⟨b2, 0, none⟩) hgne _).cell 3) (fun hHeld => ?_)
        clear hK K
        refine wpAnyH_take (i := 5) (v := ?_) rfl (by kernel_rfl) (by kernel_rfl) (by kernel_rfl) (fun _ _ _ h => h) (Or.inl ⟨by rfl, ?_⟩) (by assumption) ?_
        rotate_left 1
        · (intro w hSw; (try dsimp only at hSw); go_simp; try with_reducible rfl)
        simp only [Act.put, List.setIfInBounds_toArray, List.set_cons_zero, List.set_cons_succ, List.getElem_toArray, List.getElem_cons_zero, List.getElem_cons_succ]
        refine wpAnyH_ready (rs := [6]) (by kernel_rfl) (by simp) ?_
        refine AllReadyH.cons rfl (fun K hK => ?_) AllReadyH.nil
        go_simp
        refine hK.out _ _ (by (try dsimp only); first | go_keep | exact (M5.blk.far (p := ⟨b2, 0, none⟩) hgne _).cell 3) (fun hHeld => ?_)
        clear hK K
        try simp only [Act.put, List.setIfInBounds_toArray, List.set_cons_zero, List.set_cons_succ, List.getElem_toArray, List.getElem_cons_zero, List.getElem_cons_succ]
        refine wpAnyH_done (by kernel_rfl) ?_ _
        have M6 := M5.set2 hg wav (show 0 < P by omega)
        have cm2 := M6.blk.cell
        have cr := M6.res.cell
        have fr := M6.res.frozen
        have hne : gm ≠ w.heap.size := by omega
        have hne' : w.heap.size ≠ gm := by omega
        go_wp2_with fail
        refine bodyPost_ret (v := .agg #[.int .i64 (2 + (p : Int)), .int .i64 (1 + (q : Int)), .slice (some ⟨b1, 0, none⟩) P c1, .slice (some ⟨b2, 0, none⟩) P c2]) (by simp [results, Try.results93, go_sem, cr]) rfl ?_
        exact (M6.more (by omega)).done hg ⟨by omega, by omega⟩ ⟨⟨by omega, by omega⟩, ⟨by omega, by omega⟩⟩
      have zb1 : ((z : Int) == 1) = false := beq_eq_false_iff_ne.2 (by omega)
      by_cases h2 : z = 2
      · have zb2 : ((z : Int) == 2) = true := by rw [h2]; rfl
        clear h0 h1 h2
        have WB : Below w3.heap.size w3 (w3.alloc (.cells #[.int .i64 (-1), .int .i64 10, .int .i64 9] 3)).drew := bel_quiet ((Below.refl _ _).alloc (Nat.le_refl _) _) (Quiet.one _)
        have ML := M.below WB
        have BL : Blk (w3.alloc (.cells #[.int .i64 (-1), .int .i64 10, .int .i64 9] 3)).drew w3.heap.size 3 (ints [-1, 10, 9]) := (Blk.at_ rfl).quiet (Quiet.one _)
        have cl := ML.blk.cell
        have hsz := M.only.size
        have hPi : (0 : Int) < (P : Int) := by omega
        have hPn : 0 < P := by omega
        clear cm fm
        have cm := (M.below ((Quiet.one w3).below _)).blk.cell
        go_wp2_with fail
        refine wp_region_held_drew (S := fun w' => w'.cell? ⟨gm, 2, none⟩ = some (.slice (some ⟨b1, 0, none⟩) P c1)) (by kernel_rfl) (by (try dsimp only); first | go_keep | exact (M5.blk.far (p := ⟨b1, 0, none⟩) hgne _).cell 2) (fun hHeld => ?_)
        refine wpAnyH_take (i := 0) (v := ?_) rfl (by kernel_rfl) (by kernel_rfl) (by kernel_rfl) (fun _ _ _ h => h) (Or.inl ⟨by rfl, ?_⟩) (by assumption) ?_
        rotate_left 1
        · (intro w hSw; (try dsimp only at hSw); go_simp; try with_reducible rfl)
        simp only [Act.put, List.setIfInBounds_toArray, List.set_cons_zero, List.set_cons_succ, List.getElem_toArray, List.getElem_cons_zero]
        refine wpAnyH_take (i := 1) (v := ?_) rfl (by kernel_rfl) (by kernel_rfl) (by kernel_rfl) (fun _ _ _ h => h) (Or.inl ⟨by rfl, ?_⟩) (by assumption) ?_
        rotate_left 1
        · (intro w hSw; (try dsimp only at hSw); go_simp; try with_reducible rfl)
        simp only [Act.put, List.setIfInBounds_toArray, List.set_cons_zero, List.set_cons_succ, List.getElem_toArray, List.getElem_cons_zero, List.getElem_cons_succ]
        refine wpAnyH_take (i := 2) (v := ?_) rfl (by kernel_rfl) (by kernel_rfl) (by kernel_rfl) (fun _ _ _ h => h) (Or.inl ⟨by rfl, ?_⟩) (by assumption) ?_
        rotate_left 1
        · (intro w hSw; (try dsimp only at hSw); go_simp; try with_reducible rfl)
        simp only [Act.put, List.setIfInBounds_toArray, List.set_cons_zero, List.set_cons_succ, List.getElem_toArray, List.getElem_cons_zero, List.getElem_cons_succ]
        refine wpAnyH_ready (rs := [3]) (by kernel_rfl) (by simp) ?_
        refine AllReadyH.cons rfl (fun K hK => ?_) AllReadyH.nil
        go_simp
        refine hK.out _ _ (by (try dsimp only); first | go_keep | exact (M5.blk.far (p := ⟨b1, 0, none⟩) hgne _).cell 2) (fun hHeld => ?_)
        clear hK K
        try simp only [Act.put, List.setIfInBounds_toArray, List.set_cons_zero, List.set_cons_succ, List.getElem_toArray, List.getElem_cons_zero, List.getElem_cons_succ]
        refine wpAnyH_ready (rs := [4]) (by kernel_rfl) (by simp) ?_
        refine AllReadyH.cons rfl (fun K hK => ?_) AllReadyH.nil
        go_simp
        refine (among_any g _ w3.heap.size 3 _ [-1, 10, 9] _ BL (by omega) ML.cur (by omega) rfl (by decide) (by decide)).mono ?_
        rintro e wa ⟨wav, rfl, wam, kc, oc⟩
        have M5 := ML.drawn hg kc oc
        clear kc oc wam cm cl
        have cm := M5.blk.cell
        obtain ⟨b', off', e', hx0, hcell⟩ := (Sees.of_own M5.o1).int (show 0 < P by omega)
        injection e' with e'
        injection e' with e1 e2
        subst e1 e2
        have hfz : wa.frozen? ⟨b1, 0, none⟩ = false := by
          rcases own_row M5.o1 with ⟨e, _⟩ | ⟨b, rest, e, _, hB, _⟩
          · cases e
          · obtain rfl : b1 = b := by simpa using e
            exact hB.frozen 0
        have hgne : gm ≠ b1 := fun e => by subst e; exact absurd rfl (M5.far1 _ rfl).1
        have hgne' : b1 ≠ gm := Ne.symm hgne
        go_wp2_with fail
        refine hK.out _ _ (by (try dsimp only); first | go_keep | exact (M5.blk.far (p := ⟨b1, 0, none⟩) hgne _).cell 2) (fun hHeld => ?_)
        clear hK K
        refine wpAnyH_take (i := 5) (v := ?_) rfl (by kernel_rfl) (by kernel_rfl) (by kernel_rfl) (fun _ _ _ h => h) (Or.inl ⟨by rfl, ?_⟩) (by assumption) ?_
        rotate_left 1
        · (intro w hSw; (try dsimp only at hSw); go_simp; try with_reducible rfl)
        simp only [Act.put, List.setIfInBounds_toArray, List.set_cons_zero, List.set_cons_succ, List.getElem_toArray, List.getElem_cons_zero, List.getElem_cons_succ]
        refine wpAnyH_ready (rs := [6]) (by kernel_rfl) (by simp) ?_
        refine AllReadyH.cons rfl (fun K hK => ?_) AllReadyH.nil
        go_simp
        refine hK.out _ _ (by (try dsimp only); first | go_keep | exact (M5.blk.far (p := ⟨b1, 0, none⟩) hgne _).cell 2) (fun hHeld => ?_)
        clear hK K
        try simp only [Act.put, List.setIfInBounds_toArray, List.set_cons_zero, List.set_cons_succ, List.getElem_toArray, List.getElem_cons_zero, List.getElem_cons_succ]
        refine wpAnyH_done (by kernel_rfl) ?_ _
        have M6 := M5.set1 hg wav (show 0 < P by omega)
        have cm2 := M6.blk.cell
        have cr := M6.res.cell
        have fr := M6.res.frozen
        have hne : gm ≠ w.heap.size := by omega
        have hne' : w.heap.size ≠ gm := by omega
        go_wp2_with fail
        refine bodyPost_ret (v := .agg #[.int .i64 (2 + (p : Int)), .int .i64 (1 + (q : Int)), .slice (some ⟨b1, 0, none⟩) P c1, .slice (some ⟨b2, 0, none⟩) P c2]) (by simp [results, Try.results93, go_sem, cr]) rfl ?_
        exact (M6.more (by omega)).done hg ⟨by omega, by omega⟩ ⟨⟨by omega, by omega⟩, ⟨by omega, by omega⟩⟩
      have zb2 : ((z : Int) == 2) = false := beq_eq_false_iff_ne.2 (by omega)
      by_cases h3 : z = 3
      · have zb3 : ((z : Int) == 3) = true := by rw [h3]; rfl
        have hz := hzz
        clear h0 h1 h2 h3
        have hne : gm ≠ w.heap.size := by omega
        have hne' : w.heap.size ≠ gm := by omega
        go_wp2_with (at_builtin; (refine wpList_pushNew rfl _ _ _ rfl Try.underlying22 info_int rfl (by decide) rfl M.o1 rfl (by simp) (by rfl) (by rfl) (by omega) (by decide) (by have := hz; have := hlo; omega) ?_); intro A8 c8 w8 o8 h8 b8 q8; have M4 := M.push1 hg o8 h8 b8.size q8; have Bw8 := M.blk.only h8 (fun hb => (M.far1 _ hb).1 rfl); have cw8 := Bw8.cell; have fw8 := Bw8.frozen; have dw8 := M4.blk.cell; have gw8 := M4.blk.frozen; have cr := M4.res.cell; have fr := M4.res.frozen)
        refine bodyPost_ret (v := .agg #[.int .i64 (2 + (p : Int)), .int .i64 (1 + (q : Int)), .slice A8 (P + 1) c8, .slice (some ⟨b2, 0, none⟩) P c2]) (by simp [results, Try.results93, go_sem, cr]) rfl ?_
        exact (M4.more (by omega)).done hg ⟨by omega, by omega⟩ ⟨⟨by omega, by omega⟩, ⟨by omega, by omega⟩⟩
      have zb3 : ((z : Int) == 3) = false := beq_eq_false_iff_ne.2 (by omega)
      clear h0 h1 h2 h3
      have cr := M.res.cell
      have fr := M.res.frozen
      have hne : gm ≠ w.heap.size := by omega
      have hne' : w.heap.size ≠ gm := by omega
      have RS := Blk.many [.int .i64 (2 + (p : Int)), .int .i64 (1 + (q : Int)), .slice (some ⟨b1, 0, none⟩) P c1, .slice (some ⟨b2, 0, none⟩) P c2] M.res 0
      have cR := RS.cell
      go_wp2_with fail
      refine bodyPost_ret (v := .agg #[.int .i64 (2 + (p : Int)), .int .i64 (1 + (q : Int)), .slice (some ⟨b1, 0, none⟩) P c1, .slice (some ⟨b2, 0, none⟩) P c2]) (by simp [results, Try.results93, go_sem, cr]) rfl ?_
      exact (M.more (by omega)).done hg ⟨by omega, by omega⟩ ⟨⟨by omega, by omega⟩, ⟨by omega, by omega⟩⟩

end Go.Proofs.Ytljiflbaknakaaa
