/- RecoverLog, as the program and as the reference have it. -/
import Derived.Test.YtjangfhelagjnaaDoorLogO
import Derived.Test.YtjangfhelagjnaaDoorLogL
namespace Go.Proofs.YtjangfhelagjnaaDoor
open Go.RowKit

structure RecsOk (s : ByteArray) (x : Recs) : Prop where
  at_ : x.at_ ≤ s.size
  len : x.l.length ≤ 60
  ends : x.ends.length = x.l.length + 1
  last : x.ends[x.l.length]? = some x.at_
theorem runR_ok {s : ByteArray} : ∀ (f : Nat) {x : Recs}, RecsOk s x → RecsOk s (runR s f x)
  | 0, x, h => h
  | f + 1, x, h => by
    cases g : nextR x.l.length (s.extract x.at_ s.size) with
    | none => rw [runR_none g]; exact h
    | some r =>
      obtain ⟨e, n⟩ := r
      rw [runR_some g]
      obtain ⟨_, h1, _, _, h2⟩ := nextR_some g
      have h3 := h.at_
      have h4 := h.ends
      have h5 : (s.extract x.at_ s.size).size = s.size - x.at_ := by simp
      refine runR_ok f ⟨by show x.at_ + n ≤ _; omega, by show (x.l ++ [e]).length ≤ 60; simp; omega, by show (x.ends ++ [x.at_ + n]).length = (x.l ++ [e]).length + 1; simp; omega, ?_⟩
      show (x.ends ++ [x.at_ + n])[(x.l ++ [e]).length]? = some (x.at_ + n)
      rw [List.getElem?_append_right (by simp; omega)]
      simp [h4]
theorem allR_ok (s : ByteArray) : RecsOk s (allR s) := by
  rw [← allR_start]
  exact runR_ok 61 ⟨Nat.zero_le _, by decide, rfl, rfl⟩
theorem natV_at {l : List Nat} {i n : Nat} (h : l[i]? = some n) : (natV l)[i]? = some (.int .i64 (n : Int)) := by
  unfold natV
  rw [List.getElem?_map, h]; rfl
def recovL (s : ByteArray) : Log × Int × Bool :=
  if s.size ≤ 30000 then (⟨s.extract 0 (allR s).at_, ⟨#[]⟩, ((allR s).l.length : Int)⟩, ((allR s).at_ : Int), true) else (⟨⟨#[]⟩, ⟨#[]⟩, 0⟩, 0, false)
def GivesRecov (w : World) (R : Log × Int × Bool) (e : Ending) (w' : World) : Prop := e = .returned (.tuple #[.agg #[.string R.1.durable, .string R.1.pending, .int .i64 R.1.count], .int .i64 R.2.1, .bool R.2.2]) ∧ Below w.heap.size w w'

set_option maxRecDepth 100000 in
set_option maxHeartbeats 1000000 in
theorem RecoverLog_any (s : ByteArray) (w : World) (hs : s.size ≤ 9223372036854775807) (hg : Gl w) :
    Calls Tryd.prog 18 #[.string s] w (GivesRecov w (recovL s)) := by
  have K0 : Below w.heap.size w (w.alloc (.cells #[.string ⟨#[]⟩, .string ⟨#[]⟩, .int .i64 0] 31)) := (Below.refl _ _).alloc (Nat.le_refl _) _
  have B0 : Blk (w.alloc (.cells #[.string ⟨#[]⟩, .string ⟨#[]⟩, .int .i64 0] 31)) w.heap.size 31 [.string ⟨#[]⟩, .string ⟨#[]⟩, .int .i64 0] := Blk.at_ rfl
  by_cases h3 : s.size ≤ 30000
  · have HR := Lib.hid (show recovL s = (⟨s.extract 0 (allR s).at_, ⟨#[]⟩, ((allR s).l.length : Int)⟩, ((allR s).at_ : Int), true) from if_pos h3)
    have hat := (allR_ok s).at_
    have hln := (allR_ok s).len
    go_enter Tryd.func18, Tryd.ntmps18
    go_wp2_with fail
    refine (readRecords_any s _ (by omega) (hg.next K0)).mono ?_
    rintro e w1 ⟨A, B, c, d, rfl, hA, hB, b1⟩
    have K1 := bel_then K0 b1
    have B1 := B0.next b1
    have b1c := B1.cell
    have b1f := B1.frozen
    have hs2 : Sees w1 0 1 B ((allR s).l.length + 1) (natV (allR s).ends) := .of_own (own_base hB (Nat.zero_le _))
    obtain ⟨gb, off, rfl, h1, _, h2⟩ := hs2.at' (by omega)
    have x1 := h2 (allR s).l.length _ (natV_at (allR_ok s).last)
    generalize allR s = x at *
    go_wp2_with fail
    refine bodyPost_ret (v := .tuple #[.agg #[.string (s.extract 0 x.at_), .string ⟨#[]⟩, .int .i64 (x.l.length : Int)], .int .i64 (x.at_ : Int), .bool true]) (by simp [results, Tryd.results18, go_sem, b1c]) rfl ?_
    rw [HR.out]
    exact ⟨rfl, ((K1.setCell (p := ⟨w.heap.size, 0, none⟩) (Nat.le_refl _) _).setCell (p := ⟨w.heap.size, 1, none⟩) (Nat.le_refl _) _).setCell (p := ⟨w.heap.size, 2, none⟩) (Nat.le_refl _) _⟩
  · have HR := Lib.hid (show recovL s = (⟨⟨#[]⟩, ⟨#[]⟩, 0⟩, 0, false) from if_neg h3)
    go_enter Tryd.func18, Tryd.ntmps18
    go_wp2_with fail
    refine bodyPost_ret (v := .tuple #[.agg #[.string ⟨#[]⟩, .string ⟨#[]⟩, .int .i64 0], .int .i64 0, .bool false]) (by simp [results, Tryd.results18, go_sem, B0.cell]) rfl ?_
    rw [HR.out]
    exact ⟨rfl, K0⟩

set_option maxRecDepth 100000 in
set_option maxHeartbeats 1000000 in
theorem specRecoverLog_any (s : ByteArray) (w : World) (hs : s.size ≤ 9223372036854775807) :
    Calls Tryd.prog 17 #[.string s] w (GivesRecov w (recovL s)) := by
  have K0 : Below w.heap.size w (w.alloc (.cells #[.string ⟨#[]⟩, .string ⟨#[]⟩, .int .i64 0] 31)) := (Below.refl _ _).alloc (Nat.le_refl _) _
  have B0 : Blk (w.alloc (.cells #[.string ⟨#[]⟩, .string ⟨#[]⟩, .int .i64 0] 31)) w.heap.size 31 [.string ⟨#[]⟩, .string ⟨#[]⟩, .int .i64 0] := Blk.at_ rfl
  by_cases h3 : s.size ≤ 30000
  · have HR := Lib.hid (show recovL s = (⟨s.extract 0 (allR s).at_, ⟨#[]⟩, ((allR s).l.length : Int)⟩, ((allR s).at_ : Int), true) from if_pos h3)
    have hat := (allR_ok s).at_
    have hln := (allR_ok s).len
    go_enter Tryd.func17, Tryd.ntmps17
    go_wp2_with fail
    refine (l27Open_any s _ (by omega)).mono ?_
    rintro e w1 ⟨A, c, rfl, hA, b1⟩
    have K1 := bel_then K0 b1
    have B1 := B0.next b1
    have b1c := B1.cell
    have b1f := B1.frozen
    generalize allR s = x at *
    go_wp2_with fail
    refine bodyPost_ret (v := .tuple #[.agg #[.string (s.extract 0 x.at_), .string ⟨#[]⟩, .int .i64 (x.l.length : Int)], .int .i64 (x.at_ : Int), .bool true]) (by simp [results, Tryd.results17, go_sem, b1c]) rfl ?_
    rw [HR.out]
    exact ⟨rfl, ((K1.setCell (p := ⟨w.heap.size, 0, none⟩) (Nat.le_refl _) _).setCell (p := ⟨w.heap.size, 1, none⟩) (Nat.le_refl _) _).setCell (p := ⟨w.heap.size, 2, none⟩) (Nat.le_refl _) _⟩
  · have HR := Lib.hid (show recovL s = (⟨⟨#[]⟩, ⟨#[]⟩, 0⟩, 0, false) from if_neg h3)
    go_enter Tryd.func17, Tryd.ntmps17
    go_wp2_with fail
    refine bodyPost_ret (v := .tuple #[.agg #[.string ⟨#[]⟩, .string ⟨#[]⟩, .int .i64 0], .int .i64 0, .bool false]) (by simp [results, Tryd.results17, go_sem, B0.cell]) rfl ?_
    rw [HR.out]
    exact ⟨rfl, K0⟩

end Go.Proofs.YtjangfhelagjnaaDoor
