/- RecoverLog, as the program and as the reference have it. -/
import Derived.Test.YtlhebjlibhpanaaDoorLogO
import Derived.Test.YtlhebjlibhpanaaDoorLogL
namespace Go.Proofs.YtlhebjlibhpanaaDoor
open Go.RowKit

structure RecsOk (s : ByteArray) (x : Recs) : Prop where
  at_ : x.at_ ≤ s.size
  len : x.l.length ≤ 60
  ends : x.ends.length = x.l.length + 1
  last : x.ends[x.l.length]? = some x.at_
theorem runR_ok {s : ByteArray} : ∀ (f : Nat) {x : Recs}, RecsOk s x → RecsOk s (runR s f x)
  | 0, x, h => h
  | f + 1, x, h => by
    cases g : nextR x.l.length (s.extract x.at_ s.size) with
    | none => rw [runR_none g]; exact h
    | some r =>
      obtain ⟨e, n⟩ := r
      rw [runR_some g]
      obtain ⟨_, h1, _, _, h2⟩ := nextR_some g
      have h3 := h.at_
      have h4 := h.ends
      have h5 : (s.extract x.at_ s.size).size = s.size - x.at_ := by simp
      refine runR_ok f ⟨by show x.at_ + n ≤ _; omega, by show (x.l ++ [e]).length ≤ 60; simp; omega, by show (x.ends ++ [x.at_ + n]).length = (x.l ++ [e]).length + 1; simp; omega, ?_⟩
      show (x.ends ++ [x.at_ + n])[(x.l ++ [e]).length]? = some (x.at_ + n)
      rw [List.getElem?_append_right (by simp; omega)]
      simp [h4]
theorem allR_ok (s : ByteArray) : RecsOk s (allR s) := by
  rw [← allR_start]
  exact runR_ok 61 ⟨Nat.zero_le _, by decide, rfl, rfl⟩
theorem natV_at {l : List Nat} {i n : Nat} (h : l[i]? = some n) : (natV l)[i]? = some (.int .i64 (n : Int)) := by
  unfold natV
  rw [List.getElem?_map, h]; rfl
def recovL (s : ByteArray) : Log × Int × Bool :=
  if s.size ≤ 30000 then (⟨s.extract 0 (allR s).at_, ⟨#[]⟩, ((allR s).l.length : Int)⟩, ((allR s).at_ : Int), true) else (⟨⟨#[]⟩, ⟨#[]⟩, 0⟩, 0, false)
def GivesRecov (w : World) (R : Log × Int × Bool) (e : Ending) (w' : World) : Prop := e = .returned (.tuple #[.agg #[.string R.1.durable, .string R.1.pending, .int .i64 R.1.count], .int .i64 R.2.1, .bool R.2.2]) ∧ Below w.heap.size w w'

end Go.Proofs.YtlhebjlibhpanaaDoor
