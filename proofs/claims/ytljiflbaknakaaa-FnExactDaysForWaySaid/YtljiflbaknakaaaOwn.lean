/- Words on slices of a call's own, beside Base. -/
import Derived.Test.YtljiflbaknakaaaS0
namespace Go.Proofs.Ytljiflbaknakaaa
open Go.RowKit

theorem quiet_rightG {P : Program} {f : FuncId} {args : Array Value} {w : World} {n : Nat} {v : Value} (h : Calls P f args (w.drewN n) fun e w' => e = .returned v ∧ Quiet (w.drewN n) w') : Calls P f args (w.drewN n) fun e w'' => e = .returned v ∧ ∃ m, w'' = w.drewN m :=
  h.mono fun _ _ ⟨he, q, hq⟩ => ⟨he, n + q, by rw [hq, World.drewN_drewN]⟩
theorem own_empty_at {w : World} {g : Nat} (t s : Nat) (h : w.heap.size = g) : (w.alloc (.cells #[] t)).ownsRow g t s (.slice (some ⟨g, 0, none⟩) 0 0) 0 [] := h ▸ own_empty w t s
theorem own_not {w : World} {base e s n c g : Nat} {A : Option Addr} {cs : List Value} (h : w.ownsRow base e s (.slice A n c) n cs) (hg : g < base) : ¬ OwnB A g := fun hb => by
  have := (h.lt g (ownB_iff.2 hb)).1
  omega
/-- A list of integers in memory of the call's own. -/
def GivesL (w : World) (R : List Int) (e : Ending) (w' : World) : Prop :=
  ∃ A c, e = .returned (.slice A R.length c) ∧ w'.ownsRow w.heap.size 3 1 (.slice A R.length c) R.length (ints R) ∧ Below w.heap.size w w'

end Go.Proofs.Ytljiflbaknakaaa
