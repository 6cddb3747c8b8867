/- Searches: LongMissing, as the program and as the reference have it. -/
import Derived.Test.YtkchdhmnomelkaaGreatS0
import Derived.Test.YtkchdhmnomelkaaGreatHelp2
namespace Go.Proofs.YtkchdhmnomelkaaGreat
open Go.RowKit

def isMissingB (r s n p : Int) : Bool := inB r 1 999 && inB s 0 36000 && inB n s 36000 && decide (0 ≤ p)

/-- Both LongMissings, from what is left of the list on. -/
def longGo (time limit : Int) : List Missing → List Int → Option (List Int)
  | [], out => some out
  | x :: l, out => if isMissingB x.runner x.start x.seen x.place && decide (x.seen ≤ time) then longGo time limit l (if limit < time - x.start then out ++ [x.runner] else out) else none
def longMissing (time limit : Int) (l : List Missing) : Option (List Int) :=
  if decide (l.length ≤ 20) && inB time 0 36000 && inB limit 600 36000 then longGo time limit l [] else none
theorem longGo_len (time limit : Int) : ∀ (l : List Missing) (out r : List Int), longGo time limit l out = some r → r.length ≤ out.length + l.length
  | [], out, r, h => by injection h with h; subst h; simp
  | x :: l, out, r, h => by
    rw [longGo] at h
    split at h
    · have := longGo_len time limit l _ _ h
      split at this <;> simp at this ⊢ <;> omega
    · cases h

end Go.Proofs.YtkchdhmnomelkaaGreat
