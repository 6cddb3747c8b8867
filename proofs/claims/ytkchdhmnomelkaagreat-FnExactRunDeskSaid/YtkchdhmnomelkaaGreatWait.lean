/- WaitingFor, as the program and as the reference have it. -/
import Derived.Test.YtkchdhmnomelkaaGreatDeskI
import Derived.Test.YtkchdhmnomelkaaGreatDeskG
import Derived.Test.YtkchdhmnomelkaaGreatDelF
import Derived.Test.YtkchdhmnomelkaaGreatCopy
namespace Go.Proofs.YtkchdhmnomelkaaGreat
open Go.RowKit

def waitTo (d : DeskV) (k : Nat) : List Int := (d.known.take k).filter fun v => !doneB d.done v
def waitM (d : DeskV) : Option (List Int) := if deskB d then some (d.known.filter fun v => !doneB d.done v) else none
theorem waitM_len (d : DeskV) : ((waitM d).getD []).length ≤ d.known.length := by
  unfold waitM
  split
  · exact List.length_filter_le _ _
  · simp
theorem deskB_top {d : DeskV} (h : deskB d = true) : d.known.length ≤ 8 ∧ d.queue.length + d.done.length + d.trouble.length ≤ 10 := by
  unfold deskB topB at h
  simp only [Bool.and_eq_true, decide_eq_true_eq] at h
  exact ⟨h.1.1.1.1.1.2, h.1.2⟩
theorem waitTo_next (d : DeskV) {k : Nat} (hk : k < d.known.length) : waitTo d (k + 1) = if doneB d.done d.known[k] then waitTo d k else waitTo d k ++ [d.known[k]] := by
  unfold waitTo
  rw [filter_next hk]
  cases doneB d.done d.known[k] <;> simp
theorem own_low {w : World} {base base' t s n c : Nat} {A : Option Addr} {cs : List Value} (h : w.ownsRow base t s (.slice A n c) n cs) (hb : base' ≤ base) : w.ownsRow base' t s (.slice A n c) n cs :=
  ⟨h.1, h.2.imp id fun ⟨g, cap, cur, h1, h2, h3⟩ => ⟨g, cap, cur, h1, Nat.le_trans hb h2, h3⟩⟩

end Go.Proofs.YtkchdhmnomelkaaGreat
