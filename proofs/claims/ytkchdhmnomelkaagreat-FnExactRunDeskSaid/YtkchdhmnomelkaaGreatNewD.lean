/- Copies of desks, as the program and as the reference make them. -/
import Derived.Test.YtkchdhmnomelkaaGreatNewC
import Derived.Test.YtkchdhmnomelkaaGreatDeskT
import Derived.Test.YtkchdhmnomelkaaGreatRank
namespace Go.Proofs.YtkchdhmnomelkaaGreat
open Go.RowKit

/-- A desk in memory of the call's own. -/
def GivesDesk (w : World) (d : DeskV) (e : Ending) (w' : World) : Prop :=
  ∃ H : DeskH, e = .returned (.agg #[.slice H.A0 H.n0 H.c0, .slice H.A1 H.n1 H.c1, .slice H.A2 H.n2 H.c2, .slice H.A3 H.n3 H.c3, .slice H.A4 H.n4 H.c4]) ∧ MineDesk w' (In w.heap.size w'.heap.size) H d ∧ DeskFit 1048576 H d ∧ H.n3 ≤ H.c3 ∧ Below w.heap.size w w'
theorem own_cap {w : World} {base t s n c : Nat} {A : Option Addr} {cs : List Value} (h : w.ownsRow base t s (.slice A n c) n cs) : n ≤ c := by
  rcases own_open h with ⟨_, rfl, rfl, _⟩ | ⟨_, _, _, _, _, _, h1, _, _⟩
  · exact Nat.le_refl _
  · exact h1
theorem MineDesk.of5 {w : World} {S T0 T1 T2 T3 T4 : Nat → Prop} {h : DeskH} {d : DeskV} (m0 : Mine w T0 3 1 h.A0 h.n0 h.c0 (ints d.codes)) (m1 : Mine w T1 3 1 h.A1 h.n1 h.c1 (ints d.known))
    (m2 : MineO cardSh w T2 43 106 h.A2 h.n2 d.queue) (m3 : Mine w T3 84 3 h.A3 h.n3 h.c3 (d.done.flatMap DeskRow.enc)) (m4 : MineO cardSh w T4 43 106 h.A4 h.n4 d.trouble)
    (s0 : ∀ b, T0 b → S b) (s1 : ∀ b, T1 b → S b) (s2 : ∀ b, T2 b → S b) (s3 : ∀ b, T3 b → S b) (s4 : ∀ b, T4 b → S b)
    (d01 : ∀ b, T0 b → T1 b → False) (d02 : ∀ b, T0 b → T2 b → False) (d03 : ∀ b, T0 b → T3 b → False) (d04 : ∀ b, T0 b → T4 b → False) (d12 : ∀ b, T1 b → T2 b → False) (d13 : ∀ b, T1 b → T3 b → False) (d14 : ∀ b, T1 b → T4 b → False) (d23 : ∀ b, T2 b → T3 b → False) (d24 : ∀ b, T2 b → T4 b → False) (d34 : ∀ b, T3 b → T4 b → False) : MineDesk w S h d := by
  classical
  refine ⟨fun b => if T0 b then 0 else if T1 b then 1 else if T2 b then 2 else if T3 b then 3 else 4, ⟨m0.wide fun b hb => ⟨s0 b hb, ?_⟩, m1.wide fun b hb => ⟨s1 b hb, ?_⟩, m2.wide fun b hb => ⟨s2 b hb, ?_⟩, m3.wide fun b hb => ⟨s3 b hb, ?_⟩, m4.wide fun b hb => ⟨s4 b hb, ?_⟩⟩⟩
  · simp only [if_pos hb]
  · simp only [if_neg (fun h => d01 b h hb), if_pos hb]
  · simp only [if_neg (fun h => d02 b h hb), if_neg (fun h => d12 b h hb), if_pos hb]
  · simp only [if_neg (fun h => d03 b h hb), if_neg (fun h => d13 b h hb), if_neg (fun h => d23 b h hb), if_pos hb]
  · simp only [if_neg (fun h => d04 b h hb), if_neg (fun h => d14 b h hb), if_neg (fun h => d24 b h hb), if_neg (fun h => d34 b h hb)]

end Go.Proofs.YtkchdhmnomelkaaGreat
