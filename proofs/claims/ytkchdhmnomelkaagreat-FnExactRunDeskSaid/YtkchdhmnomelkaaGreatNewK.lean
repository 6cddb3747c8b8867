/- NewDesk, as the program and as the reference have it. -/
import Derived.Test.YtkchdhmnomelkaaGreatNewDI
import Derived.Test.YtkchdhmnomelkaaGreatNewDS
import Derived.Test.YtkchdhmnomelkaaGreatDeskG
import Derived.Test.YtkchdhmnomelkaaGreatDeskI
namespace Go.Proofs.YtkchdhmnomelkaaGreat
open Go.RowKit

def deskZ : DeskV := ⟨[], [], [], [], []⟩
/-- A desk in memory of the call's own, or none. -/
def GivesDeskO (w : World) (R : Option DeskV) (e : Ending) (w' : World) : Prop :=
  ∃ H : DeskH, e = .returned (.tuple #[.agg #[.slice H.A0 H.n0 H.c0, .slice H.A1 H.n1 H.c1, .slice H.A2 H.n2 H.c2, .slice H.A3 H.n3 H.c3, .slice H.A4 H.n4 H.c4], .bool R.isSome]) ∧ MineDesk w' (In w.heap.size w'.heap.size) H (R.getD deskZ) ∧ DeskFit 1048576 H (R.getD deskZ) ∧ H.n3 ≤ H.c3 ∧ Below w.heap.size w w'
theorem mine_nil (w : World) (S : Nat → Prop) (t s : Nat) : Mine w S t s none 0 0 [] := ⟨World.ownsRow_nil _ _ _ _, fun b hb => by simp [OwnB, Value.ownBlock] at hb⟩
theorem deskZ_mine (w : World) (S : Nat → Prop) : MineDesk w S ⟨none, 0, 0, none, 0, 0, none, 0, 0, none, 0, 0, none, 0, 0⟩ deskZ :=
  ⟨fun _ => 0, ⟨mine_nil _ _ _ _, mine_nil _ _ _ _, MineO.empty _ _ _ _ _, mine_nil _ _ _ _, MineO.empty _ _ _ _ _⟩⟩
theorem deskZ_fit : DeskFit 1048576 ⟨none, 0, 0, none, 0, 0, none, 0, 0, none, 0, 0, none, 0, 0⟩ deskZ :=
  ⟨by decide, by decide, by decide, by simp [deskZ], by decide, by decide, by simp [deskZ]⟩
theorem givesDO_none {w w' : World} (h : Below w.heap.size w w') : GivesDeskO w none (.returned (.tuple #[.agg #[.slice none 0 0, .slice none 0 0, .slice none 0 0, .slice none 0 0, .slice none 0 0], .bool false])) w' :=
  ⟨⟨none, 0, 0, none, 0, 0, none, 0, 0, none, 0, 0, none, 0, 0⟩, rfl, deskZ_mine _ _, deskZ_fit, Nat.le_refl _, h⟩
def freshD (xs ys : List Int) : DeskV := ⟨xs, ys, [], [], []⟩
def newM (xs ys : List Int) : Option DeskV := if deskB (freshD xs ys) then some (freshD xs ys) else none
theorem finB_cnt {x : Card} (h : finB x = true) : x.punches.length ≤ 12 := by
  unfold finB cardB at h
  simp only [Bool.and_eq_true] at h
  exact (headB_true h.1.1).2.2.2
theorem wt_cards {l : List Card} (h : l.all finB = true) : wtN Card.wt l ≤ l.length * 27 := by
  induction l with
  | nil => simp [wtN]
  | cons x l ih =>
    simp only [List.all_cons, Bool.and_eq_true] at h
    have h1 := ih h.2
    have h2 := finB_cnt h.1
    simp only [wtN, List.length_cons, Card.wt]
    omega
theorem deskB_wt {d : DeskV} (h : deskB d = true) : wtN Card.wt d.queue ≤ 1000 ∧ wtN Card.wt d.trouble ≤ 1000 := by
  have h10 := (deskB_top h).2
  unfold deskB topB at h
  simp only [Bool.and_eq_true] at h
  have h1 := wt_cards h.1.1.1.2
  have h2 := wt_cards h.1.1.2
  omega
theorem newM_wt (xs ys : List Int) : wtN Card.wt ((newM xs ys).getD deskZ).queue ≤ 1000 ∧ wtN Card.wt ((newM xs ys).getD deskZ).trouble ≤ 1000 := by
  unfold newM
  split
  · rename_i h
    exact deskB_wt h
  · simp [deskZ, wtN]
theorem seesN_nil (sh : Sh Card) (w : World) (lo : Nat) (A : Option Addr) : SeesN sh w lo A 0 [] := ⟨[], rfl, Sees.nil _ _ _ _, by simp⟩
theorem mineN_empty {α : Type} {sh : Sh α} {w : World} {g t : Nat} (ti : TypeId) (hB : Blk w g t []) : MineN sh w (fun b => b = g) t ti (some ⟨g, 0, none⟩) 0 0 [] :=
  ⟨[], rfl, ⟨⟨hB.own (Nat.zero_le _) (by simp) (by simp [maxLen]), fun b hb => by simpa [OwnB, Value.ownBlock, eq_comm] using hb⟩, Inners.nil _, by simp⟩⟩
theorem mine_empty {w : World} {g t s : Nat} (hB : Blk w g t []) : Mine w (fun b => b = g) t s (some ⟨g, 0, none⟩) 0 0 [] :=
  ⟨hB.own (Nat.zero_le _) (by simp) (by simp [maxLen]), fun b hb => by simpa [OwnB, Value.ownBlock, eq_comm] using hb⟩

end Go.Proofs.YtkchdhmnomelkaaGreat
