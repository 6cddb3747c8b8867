/- A desk that is worked on: its queue may begin behind a block's head, cards are put to its trouble; copies of desks, so. -/
import Derived.Test.YtkchdhmnomelkaaGreatNewD
namespace Go.Proofs.YtkchdhmnomelkaaGreat
open Go.RowKit

structure MineCW (w : World) (S : Nat → Prop) (col : Nat → Nat) (h : DeskH) (d : DeskV) : Prop where
  f0 : Mine w (Hue S col 0) 3 1 h.A0 h.n0 h.c0 (ints d.codes)
  f1 : Mine w (Hue S col 1) 3 1 h.A1 h.n1 h.c1 (ints d.known)
  f2 : MineO cardSh w (Hue S col 2) 43 106 h.A2 h.n2 d.queue
  f3 : Mine w (Hue S col 3) 84 3 h.A3 h.n3 h.c3 (d.done.flatMap DeskRow.enc)
  f4 : MineN cardSh w (Hue S col 4) 43 106 h.A4 h.n4 h.c4 d.trouble
/-- A desk of the call's own that is worked on. -/
def MineW (w : World) (S : Nat → Prop) (h : DeskH) (d : DeskV) : Prop := ∃ col, MineCW w S col h d
theorem MineW.desk {w : World} {S : Nat → Prop} {h : DeskH} {d : DeskV} (m : MineW w S h d) : MineDesk w S h d := by
  obtain ⟨col, m⟩ := m
  exact ⟨col, ⟨m.f0, m.f1, m.f2, m.f3, .of m.f4⟩⟩
theorem MineW.next {w w' : World} {S : Nat → Prop} {h : DeskH} {d : DeskV} (m : MineW w S h d) (hb : Below w.heap.size w w') : MineW w' S h d := by
  obtain ⟨col, m⟩ := m
  exact ⟨col, ⟨m.f0.next hb, m.f1.next hb, m.f2.next hb, m.f3.next hb, m.f4.next hb⟩⟩
theorem MineW.only {w w' : World} {S U : Nat → Prop} {h : DeskH} {d : DeskV} (m : MineW w S h d) (ho : Only U w w') (hS : ∀ b, S b → U b → False) : MineW w' S h d := by
  obtain ⟨col, m⟩ := m
  exact ⟨col, ⟨m.f0.only ho fun b h1 => hS b h1.1, m.f1.only ho fun b h1 => hS b h1.1, m.f2.only ho fun b h1 => hS b h1.1, m.f3.only ho fun b h1 => hS b h1.1, m.f4.only ho fun b h1 => hS b h1.1⟩⟩
theorem MineW.wide {w : World} {S T : Nat → Prop} {h : DeskH} {d : DeskV} (m : MineW w S h d) (hS : ∀ b, S b → T b) : MineW w T h d := by
  obtain ⟨col, m⟩ := m
  exact ⟨col, ⟨m.f0.wide (Hue.wide hS), m.f1.wide (Hue.wide hS), m.f2.wide (Hue.wide hS), m.f3.wide (Hue.wide hS), m.f4.wide (Hue.wide hS)⟩⟩
theorem MineW.of5 {w : World} {S T0 T1 T2 T3 T4 : Nat → Prop} {h : DeskH} {d : DeskV} (m0 : Mine w T0 3 1 h.A0 h.n0 h.c0 (ints d.codes)) (m1 : Mine w T1 3 1 h.A1 h.n1 h.c1 (ints d.known))
    (m2 : MineO cardSh w T2 43 106 h.A2 h.n2 d.queue) (m3 : Mine w T3 84 3 h.A3 h.n3 h.c3 (d.done.flatMap DeskRow.enc)) (m4 : MineN cardSh w T4 43 106 h.A4 h.n4 h.c4 d.trouble)
    (s0 : ∀ b, T0 b → S b) (s1 : ∀ b, T1 b → S b) (s2 : ∀ b, T2 b → S b) (s3 : ∀ b, T3 b → S b) (s4 : ∀ b, T4 b → S b)
    (d01 : ∀ b, T0 b → T1 b → False) (d02 : ∀ b, T0 b → T2 b → False) (d03 : ∀ b, T0 b → T3 b → False) (d04 : ∀ b, T0 b → T4 b → False) (d12 : ∀ b, T1 b → T2 b → False) (d13 : ∀ b, T1 b → T3 b → False) (d14 : ∀ b, T1 b → T4 b → False) (d23 : ∀ b, T2 b → T3 b → False) (d24 : ∀ b, T2 b → T4 b → False) (d34 : ∀ b, T3 b → T4 b → False) : MineW w S h d := by
  classical
  refine ⟨fun b => if T0 b then 0 else if T1 b then 1 else if T2 b then 2 else if T3 b then 3 else 4, ⟨m0.wide fun b hb => ⟨s0 b hb, ?_⟩, m1.wide fun b hb => ⟨s1 b hb, ?_⟩, m2.wide fun b hb => ⟨s2 b hb, ?_⟩, m3.wide fun b hb => ⟨s3 b hb, ?_⟩, m4.wide fun b hb => ⟨s4 b hb, ?_⟩⟩⟩
  · simp only [if_pos hb]
  · simp only [if_neg (fun h => d01 b h hb), if_pos hb]
  · simp only [if_neg (fun h => d02 b h hb), if_neg (fun h => d12 b h hb), if_pos hb]
  · simp only [if_neg (fun h => d03 b h hb), if_neg (fun h => d13 b h hb), if_neg (fun h => d23 b h hb), if_pos hb]
  · simp only [if_neg (fun h => d04 b h hb), if_neg (fun h => d14 b h hb), if_neg (fun h => d24 b h hb), if_neg (fun h => d34 b h hb)]
theorem mineN_cap {α : Type} {sh : Sh α} {w : World} {S : Nat → Prop} {t ti n c : Nat} {A : Option Addr} {xs : List α} (h : MineN sh w S t ti A n c xs) : n ≤ c := by
  obtain ⟨rs, _, h⟩ := h
  exact own_cap h.outer.own
def GivesDeskW (w : World) (d : DeskV) (e : Ending) (w' : World) : Prop :=
  ∃ H : DeskH, e = .returned (.agg #[.slice H.A0 H.n0 H.c0, .slice H.A1 H.n1 H.c1, .slice H.A2 H.n2 H.c2, .slice H.A3 H.n3 H.c3, .slice H.A4 H.n4 H.c4]) ∧ MineW w' (In w.heap.size w'.heap.size) H d ∧ DeskFit 1048576 H d ∧ H.n3 ≤ H.c3 ∧ H.n2 ≤ H.c2 ∧ Below w.heap.size w w'
/-- A desk of the call's own, its queue from the head of its block. -/
def MineD (w : World) (S : Nat → Prop) (h : DeskH) (d : DeskV) : Prop := ∃ col, MineCW w S col h d ∧ MineN cardSh w (Hue S col 2) 43 106 h.A2 h.n2 h.c2 d.queue
theorem MineD.toW {w : World} {S : Nat → Prop} {h : DeskH} {d : DeskV} (m : MineD w S h d) : MineW w S h d := by
  obtain ⟨col, m, -⟩ := m
  exact ⟨col, m⟩
theorem MineD.of5 {w : World} {S T0 T1 T2 T3 T4 : Nat → Prop} {h : DeskH} {d : DeskV} (m0 : Mine w T0 3 1 h.A0 h.n0 h.c0 (ints d.codes)) (m1 : Mine w T1 3 1 h.A1 h.n1 h.c1 (ints d.known))
    (m2 : MineN cardSh w T2 43 106 h.A2 h.n2 h.c2 d.queue) (m3 : Mine w T3 84 3 h.A3 h.n3 h.c3 (d.done.flatMap DeskRow.enc)) (m4 : MineN cardSh w T4 43 106 h.A4 h.n4 h.c4 d.trouble)
    (s0 : ∀ b, T0 b → S b) (s1 : ∀ b, T1 b → S b) (s2 : ∀ b, T2 b → S b) (s3 : ∀ b, T3 b → S b) (s4 : ∀ b, T4 b → S b)
    (d01 : ∀ b, T0 b → T1 b → False) (d02 : ∀ b, T0 b → T2 b → False) (d03 : ∀ b, T0 b → T3 b → False) (d04 : ∀ b, T0 b → T4 b → False) (d12 : ∀ b, T1 b → T2 b → False) (d13 : ∀ b, T1 b → T3 b → False) (d14 : ∀ b, T1 b → T4 b → False) (d23 : ∀ b, T2 b → T3 b → False) (d24 : ∀ b, T2 b → T4 b → False) (d34 : ∀ b, T3 b → T4 b → False) : MineD w S h d := by
  classical
  refine ⟨fun b => if T0 b then 0 else if T1 b then 1 else if T2 b then 2 else if T3 b then 3 else 4, ⟨m0.wide fun b hb => ⟨s0 b hb, ?_⟩, m1.wide fun b hb => ⟨s1 b hb, ?_⟩, (MineO.of m2).wide fun b hb => ⟨s2 b hb, ?_⟩, m3.wide fun b hb => ⟨s3 b hb, ?_⟩, m4.wide fun b hb => ⟨s4 b hb, ?_⟩⟩, m2.wide fun b hb => ⟨s2 b hb, ?_⟩⟩
  · simp only [if_pos hb]
  · simp only [if_neg (fun h => d01 b h hb), if_pos hb]
  · simp only [if_neg (fun h => d02 b h hb), if_neg (fun h => d12 b h hb), if_pos hb]
  · simp only [if_neg (fun h => d03 b h hb), if_neg (fun h => d13 b h hb), if_neg (fun h => d23 b h hb), if_pos hb]
  · simp only [if_neg (fun h => d04 b h hb), if_neg (fun h => d14 b h hb), if_neg (fun h => d24 b h hb), if_neg (fun h => d34 b h hb)]
  · simp only [if_neg (fun h => d02 b h hb), if_neg (fun h => d12 b h hb), if_pos hb]
def GivesDeskN (w : World) (d : DeskV) (e : Ending) (w' : World) : Prop :=
  ∃ H : DeskH, e = .returned (.agg #[.slice H.A0 H.n0 H.c0, .slice H.A1 H.n1 H.c1, .slice H.A2 H.n2 H.c2, .slice H.A3 H.n3 H.c3, .slice H.A4 H.n4 H.c4]) ∧ MineD w' (In w.heap.size w'.heap.size) H d ∧ DeskFit 1048576 H d ∧ H.n3 ≤ H.c3 ∧ H.n2 ≤ H.c2 ∧ Below w.heap.size w w'
theorem GivesDeskN.toW {w : World} {d : DeskV} {e : Ending} {w' : World} (h : GivesDeskN w d e w') : GivesDeskW w d e w' := by
  obtain ⟨H, h1, m, h2, h3, h4, h5⟩ := h
  exact ⟨H, h1, m.toW, h2, h3, h4, h5⟩

end Go.Proofs.YtkchdhmnomelkaaGreat
