/- The law's own helpers over desks: printed by comp.py. -/
import Derived.Test.YtkchdhmnomelkaaGreatCardO
namespace Go.Proofs.YtkchdhmnomelkaaGreat
open Go.RowKit

structure DeskV where
  codes : List Int
  known : List Int
  queue : List Card
  done : List DeskRow
  trouble : List Card
deriving DecidableEq
/-- Where a Desk's slices lie. -/
structure DeskH where
  A0 : Option Addr
  n0 : Nat
  c0 : Nat
  A1 : Option Addr
  n1 : Nat
  c1 : Nat
  A2 : Option Addr
  n2 : Nat
  c2 : Nat
  A3 : Option Addr
  n3 : Nat
  c3 : Nat
  A4 : Option Addr
  n4 : Nat
  c4 : Nat
structure SeesDesk (w : World) (lo : Nat) (h : DeskH) (d : DeskV) : Prop where
  f0 : Sees w lo 1 h.A0 h.n0 (ints d.codes)
  f1 : Sees w lo 1 h.A1 h.n1 (ints d.known)
  f2 : SeesN cardSh w lo h.A2 h.n2 d.queue
  f3 : Sees w lo 3 h.A3 h.n3 (d.done.flatMap DeskRow.enc)
  f4 : SeesN cardSh w lo h.A4 h.n4 d.trouble
/-- The blocks of S that a colouring gives to field i. -/
def Hue (S : Nat → Prop) (col : Nat → Nat) (i : Nat) (b : Nat) : Prop := S b ∧ col b = i
structure MineCDesk (w : World) (S : Nat → Prop) (col : Nat → Nat) (h : DeskH) (d : DeskV) : Prop where
  f0 : Mine w (Hue S col 0) 3 1 h.A0 h.n0 h.c0 (ints d.codes)
  f1 : Mine w (Hue S col 1) 3 1 h.A1 h.n1 h.c1 (ints d.known)
  f2 : MineO cardSh w (Hue S col 2) 43 106 h.A2 h.n2 d.queue
  f3 : Mine w (Hue S col 3) 84 3 h.A3 h.n3 h.c3 (d.done.flatMap DeskRow.enc)
  f4 : MineO cardSh w (Hue S col 4) 43 106 h.A4 h.n4 d.trouble
def MineDesk (w : World) (S : Nat → Prop) (h : DeskH) (d : DeskV) : Prop := ∃ col, MineCDesk w S col h d
/-- Of a size that fits. -/
structure DeskFit (t : Nat) (h : DeskH) (d : DeskV) : Prop where
  n0 : h.n0 ≤ t
  n1 : h.n1 ≤ t
  n2 : h.n2 ≤ t
  k2 : ∀ x ∈ d.queue, x.cnt ≤ t
  n3 : h.n3 ≤ t
  n4 : h.n4 ≤ t
  k4 : ∀ x ∈ d.trouble, x.cnt ≤ t
theorem Hue.wide {S T : Nat → Prop} {col : Nat → Nat} {i : Nat} (hS : ∀ b, S b → T b) : ∀ b, Hue S col i b → Hue T col i b := fun b hb => ⟨hS b hb.1, hb.2⟩
theorem Hue.apart {S : Nat → Prop} {col : Nat → Nat} {i j : Nat} (h : i ≠ j) : ∀ b, Hue S col i b → Hue S col j b → False := fun _ h1 h2 => h (h1.2.symm.trans h2.2)
theorem Hue.sub {S : Nat → Prop} {col : Nat → Nat} {i : Nat} : ∀ b, Hue S col i b → S b := fun _ h => h.1
section
variable {w w' : World} {lo : Nat} {S U : Nat → Prop} {col : Nat → Nat} {h : DeskH} {d : DeskV}
theorem SeesDesk.below {C : Nat} (x : SeesDesk w lo h d) (hk : Below C w w') (hC : w.heap.size ≤ C) : SeesDesk w' lo h d := ⟨x.f0.below hk hC, x.f1.below hk hC, x.f2.below hk hC, x.f3.below hk hC, x.f4.below hk hC⟩
theorem SeesDesk.next (x : SeesDesk w lo h d) (hb : Below w.heap.size w w') : SeesDesk w' lo h d := ⟨x.f0.next hb, x.f1.next hb, x.f2.next hb, x.f3.next hb, x.f4.next hb⟩
theorem MineDesk.next (x : MineDesk w S h d) (hb : Below w.heap.size w w') : MineDesk w' S h d := by
  obtain ⟨col, x⟩ := x
  exact ⟨col, ⟨x.f0.next hb, x.f1.next hb, x.f2.next hb, x.f3.next hb, x.f4.next hb⟩⟩
theorem MineDesk.only (x : MineDesk w S h d) (ho : Only U w w') (hS : ∀ b, S b → U b → False) : MineDesk w' S h d := by
  obtain ⟨col, x⟩ := x
  exact ⟨col, ⟨x.f0.only ho (fun b hb hu => hS b hb.1 hu), x.f1.only ho (fun b hb hu => hS b hb.1 hu), x.f2.only ho (fun b hb hu => hS b hb.1 hu), x.f3.only ho (fun b hb hu => hS b hb.1 hu), x.f4.only ho (fun b hb hu => hS b hb.1 hu)⟩⟩
theorem MineDesk.wide (x : MineDesk w S h d) (hS : ∀ b, S b → U b) : MineDesk w U h d := by
  obtain ⟨col, x⟩ := x
  exact ⟨col, ⟨x.f0.wide (Hue.wide hS), x.f1.wide (Hue.wide hS), x.f2.wide (Hue.wide hS), x.f3.wide (Hue.wide hS), x.f4.wide (Hue.wide hS)⟩⟩
theorem MineCDesk.sees (x : MineCDesk w S col h d) : SeesDesk w 0 h d := ⟨x.f0.sees, x.f1.sees, x.f2.sees, x.f3.sees, x.f4.sees⟩
theorem MineDesk.sees (x : MineDesk w S h d) : SeesDesk w 0 h d := by
  obtain ⟨col, x⟩ := x
  exact x.sees
/-- the fit at other headers of the same lengths -/
theorem DeskFit.at_ {t : Nat} {h h' : DeskH} (x : DeskFit t h d) (e : h'.n0 = h.n0 ∧ h'.n1 = h.n1 ∧ h'.n2 = h.n2 ∧ h'.n3 = h.n3 ∧ h'.n4 = h.n4 := by exact ⟨rfl, rfl, rfl, rfl, rfl⟩) : DeskFit t h' d := by
  obtain ⟨e0, e1, e2, e3, e4⟩ := e
  exact ⟨e0 ▸ x.n0, e1 ▸ x.n1, e2 ▸ x.n2, x.k2, e3 ▸ x.n3, e4 ▸ x.n4, x.k4⟩
end

set_option maxRecDepth 100000 in
theorem szDesk_any (h : DeskH) (d : DeskV) (left : Int) (w : World) (hs : SeesDesk w 0 h d) (hn : DeskFit 9223372036854775807 h d) (hl : 0 ≤ left) (hl' : left ≤ 1048576) :
    Calls Tryz.prog 5 #[.agg #[.slice h.A0 h.n0 h.c0, .slice h.A1 h.n1 h.c1, .slice h.A2 h.n2 h.c2, .slice h.A3 h.n3 h.c3, .slice h.A4 h.n4 h.c4], .int .i64 left] w fun e w' => ∃ l : Int, e = .returned (.int .i64 l) ∧ Below w.heap.size w w' ∧ (l = -1 ∨ 0 ≤ l ∧ l ≤ left ∧ DeskFit 1048576 h d ∧ wtN Card.cnt d.queue ≤ 1048576 ∧ wtN Card.cnt d.trouble ≤ 1048576) := by
  go_enter Tryz.func5, Tryz.ntmps5
  go_wp2_with fail
  have K0 : Below w.heap.size w (w.alloc (.cells #[.slice h.A0 h.n0 h.c0, .slice h.A1 h.n1 h.c1, .slice h.A2 h.n2 h.c2, .slice h.A3 h.n3 h.c3, .slice h.A4 h.n4 h.c4] 26)) := (Below.refl _ _).alloc (Nat.le_refl _) _
  have B : Blk (w.alloc (.cells #[.slice h.A0 h.n0 h.c0, .slice h.A1 h.n1 h.c1, .slice h.A2 h.n2 h.c2, .slice h.A3 h.n3 h.c3, .slice h.A4 h.n4 h.c4] 26)) w.heap.size 26 [.slice h.A0 h.n0 h.c0, .slice h.A1 h.n1 h.c1, .slice h.A2 h.n2 h.c2, .slice h.A3 h.n3 h.c3, .slice h.A4 h.n4 h.c4] := Blk.at_ rfl
  generalize (w.alloc (.cells #[.slice h.A0 h.n0 h.c0, .slice h.A1 h.n1 h.c1, .slice h.A2 h.n2 h.c2, .slice h.A3 h.n3 h.c3, .slice h.A4 h.n4 h.c4] 26)) = w0 at *
  have c := B.cell
  refine (szIntS_any _ _ _ _ _ hn.n0 (by omega) (by omega)).mono ?_
  rintro e w' ⟨l0, rfl, rfl, rfl | ⟨p0, q0, r0⟩⟩
  · go_wp2_with fail
    go_ret
    exact ⟨_, rfl, K0, .inl rfl⟩
  have K1 := K0
  have := p0
  go_wp2_with fail
  refine (szIntS_any _ _ _ _ _ hn.n1 (by omega) (by omega)).mono ?_
  rintro e w' ⟨l1, rfl, rfl, rfl | ⟨p1, q1, r1⟩⟩
  · go_wp2_with fail
    go_ret
    exact ⟨_, rfl, K1, .inl rfl⟩
  have K2 := K1
  have := p1
  go_wp2_with fail
  refine (szCardS_any _ _ _ d.queue _ _ (hs.f2.below K2 (Nat.le_refl _)) hn.k2 hn.n2 (by omega) (by omega)).mono ?_
  rintro e w3 ⟨l2, rfl, b2, rfl | ⟨p2, q2⟩⟩
  · go_wp2_with fail
    go_ret
    exact ⟨_, rfl, bel_then K2 b2, .inl rfl⟩
  have K3 := bel_then K2 b2
  replace B := B.next b2
  clear c
  have c := B.cell
  have t2 : wtN Card.cnt d.queue ≤ 1048576 ∧ h.n2 ≤ 1048576 ∧ l2 ≤ 1048576 ∧ l2 ≤ l1 := by omega
  clear q2
  have := p2
  go_wp2_with fail
  refine (szDeskRowS_any _ _ _ _ _ hn.n3 (by omega) (by omega)).mono ?_
  rintro e w' ⟨l3, rfl, rfl, rfl | ⟨p3, q3, r3⟩⟩
  · go_wp2_with fail
    go_ret
    exact ⟨_, rfl, K3, .inl rfl⟩
  have K4 := K3
  have := p3
  go_wp2_with fail
  refine (szCardS_any _ _ _ d.trouble _ _ (hs.f4.below K4 (Nat.le_refl _)) hn.k4 hn.n4 (by omega) (by omega)).mono ?_
  rintro e w5 ⟨l4, rfl, b4, rfl | ⟨p4, q4⟩⟩
  · go_wp2_with fail
    go_ret
    exact ⟨_, rfl, bel_then K4 b4, .inl rfl⟩
  have K5 := bel_then K4 b4
  replace B := B.next b4
  clear c
  have c := B.cell
  have t4 : wtN Card.cnt d.trouble ≤ 1048576 ∧ h.n4 ≤ 1048576 ∧ l4 ≤ 1048576 ∧ l4 ≤ l3 := by omega
  clear q4
  have := p4
  go_wp2_with fail
  go_ret
  exact ⟨_, rfl, K5, .inr ⟨by omega, by omega, ⟨by omega, by omega, by omega, fun x hx => by have := wtN_mem Card.cnt hx; omega, by omega, by omega, fun x hx => by have := wtN_mem Card.cnt hx; omega⟩, by omega, by omega⟩⟩

set_option maxRecDepth 100000 in
theorem eqDesk_any (h h' : DeskH) (lo lo' : Nat) (d d' : DeskV) (w : World) (hx : SeesDesk w lo h d) (hy : SeesDesk w lo' h' d') (he : d = d') (hn : DeskFit 1048576 h d) :
    Calls Tryz.prog 11 #[.agg #[.slice h.A0 h.n0 h.c0, .slice h.A1 h.n1 h.c1, .slice h.A2 h.n2 h.c2, .slice h.A3 h.n3 h.c3, .slice h.A4 h.n4 h.c4], .agg #[.slice h'.A0 h'.n0 h'.c0, .slice h'.A1 h'.n1 h'.c1, .slice h'.A2 h'.n2 h'.c2, .slice h'.A3 h'.n3 h'.c3, .slice h'.A4 h'.n4 h'.c4]] w fun e w' => e = .returned (.bool true) ∧ Below w.heap.size w w' := by
  subst he
  go_enter Tryz.func11, Tryz.ntmps11
  go_wp2_with fail
  have K0 : Below w.heap.size w ((w.alloc (.cells #[.slice h.A0 h.n0 h.c0, .slice h.A1 h.n1 h.c1, .slice h.A2 h.n2 h.c2, .slice h.A3 h.n3 h.c3, .slice h.A4 h.n4 h.c4] 37)).alloc (.cells #[.slice h'.A0 h'.n0 h'.c0, .slice h'.A1 h'.n1 h'.c1, .slice h'.A2 h'.n2 h'.c2, .slice h'.A3 h'.n3 h'.c3, .slice h'.A4 h'.n4 h'.c4] 37)) := ((Below.refl w.heap.size w).alloc (Nat.le_refl _) _).alloc (by simp) _
  have B : Blk ((w.alloc (.cells #[.slice h.A0 h.n0 h.c0, .slice h.A1 h.n1 h.c1, .slice h.A2 h.n2 h.c2, .slice h.A3 h.n3 h.c3, .slice h.A4 h.n4 h.c4] 37)).alloc (.cells #[.slice h'.A0 h'.n0 h'.c0, .slice h'.A1 h'.n1 h'.c1, .slice h'.A2 h'.n2 h'.c2, .slice h'.A3 h'.n3 h'.c3, .slice h'.A4 h'.n4 h'.c4] 37)) w.heap.size 37 [.slice h.A0 h.n0 h.c0, .slice h.A1 h.n1 h.c1, .slice h.A2 h.n2 h.c2, .slice h.A3 h.n3 h.c3, .slice h.A4 h.n4 h.c4] := (Blk.at_ rfl).alloc _
  have C : Blk ((w.alloc (.cells #[.slice h.A0 h.n0 h.c0, .slice h.A1 h.n1 h.c1, .slice h.A2 h.n2 h.c2, .slice h.A3 h.n3 h.c3, .slice h.A4 h.n4 h.c4] 37)).alloc (.cells #[.slice h'.A0 h'.n0 h'.c0, .slice h'.A1 h'.n1 h'.c1, .slice h'.A2 h'.n2 h'.c2, .slice h'.A3 h'.n3 h'.c3, .slice h'.A4 h'.n4 h'.c4] 37)) (w.heap.size + 1) 37 [.slice h'.A0 h'.n0 h'.c0, .slice h'.A1 h'.n1 h'.c1, .slice h'.A2 h'.n2 h'.c2, .slice h'.A3 h'.n3 h'.c3, .slice h'.A4 h'.n4 h'.c4] := Blk.at_ (by simp)
  generalize ((w.alloc (.cells #[.slice h.A0 h.n0 h.c0, .slice h.A1 h.n1 h.c1, .slice h.A2 h.n2 h.c2, .slice h.A3 h.n3 h.c3, .slice h.A4 h.n4 h.c4] 37)).alloc (.cells #[.slice h'.A0 h'.n0 h'.c0, .slice h'.A1 h'.n1 h'.c1, .slice h'.A2 h'.n2 h'.c2, .slice h'.A3 h'.n3 h'.c3, .slice h'.A4 h'.n4 h'.c4] 37)) = w0 at *
  have c := B.cell
  have cc := C.cell
  refine (eqIntS_any _ _ _ _ _ _ _ _ _ _ _ (hx.f0.next K0) (hy.f0.next K0) rfl (by have := hn.n0; omega)).mono ?_
  rintro e w1 ⟨rfl, q0⟩
  have b0 := q0.below w0.heap.size
  have K1 := bel_then K0 b0
  replace B := B.next b0
  replace C := C.next b0
  clear c cc
  have c := B.cell
  have cc := C.cell
  go_wp2_with fail
  refine (eqIntS_any _ _ _ _ _ _ _ _ _ _ _ (hx.f1.next K1) (hy.f1.next K1) rfl (by have := hn.n1; omega)).mono ?_
  rintro e w2 ⟨rfl, q1⟩
  have b1 := q1.below w1.heap.size
  have K2 := bel_then K1 b1
  replace B := B.next b1
  replace C := C.next b1
  clear c cc
  have c := B.cell
  have cc := C.cell
  go_wp2_with fail
  refine (eqCardS_any _ _ _ _ _ _ _ _ _ _ _ (hx.f2.next K2) (hy.f2.next K2) rfl (by have := hn.n2; omega) hn.k2).mono ?_
  rintro e w3 ⟨rfl, b2⟩
  have K3 := bel_then K2 b2
  replace B := B.next b2
  replace C := C.next b2
  clear c cc
  have c := B.cell
  have cc := C.cell
  go_wp2_with fail
  refine (eqDeskRowS_any _ _ _ _ _ _ _ _ _ _ _ (hx.f3.next K3) (hy.f3.next K3) rfl (by have := hn.n3; omega)).mono ?_
  rintro e w4 ⟨rfl, b3⟩
  have K4 := bel_then K3 b3
  replace B := B.next b3
  replace C := C.next b3
  clear c cc
  have c := B.cell
  have cc := C.cell
  go_wp2_with fail
  refine (eqCardS_any _ _ _ _ _ _ _ _ _ _ _ (hx.f4.next K4) (hy.f4.next K4) rfl (by have := hn.n4; omega) hn.k4).mono ?_
  rintro e w5 ⟨rfl, b4⟩
  have K5 := bel_then K4 b4
  replace B := B.next b4
  replace C := C.next b4
  clear c cc
  have c := B.cell
  have cc := C.cell
  go_wp2_with fail
  go_ret
  exact ⟨rfl, K5⟩

set_option maxRecDepth 100000 in
set_option maxHeartbeats 2000000 in
theorem toDesk_any (h : DeskH) (d : DeskV) (w : World) (hs : SeesDesk w 0 h d) (hn : DeskFit 1048576 h d) :
    Calls Tryz.prog 8 #[.agg #[.slice h.A0 h.n0 h.c0, .slice h.A1 h.n1 h.c1, .slice h.A2 h.n2 h.c2, .slice h.A3 h.n3 h.c3, .slice h.A4 h.n4 h.c4]] w fun e w' => ∃ B0 B1 B2 B3 B4, e = .returned (.agg #[(.slice B0 h.n0 h.n0), (.slice B1 h.n1 h.n1), (.slice B2 h.n2 h.n2), (.slice B3 h.n3 h.n3), (.slice B4 h.n4 h.n4)]) ∧ MineDesk w' (In w.heap.size w'.heap.size) ⟨B0, h.n0, h.n0, B1, h.n1, h.n1, B2, h.n2, h.n2, B3, h.n3, h.n3, B4, h.n4, h.n4⟩ d ∧ Below w.heap.size w w' := by
  go_enter Tryz.func8, Tryz.ntmps8
  go_wp2_with fail
  have K0 : Below w.heap.size w (((w.alloc (.cells #[.slice h.A0 h.n0 h.c0, .slice h.A1 h.n1 h.c1, .slice h.A2 h.n2 h.c2, .slice h.A3 h.n3 h.c3, .slice h.A4 h.n4 h.c4] 26)).alloc (.cells #[(.slice none 0 0), (.slice none 0 0), (.slice none 0 0), (.slice none 0 0), (.slice none 0 0)] 37)).alloc (.cells #[(.slice none 0 0), (.slice none 0 0), (.slice none 0 0), (.slice none 0 0), (.slice none 0 0)] 37)) := (((Below.refl w.heap.size w).alloc (Nat.le_refl _) _).alloc (by simp) _).alloc (by simp; omega) _
  have PB : Blk (((w.alloc (.cells #[.slice h.A0 h.n0 h.c0, .slice h.A1 h.n1 h.c1, .slice h.A2 h.n2 h.c2, .slice h.A3 h.n3 h.c3, .slice h.A4 h.n4 h.c4] 26)).alloc (.cells #[(.slice none 0 0), (.slice none 0 0), (.slice none 0 0), (.slice none 0 0), (.slice none 0 0)] 37)).alloc (.cells #[(.slice none 0 0), (.slice none 0 0), (.slice none 0 0), (.slice none 0 0), (.slice none 0 0)] 37)) w.heap.size 26 [.slice h.A0 h.n0 h.c0, .slice h.A1 h.n1 h.c1, .slice h.A2 h.n2 h.c2, .slice h.A3 h.n3 h.c3, .slice h.A4 h.n4 h.c4] := ((Blk.at_ rfl).alloc _).alloc _
  have RB : Blk (((w.alloc (.cells #[.slice h.A0 h.n0 h.c0, .slice h.A1 h.n1 h.c1, .slice h.A2 h.n2 h.c2, .slice h.A3 h.n3 h.c3, .slice h.A4 h.n4 h.c4] 26)).alloc (.cells #[(.slice none 0 0), (.slice none 0 0), (.slice none 0 0), (.slice none 0 0), (.slice none 0 0)] 37)).alloc (.cells #[(.slice none 0 0), (.slice none 0 0), (.slice none 0 0), (.slice none 0 0), (.slice none 0 0)] 37)) (w.heap.size + 1) 37 [(.slice none 0 0), (.slice none 0 0), (.slice none 0 0), (.slice none 0 0), (.slice none 0 0)] := (Blk.at_ (by simp)).alloc _
  have LB : Blk (((w.alloc (.cells #[.slice h.A0 h.n0 h.c0, .slice h.A1 h.n1 h.c1, .slice h.A2 h.n2 h.c2, .slice h.A3 h.n3 h.c3, .slice h.A4 h.n4 h.c4] 26)).alloc (.cells #[(.slice none 0 0), (.slice none 0 0), (.slice none 0 0), (.slice none 0 0), (.slice none 0 0)] 37)).alloc (.cells #[(.slice none 0 0), (.slice none 0 0), (.slice none 0 0), (.slice none 0 0), (.slice none 0 0)] 37)) (w.heap.size + 1 + 1) 37 [(.slice none 0 0), (.slice none 0 0), (.slice none 0 0), (.slice none 0 0), (.slice none 0 0)] := Blk.at_ (by simp)
  have z0 : w.heap.size + 1 + 1 + 1 ≤ (((w.alloc (.cells #[.slice h.A0 h.n0 h.c0, .slice h.A1 h.n1 h.c1, .slice h.A2 h.n2 h.c2, .slice h.A3 h.n3 h.c3, .slice h.A4 h.n4 h.c4] 26)).alloc (.cells #[(.slice none 0 0), (.slice none 0 0), (.slice none 0 0), (.slice none 0 0), (.slice none 0 0)] 37)).alloc (.cells #[(.slice none 0 0), (.slice none 0 0), (.slice none 0 0), (.slice none 0 0), (.slice none 0 0)] 37)).heap.size := by simp
  generalize (((w.alloc (.cells #[.slice h.A0 h.n0 h.c0, .slice h.A1 h.n1 h.c1, .slice h.A2 h.n2 h.c2, .slice h.A3 h.n3 h.c3, .slice h.A4 h.n4 h.c4] 26)).alloc (.cells #[(.slice none 0 0), (.slice none 0 0), (.slice none 0 0), (.slice none 0 0), (.slice none 0 0)] 37)).alloc (.cells #[(.slice none 0 0), (.slice none 0 0), (.slice none 0 0), (.slice none 0 0), (.slice none 0 0)] 37)) = v0 at *
  refine (toIntS_any _ _ _ _ _ (hs.f0.next K0) hn.n0).mono ?_
  rintro e w1 ⟨B0, rfl, o0, b0⟩
  have M0 := Mine.of o0
  clear o0
  have K0' := bel_then K0 b0
  have y0 := b0.size
  replace PB := PB.next b0
  replace RB := RB.next b0
  replace LB := LB.next b0
  have pc := PB.cell
  have lc := LB.cell
  have lf := LB.frozen
  go_wp2_with fail
  clear pc lc lf
  have E : Only (fun b => b = w.heap.size + 1 ∨ b = w.heap.size + 1 + 1) w1 (w1.setCell ⟨w.heap.size + 1 + 1, 0, none⟩ (.slice B0 h.n0 h.n0)) := (Only.refl _ _).setCell (p := ⟨w.heap.size + 1 + 1, 0, none⟩) (.inr rfl) _
  replace M0 := M0.only E (fun b h1 h2 => by have := h1.1; rcases h2 with h2 | h2 <;> omega)
  have K1 : Below w.heap.size w (w1.setCell ⟨w.heap.size + 1 + 1, 0, none⟩ (.slice B0 h.n0 h.n0)) := K0'.trans (E.below (fun k hk => by rcases hk with hk | hk <;> omega) (by omega))
  replace PB := PB.far (p := ⟨w.heap.size + 1 + 1, 0, none⟩) (by show w.heap.size ≠ w.heap.size + 1 + 1; omega) (.slice B0 h.n0 h.n0)
  replace RB := RB.far (p := ⟨w.heap.size + 1 + 1, 0, none⟩) (by simp) (.slice B0 h.n0 h.n0)
  replace LB : Blk (w1.setCell ⟨w.heap.size + 1 + 1, 0, none⟩ (.slice B0 h.n0 h.n0)) (w.heap.size + 1 + 1) 37 [(.slice B0 h.n0 h.n0), (.slice none 0 0), (.slice none 0 0), (.slice none 0 0), (.slice none 0 0)] := LB.set_ 0 (.slice B0 h.n0 h.n0)
  have x0 : (w1.setCell ⟨w.heap.size + 1 + 1, 0, none⟩ (.slice B0 h.n0 h.n0)).heap.size = w1.heap.size := by simp
  generalize (w1.setCell ⟨w.heap.size + 1 + 1, 0, none⟩ (.slice B0 h.n0 h.n0)) = v1 at *
  rw [← x0] at y0
  try rw [← x0] at M0
  clear E K0' x0
  refine (toIntS_any _ _ _ _ _ (hs.f1.next K1) hn.n1).mono ?_
  rintro e w2 ⟨B1, rfl, o1, b1⟩
  have M1 := Mine.of o1
  clear o1
  have K1' := bel_then K1 b1
  have y1 := b1.size
  replace M0 := M0.next b1
  replace PB := PB.next b1
  replace RB := RB.next b1
  replace LB := LB.next b1
  have pc := PB.cell
  have lc := LB.cell
  have lf := LB.frozen
  go_wp2_with fail
  clear pc lc lf
  have E : Only (fun b => b = w.heap.size + 1 ∨ b = w.heap.size + 1 + 1) w2 (w2.setCell ⟨w.heap.size + 1 + 1, 1, none⟩ (.slice B1 h.n1 h.n1)) := (Only.refl _ _).setCell (p := ⟨w.heap.size + 1 + 1, 1, none⟩) (.inr rfl) _
  replace M0 := M0.only E (fun b h1 h2 => by have := h1.1; rcases h2 with h2 | h2 <;> omega)
  replace M1 := M1.only E (fun b h1 h2 => by have := h1.1; rcases h2 with h2 | h2 <;> omega)
  have K2 : Below w.heap.size w (w2.setCell ⟨w.heap.size + 1 + 1, 1, none⟩ (.slice B1 h.n1 h.n1)) := K1'.trans (E.below (fun k hk => by rcases hk with hk | hk <;> omega) (by omega))
  replace PB := PB.far (p := ⟨w.heap.size + 1 + 1, 1, none⟩) (by show w.heap.size ≠ w.heap.size + 1 + 1; omega) (.slice B1 h.n1 h.n1)
  replace RB := RB.far (p := ⟨w.heap.size + 1 + 1, 1, none⟩) (by simp) (.slice B1 h.n1 h.n1)
  replace LB : Blk (w2.setCell ⟨w.heap.size + 1 + 1, 1, none⟩ (.slice B1 h.n1 h.n1)) (w.heap.size + 1 + 1) 37 [(.slice B0 h.n0 h.n0), (.slice B1 h.n1 h.n1), (.slice none 0 0), (.slice none 0 0), (.slice none 0 0)] := LB.set_ 1 (.slice B1 h.n1 h.n1)
  have x1 : (w2.setCell ⟨w.heap.size + 1 + 1, 1, none⟩ (.slice B1 h.n1 h.n1)).heap.size = w2.heap.size := by simp
  generalize (w2.setCell ⟨w.heap.size + 1 + 1, 1, none⟩ (.slice B1 h.n1 h.n1)) = v2 at *
  rw [← x1] at y1
  try rw [← x1] at M1
  clear E K1' x1
  refine (toCardS_any _ _ _ d.queue _ (hs.f2.next K2) hn.n2 hn.k2).mono ?_
  rintro e w3 ⟨B2, rfl, M2, b2⟩
  have K2' := bel_then K2 b2
  have y2 := b2.size
  replace M0 := M0.next b2
  replace M1 := M1.next b2
  replace PB := PB.next b2
  replace RB := RB.next b2
  replace LB := LB.next b2
  have pc := PB.cell
  have lc := LB.cell
  have lf := LB.frozen
  go_wp2_with fail
  clear pc lc lf
  have E : Only (fun b => b = w.heap.size + 1 ∨ b = w.heap.size + 1 + 1) w3 (w3.setCell ⟨w.heap.size + 1 + 1, 2, none⟩ (.slice B2 h.n2 h.n2)) := (Only.refl _ _).setCell (p := ⟨w.heap.size + 1 + 1, 2, none⟩) (.inr rfl) _
  replace M0 := M0.only E (fun b h1 h2 => by have := h1.1; rcases h2 with h2 | h2 <;> omega)
  replace M1 := M1.only E (fun b h1 h2 => by have := h1.1; rcases h2 with h2 | h2 <;> omega)
  replace M2 := M2.only E (fun b h1 h2 => by have := h1.1; rcases h2 with h2 | h2 <;> omega)
  have K3 : Below w.heap.size w (w3.setCell ⟨w.heap.size + 1 + 1, 2, none⟩ (.slice B2 h.n2 h.n2)) := K2'.trans (E.below (fun k hk => by rcases hk with hk | hk <;> omega) (by omega))
  replace PB := PB.far (p := ⟨w.heap.size + 1 + 1, 2, none⟩) (by show w.heap.size ≠ w.heap.size + 1 + 1; omega) (.slice B2 h.n2 h.n2)
  replace RB := RB.far (p := ⟨w.heap.size + 1 + 1, 2, none⟩) (by simp) (.slice B2 h.n2 h.n2)
  replace LB : Blk (w3.setCell ⟨w.heap.size + 1 + 1, 2, none⟩ (.slice B2 h.n2 h.n2)) (w.heap.size + 1 + 1) 37 [(.slice B0 h.n0 h.n0), (.slice B1 h.n1 h.n1), (.slice B2 h.n2 h.n2), (.slice none 0 0), (.slice none 0 0)] := LB.set_ 2 (.slice B2 h.n2 h.n2)
  have x2 : (w3.setCell ⟨w.heap.size + 1 + 1, 2, none⟩ (.slice B2 h.n2 h.n2)).heap.size = w3.heap.size := by simp
  generalize (w3.setCell ⟨w.heap.size + 1 + 1, 2, none⟩ (.slice B2 h.n2 h.n2)) = v3 at *
  rw [← x2] at y2
  try rw [← x2] at M2
  clear E K2' x2
  refine (toDeskRowS_any _ _ _ _ _ (hs.f3.next K3) hn.n3).mono ?_
  rintro e w4 ⟨B3, rfl, o3, b3⟩
  have M3 := Mine.of o3
  clear o3
  have K3' := bel_then K3 b3
  have y3 := b3.size
  replace M0 := M0.next b3
  replace M1 := M1.next b3
  replace M2 := M2.next b3
  replace PB := PB.next b3
  replace RB := RB.next b3
  replace LB := LB.next b3
  have pc := PB.cell
  have lc := LB.cell
  have lf := LB.frozen
  go_wp2_with fail
  clear pc lc lf
  have E : Only (fun b => b = w.heap.size + 1 ∨ b = w.heap.size + 1 + 1) w4 (w4.setCell ⟨w.heap.size + 1 + 1, 3, none⟩ (.slice B3 h.n3 h.n3)) := (Only.refl _ _).setCell (p := ⟨w.heap.size + 1 + 1, 3, none⟩) (.inr rfl) _
  replace M0 := M0.only E (fun b h1 h2 => by have := h1.1; rcases h2 with h2 | h2 <;> omega)
  replace M1 := M1.only E (fun b h1 h2 => by have := h1.1; rcases h2 with h2 | h2 <;> omega)
  replace M2 := M2.only E (fun b h1 h2 => by have := h1.1; rcases h2 with h2 | h2 <;> omega)
  replace M3 := M3.only E (fun b h1 h2 => by have := h1.1; rcases h2 with h2 | h2 <;> omega)
  have K4 : Below w.heap.size w (w4.setCell ⟨w.heap.size + 1 + 1, 3, none⟩ (.slice B3 h.n3 h.n3)) := K3'.trans (E.below (fun k hk => by rcases hk with hk | hk <;> omega) (by omega))
  replace PB := PB.far (p := ⟨w.heap.size + 1 + 1, 3, none⟩) (by show w.heap.size ≠ w.heap.size + 1 + 1; omega) (.slice B3 h.n3 h.n3)
  replace RB := RB.far (p := ⟨w.heap.size + 1 + 1, 3, none⟩) (by simp) (.slice B3 h.n3 h.n3)
  replace LB : Blk (w4.setCell ⟨w.heap.size + 1 + 1, 3, none⟩ (.slice B3 h.n3 h.n3)) (w.heap.size + 1 + 1) 37 [(.slice B0 h.n0 h.n0), (.slice B1 h.n1 h.n1), (.slice B2 h.n2 h.n2), (.slice B3 h.n3 h.n3), (.slice none 0 0)] := LB.set_ 3 (.slice B3 h.n3 h.n3)
  have x3 : (w4.setCell ⟨w.heap.size + 1 + 1, 3, none⟩ (.slice B3 h.n3 h.n3)).heap.size = w4.heap.size := by simp
  generalize (w4.setCell ⟨w.heap.size + 1 + 1, 3, none⟩ (.slice B3 h.n3 h.n3)) = v4 at *
  rw [← x3] at y3
  try rw [← x3] at M3
  clear E K3' x3
  refine (toCardS_any _ _ _ d.trouble _ (hs.f4.next K4) hn.n4 hn.k4).mono ?_
  rintro e w5 ⟨B4, rfl, M4, b4⟩
  have K4' := bel_then K4 b4
  have y4 := b4.size
  replace M0 := M0.next b4
  replace M1 := M1.next b4
  replace M2 := M2.next b4
  replace M3 := M3.next b4
  replace PB := PB.next b4
  replace RB := RB.next b4
  replace LB := LB.next b4
  have pc := PB.cell
  have lc := LB.cell
  have lf := LB.frozen
  have rc := RB.cell
  have rf := RB.frozen
  go_wp2_with fail
  clear pc lc lf rc rf
  have RF := ((((((RB.far (p := ⟨w.heap.size + 1 + 1, 4, none⟩) (by simp) (.slice B4 h.n4 h.n4)).set_ 0 (.slice B0 h.n0 h.n0)).set_ 1 (.slice B1 h.n1 h.n1)).set_ 2 (.slice B2 h.n2 h.n2)).set_ 3 (.slice B3 h.n3 h.n3)).set_ 4 (.slice B4 h.n4 h.n4))
  have E := ((((((Only.refl (fun b => b = w.heap.size + 1 ∨ b = w.heap.size + 1 + 1) w5).setCell (p := ⟨w.heap.size + 1 + 1, 4, none⟩) (.inr rfl) (.slice B4 h.n4 h.n4)).setCell (p := ⟨w.heap.size + 1, 0, none⟩) (.inl rfl) (.slice B0 h.n0 h.n0)).setCell (p := ⟨w.heap.size + 1, 1, none⟩) (.inl rfl) (.slice B1 h.n1 h.n1)).setCell (p := ⟨w.heap.size + 1, 2, none⟩) (.inl rfl) (.slice B2 h.n2 h.n2)).setCell (p := ⟨w.heap.size + 1, 3, none⟩) (.inl rfl) (.slice B3 h.n3 h.n3)).setCell (p := ⟨w.heap.size + 1, 4, none⟩) (.inl rfl) (.slice B4 h.n4 h.n4)
  have zF := E.size
  replace M0 := M0.only E (fun b h1 h2 => by have := h1.1; rcases h2 with h2 | h2 <;> omega)
  replace M1 := M1.only E (fun b h1 h2 => by have := h1.1; rcases h2 with h2 | h2 <;> omega)
  replace M2 := M2.only E (fun b h1 h2 => by have := h1.1; rcases h2 with h2 | h2 <;> omega)
  replace M3 := M3.only E (fun b h1 h2 => by have := h1.1; rcases h2 with h2 | h2 <;> omega)
  replace M4 := M4.only E (fun b h1 h2 => by have := h1.1; rcases h2 with h2 | h2 <;> omega)
  refine bodyPost_ret (results_cell_row rfl _ _ (w.heap.size + 1) _ _ (0, 0) _ rfl RF Tryz.underlying37 rfl (by kernel_rfl)) rfl ⟨B0, B1, B2, B3, B4, rfl, ⟨fun b => if b < v1.heap.size then 0 else if b < v2.heap.size then 1 else if b < v3.heap.size then 2 else if b < v4.heap.size then 3 else 4, ⟨M0.wide ?_, M1.wide ?_, (MineO.of M2).wide ?_, M3.wide ?_, (MineO.of M4).wide ?_⟩⟩, ?_⟩
  · intro b hb
    have h1 := hb.1
    have h2 := hb.2
    refine ⟨⟨by omega, by omega⟩, ?_⟩
    show (if b < v1.heap.size then 0 else if b < v2.heap.size then 1 else if b < v3.heap.size then 2 else if b < v4.heap.size then 3 else 4) = 0
    rw [if_pos (by omega)]
  · intro b hb
    have h1 := hb.1
    have h2 := hb.2
    refine ⟨⟨by omega, by omega⟩, ?_⟩
    show (if b < v1.heap.size then 0 else if b < v2.heap.size then 1 else if b < v3.heap.size then 2 else if b < v4.heap.size then 3 else 4) = 1
    rw [if_neg (by omega), if_pos (by omega)]
  · intro b hb
    have h1 := hb.1
    have h2 := hb.2
    refine ⟨⟨by omega, by omega⟩, ?_⟩
    show (if b < v1.heap.size then 0 else if b < v2.heap.size then 1 else if b < v3.heap.size then 2 else if b < v4.heap.size then 3 else 4) = 2
    rw [if_neg (by omega), if_neg (by omega), if_pos (by omega)]
  · intro b hb
    have h1 := hb.1
    have h2 := hb.2
    refine ⟨⟨by omega, by omega⟩, ?_⟩
    show (if b < v1.heap.size then 0 else if b < v2.heap.size then 1 else if b < v3.heap.size then 2 else if b < v4.heap.size then 3 else 4) = 3
    rw [if_neg (by omega), if_neg (by omega), if_neg (by omega), if_pos (by omega)]
  · intro b hb
    have h1 := hb.1
    have h2 := hb.2
    refine ⟨⟨by omega, by omega⟩, ?_⟩
    show (if b < v1.heap.size then 0 else if b < v2.heap.size then 1 else if b < v3.heap.size then 2 else if b < v4.heap.size then 3 else 4) = 4
    rw [if_neg (by omega), if_neg (by omega), if_neg (by omega), if_neg (by omega)]
  · exact K4'.trans (E.below (fun k hk => by rcases hk with hk | hk <;> omega) (by omega))

end Go.Proofs.YtkchdhmnomelkaaGreat
