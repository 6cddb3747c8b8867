/- NewDesk, as the program and as the reference have it. -/
import Derived.Test.YtkeffhnkhmalpaaNewDI
import Derived.Test.YtkeffhnkhmalpaaNewDS
import Derived.Test.YtkeffhnkhmalpaaDeskG
import Derived.Test.YtkeffhnkhmalpaaDeskI
namespace Go.Proofs.Ytkeffhnkhmalpaa
open Go.RowKit

def deskZ : DeskV := ⟨[], [], [], [], []⟩
/-- A desk in memory of the call's own, or none. -/
def GivesDeskO (w : World) (R : Option DeskV) (e : Ending) (w' : World) : Prop :=
  ∃ H : DeskH, e = .returned (.tuple #[.agg #[.slice H.A0 H.n0 H.c0, .slice H.A1 H.n1 H.c1, .slice H.A2 H.n2 H.c2, .slice H.A3 H.n3 H.c3, .slice H.A4 H.n4 H.c4], .bool R.isSome]) ∧ MineDesk w' (In w.heap.size w'.heap.size) H (R.getD deskZ) ∧ DeskFit 1048576 H (R.getD deskZ) ∧ H.n3 ≤ H.c3 ∧ Below w.heap.size w w'
theorem mine_nil (w : World) (S : Nat → Prop) (t s : Nat) : Mine w S t s none 0 0 [] := ⟨World.ownsRow_nil _ _ _ _, fun b hb => by simp [OwnB, Value.ownBlock] at hb⟩
theorem deskZ_mine (w : World) (S : Nat → Prop) : MineDesk w S ⟨none, 0, 0, none, 0, 0, none, 0, 0, none, 0, 0, none, 0, 0⟩ deskZ :=
  ⟨fun _ => 0, ⟨mine_nil _ _ _ _, mine_nil _ _ _ _, MineN.nil _ _ _ _, mine_nil _ _ _ _, MineN.nil _ _ _ _⟩⟩
theorem deskZ_fit : DeskFit 1048576 ⟨none, 0, 0, none, 0, 0, none, 0, 0, none, 0, 0, none, 0, 0⟩ deskZ :=
  ⟨by decide, by decide, by decide, by simp [deskZ], by decide, by decide, by simp [deskZ]⟩
theorem givesDO_none {w w' : World} (h : Below w.heap.size w w') : GivesDeskO w none (.returned (.tuple #[.agg #[.slice none 0 0, .slice none 0 0, .slice none 0 0, .slice none 0 0, .slice none 0 0], .bool false])) w' :=
  ⟨⟨none, 0, 0, none, 0, 0, none, 0, 0, none, 0, 0, none, 0, 0⟩, rfl, deskZ_mine _ _, deskZ_fit, Nat.le_refl _, h⟩
def freshD (xs ys : List Int) : DeskV := ⟨xs, ys, [], [], []⟩
def newM (xs ys : List Int) : Option DeskV := if deskB (freshD xs ys) then some (freshD xs ys) else none
theorem finB_cnt {x : Card} (h : finB x = true) : x.punches.length ≤ 12 := by
  unfold finB cardB at h
  simp only [Bool.and_eq_true] at h
  exact (headB_true h.1.1).2.2.2
theorem wt_cards {l : List Card} (h : l.all finB = true) : wtN Card.wt l ≤ l.length * 27 := by
  induction l with
  | nil => simp [wtN]
  | cons x l ih =>
    simp only [List.all_cons, Bool.and_eq_true] at h
    have h1 := ih h.2
    have h2 := finB_cnt h.1
    simp only [wtN, List.length_cons, Card.wt]
    omega
theorem deskB_wt {d : DeskV} (h : deskB d = true) : wtN Card.wt d.queue ≤ 1000 ∧ wtN Card.wt d.trouble ≤ 1000 := by
  have h10 := (deskB_top h).2
  unfold deskB topB at h
  simp only [Bool.and_eq_true] at h
  have h1 := wt_cards h.1.1.1.2
  have h2 := wt_cards h.1.1.2
  omega
theorem newM_wt (xs ys : List Int) : wtN Card.wt ((newM xs ys).getD deskZ).queue ≤ 1000 ∧ wtN Card.wt ((newM xs ys).getD deskZ).trouble ≤ 1000 := by
  unfold newM
  split
  · rename_i h
    exact deskB_wt h
  · simp [deskZ, wtN]
theorem seesN_nil (sh : Sh Card) (w : World) (lo : Nat) (A : Option Addr) : SeesN sh w lo A 0 [] := ⟨[], rfl, Sees.nil _ _ _ _, by simp⟩
theorem mineN_empty {α : Type} {sh : Sh α} {w : World} {g t : Nat} (ti : TypeId) (hB : Blk w g t []) : MineN sh w (fun b => b = g) t ti (some ⟨g, 0, none⟩) 0 0 [] :=
  ⟨[], rfl, ⟨⟨hB.own (Nat.zero_le _) (by simp) (by simp [maxLen]), fun b hb => by simpa [OwnB, Value.ownBlock, eq_comm] using hb⟩, Inners.nil _, by simp⟩⟩
theorem mine_empty {w : World} {g t s : Nat} (hB : Blk w g t []) : Mine w (fun b => b = g) t s (some ⟨g, 0, none⟩) 0 0 [] :=
  ⟨hB.own (Nat.zero_le _) (by simp) (by simp [maxLen]), fun b hb => by simpa [OwnB, Value.ownBlock, eq_comm] using hb⟩

set_option maxRecDepth 100000 in
set_option maxHeartbeats 2000000 in
theorem NewDesk_any (A : Option Addr) (n c : Nat) (xs : List Int) (B : Option Addr) (m e : Nat) (ys : List Int) (w : World) (hx : Sees w 0 1 A n (ints xs)) (hn : n ≤ 1048576) (hy : Sees w 0 1 B m (ints ys)) (hm : m ≤ 1048576) :
    Calls Try.prog 16 #[.slice A n c, .slice B m e] w (GivesDeskO w (newM xs ys)) := by
  have K0 : Below w.heap.size w (w.alloc (.cells #[.slice none 0 0, .slice none 0 0, .slice none 0 0, .slice none 0 0, .slice none 0 0] 32)) := (Below.refl _ _).alloc (Nat.le_refl _) _
  have R0 : Blk (w.alloc (.cells #[.slice none 0 0, .slice none 0 0, .slice none 0 0, .slice none 0 0, .slice none 0 0] 32)) w.heap.size 32 [.slice none 0 0, .slice none 0 0, .slice none 0 0, .slice none 0 0, .slice none 0 0] := Blk.at_ rfl
  have hs0 : SeesDesk (w.alloc (.cells #[.slice none 0 0, .slice none 0 0, .slice none 0 0, .slice none 0 0, .slice none 0 0] 32)) 0 ⟨A, n, c, B, m, e, none, 0, 0, none, 0, 0, none, 0, 0⟩ (freshD xs ys) := ⟨hx.next K0, hy.next K0, seesN_nil _ _ _ _, Sees.nil _ _ _ _, seesN_nil _ _ _ _⟩
  have hf0 : DeskFit 1048576 ⟨A, n, c, B, m, e, none, 0, 0, none, 0, 0, none, 0, 0⟩ (freshD xs ys) := ⟨hn, hm, Nat.zero_le _, by simp [freshD], Nat.zero_le _, Nat.zero_le _, by simp [freshD]⟩
  go_enter Try.func16, Try.ntmps16
  go_wp2_with fail
  refine (newDesk_any ⟨A, n, c, B, m, e, none, 0, 0, none, 0, 0, none, 0, 0⟩ (freshD xs ys) _ hs0 hf0).mono ?_
  rintro x w1 ⟨H, rfl, M, F, C, b1⟩
  have K1 := bel_then K0 b1
  have R1 := R0.next b1
  have K2 := K1.alloc K1.size (.cells #[.slice H.A0 H.n0 H.c0, .slice H.A1 H.n1 H.c1, .slice H.A2 H.n2 H.c2, .slice H.A3 H.n3 H.c3, .slice H.A4 H.n4 H.c4] 32)
  have hbn : Below w1.heap.size w1 (w1.alloc (.cells #[.slice H.A0 H.n0 H.c0, .slice H.A1 H.n1 H.c1, .slice H.A2 H.n2 H.c2, .slice H.A3 H.n3 H.c3, .slice H.A4 H.n4 H.c4] 32)) := (Below.refl _ _).alloc (Nat.le_refl _) _
  have B2 : Blk (w1.alloc (.cells #[.slice H.A0 H.n0 H.c0, .slice H.A1 H.n1 H.c1, .slice H.A2 H.n2 H.c2, .slice H.A3 H.n3 H.c3, .slice H.A4 H.n4 H.c4] 32)) w1.heap.size 32 [.slice H.A0 H.n0 H.c0, .slice H.A1 H.n1 H.c1, .slice H.A2 H.n2 H.c2, .slice H.A3 H.n3 H.c3, .slice H.A4 H.n4 H.c4] := Blk.at_ rfl
  have R2 := R1.next hbn
  have M2 := M.next hbn
  have zr := R1.lt
  have z1 : w.heap.size + 1 ≤ (w.alloc (.cells #[.slice none 0 0, .slice none 0 0, .slice none 0 0, .slice none 0 0, .slice none 0 0] 32)).heap.size := by simp
  have zz := b1.size
  have zn := hbn.size
  clear hs0 hf0 K0 R0 b1 hbn M R1
  go_wp2_with fail
  generalize w1.alloc (.cells #[.slice H.A0 H.n0 H.c0, .slice H.A1 H.n1 H.c1, .slice H.A2 H.n2 H.c2, .slice H.A3 H.n3 H.c3, .slice H.A4 H.n4 H.c4] 32) = w2 at *
  refine (IsDesk_any H (freshD xs ys) _ M2.sees F C).mono ?_
  cases g : deskB (freshD xs ys)
  · rintro x w3 ⟨rfl, b3⟩
    have K3 := bel_then K2 b3
    have R3 := R2.next b3
    have rc := R3.cell
    have rf := R3.frozen
    go_wp2_with fail
    refine bodyPost_ret (v := .tuple #[.agg #[.slice none 0 0, .slice none 0 0, .slice none 0 0, .slice none 0 0, .slice none 0 0], .bool false]) (by simp [results, Try.results16, go_sem, rc]) rfl ?_
    rw [show newM xs ys = none by simp [newM, g]]
    have E := ((((((Only.refl (fun b => b = w.heap.size) w3).setCell (p := ⟨w.heap.size, 0, none⟩) rfl (.slice none 0 0)).setCell (p := ⟨w.heap.size, 1, none⟩) rfl (.slice none 0 0)).setCell (p := ⟨w.heap.size, 2, none⟩) rfl (.slice none 0 0)).setCell (p := ⟨w.heap.size, 3, none⟩) rfl (.slice none 0 0)).setCell (p := ⟨w.heap.size, 4, none⟩) rfl (.slice none 0 0))
    exact givesDO_none (K3.trans (E.below (fun k hk => by omega) K3.size))
  · rintro x w3 ⟨rfl, b3⟩
    have K3 := bel_then K2 b3
    have R3 := R2.next b3
    have B3 := B2.next b3
    have M3 := M2.next b3
    have z3 := b3.size
    have rc := R3.cell
    have rf := R3.frozen
    have bc := B3.cell
    go_wp2_with fail
    refine bodyPost_ret (v := .tuple #[.agg #[.slice H.A0 H.n0 H.c0, .slice H.A1 H.n1 H.c1, .slice H.A2 H.n2 H.c2, .slice H.A3 H.n3 H.c3, .slice H.A4 H.n4 H.c4], .bool true]) (by simp [results, Try.results16, go_sem, rc]) rfl ?_
    rw [show newM xs ys = some (freshD xs ys) by simp [newM, g]]
    have E := ((((((Only.refl (fun b => b = w.heap.size) w3).setCell (p := ⟨w.heap.size, 0, none⟩) rfl (.slice H.A0 H.n0 H.c0)).setCell (p := ⟨w.heap.size, 1, none⟩) rfl (.slice H.A1 H.n1 H.c1)).setCell (p := ⟨w.heap.size, 2, none⟩) rfl (.slice H.A2 H.n2 H.c2)).setCell (p := ⟨w.heap.size, 3, none⟩) rfl (.slice H.A3 H.n3 H.c3)).setCell (p := ⟨w.heap.size, 4, none⟩) rfl (.slice H.A4 H.n4 H.c4))
    have zF := E.size
    have M4 := M3.only E (fun b h1 h2 => by have := h1.1; omega)
    exact ⟨H, rfl, M4.wide (fun b hb => by have := hb.1; have := hb.2; exact ⟨by omega, by omega⟩), F, C, K3.trans (E.below (fun k hk => by omega) K3.size)⟩

set_option maxRecDepth 100000 in
set_option maxHeartbeats 2000000 in
theorem l25New_any (A : Option Addr) (n c : Nat) (xs : List Int) (B : Option Addr) (m e : Nat) (ys : List Int) (w : World) (hx : Sees w 0 1 A n (ints xs)) (hn : n ≤ 1048576) (hy : Sees w 0 1 B m (ints ys)) (hm : m ≤ 1048576) :
    Calls Try.prog 45 #[.slice A n c, .slice B m e] w (GivesDesk w (freshD xs ys)) := by
  have K0 : Below w.heap.size w (w.alloc (.cells #[.slice none 0 0, .slice none 0 0, .slice none 0 0, .slice none 0 0, .slice none 0 0] 32)) := (Below.refl _ _).alloc (Nat.le_refl _) _
  have R0 : Blk (w.alloc (.cells #[.slice none 0 0, .slice none 0 0, .slice none 0 0, .slice none 0 0, .slice none 0 0] 32)) w.heap.size 32 [.slice none 0 0, .slice none 0 0, .slice none 0 0, .slice none 0 0, .slice none 0 0] := Blk.at_ rfl
  have hl1 := Lib.hid hx.icount
  have hl2 := Lib.hid hy.icount
  have z0 : w.heap.size + 1 ≤ (w.alloc (.cells #[.slice none 0 0, .slice none 0 0, .slice none 0 0, .slice none 0 0, .slice none 0 0] 32)).heap.size := by simp
  go_enter Try.func45, Try.ntmps45
  go_wp2_with fail
  generalize (w.alloc (.cells #[.slice none 0 0, .slice none 0 0, .slice none 0 0, .slice none 0 0, .slice none 0 0] 32)) = w0 at *
  refine (l1Own_any A n c 0 xs _ (hx.below K0 (Nat.le_refl _)) hn).mono ?_
  rintro x w1 ⟨A1, c1, rfl, o1, b1⟩
  have K1 := bel_then K0 b1
  have R1 := R0.next b1
  have M1 := Mine.of o1
  have y1 := b1.size
  clear o1 R0
  go_wp2_with fail
  refine (l1Own_any B m e 0 ys _ (hy.below K1 (Nat.le_refl _)) hm).mono ?_
  rintro x w2 ⟨A2, c2, rfl, o2, b2⟩
  have K2 := bel_then K1 b2
  have R2 := R1.next b2
  have N1 := M1.next b2
  have N2 := Mine.of o2
  have y2 := b2.size
  have hz2 := R2.lt
  have U : Below w2.heap.size w2 (((w2.alloc (.cells #[] 70)).alloc (.cells #[] 54)).alloc (.cells #[] 70)) := (((Below.refl _ _).alloc (Nat.le_refl _) _).alloc (by simp) _).alloc (by simp; omega) _
  have K3 := bel_then K2 U
  have R3 := R2.next U
  have P1 := N1.next U
  have P2 := N2.next U
  have Q : Blk (((w2.alloc (.cells #[] 70)).alloc (.cells #[] 54)).alloc (.cells #[] 70)) w2.heap.size 70 [] := ((Blk.at_ rfl).alloc _).alloc _
  have T : Blk (((w2.alloc (.cells #[] 70)).alloc (.cells #[] 54)).alloc (.cells #[] 70)) (w2.heap.size + 1) 54 [] := (Blk.at_ (by simp)).alloc _
  have V : Blk (((w2.alloc (.cells #[] 70)).alloc (.cells #[] 54)).alloc (.cells #[] 70)) (w2.heap.size + 1 + 1) 70 [] := Blk.at_ (by simp)
  have z3 : w2.heap.size + 1 + 1 + 1 ≤ (((w2.alloc (.cells #[] 70)).alloc (.cells #[] 54)).alloc (.cells #[] 70)).heap.size := by simp
  have rc := R2.cell
  have rf := R2.frozen
  have rc3 := R3.cell
  have rf3 := R3.frozen
  clear R1 M1 o2
  go_wp2_with fail
  have RF := (((((R3.set_ 0 (.slice A1 xs.length c1)).set_ 1 (.slice A2 ys.length c2)).set_ 2 (.slice (some ⟨w2.heap.size, 0, none⟩) 0 0)).set_ 3 (.slice (some ⟨w2.heap.size + 1, 0, none⟩) 0 0)).set_ 4 (.slice (some ⟨w2.heap.size + 1 + 1, 0, none⟩) 0 0))
  have E := ((((((Only.refl (fun b => b = w.heap.size) (((w2.alloc (.cells #[] 70)).alloc (.cells #[] 54)).alloc (.cells #[] 70))).setCell (p := ⟨w.heap.size, 0, none⟩) rfl (.slice A1 xs.length c1)).setCell (p := ⟨w.heap.size, 1, none⟩) rfl (.slice A2 ys.length c2)).setCell (p := ⟨w.heap.size, 2, none⟩) rfl (.slice (some ⟨w2.heap.size, 0, none⟩) 0 0)).setCell (p := ⟨w.heap.size, 3, none⟩) rfl (.slice (some ⟨w2.heap.size + 1, 0, none⟩) 0 0)).setCell (p := ⟨w.heap.size, 4, none⟩) rfl (.slice (some ⟨w2.heap.size + 1 + 1, 0, none⟩) 0 0))
  have zF := E.size
  have y0 : w.heap.size + 1 ≤ w0.heap.size := z0
  have X1 := P1.only E (fun b h1 h2 => by have := h1.1; omega)
  have X2 := P2.only E (fun b h1 h2 => by have := h1.1; omega)
  have X3 := (mineN_empty (sh := cardSh) 104 Q).only E (fun b h1 h2 => by omega)
  have X4 := (mine_empty (s := 3) T).only E (fun b h1 h2 => by omega)
  have X5 := (mineN_empty (sh := cardSh) 104 V).only E (fun b h1 h2 => by omega)
  have HFit : DeskFit 1048576 ⟨A1, xs.length, c1, A2, ys.length, c2, some ⟨w2.heap.size, 0, none⟩, 0, 0, some ⟨w2.heap.size + 1, 0, none⟩, 0, 0, some ⟨w2.heap.size + 1 + 1, 0, none⟩, 0, 0⟩ (freshD xs ys) :=
    ⟨by have := hl1.out; show xs.length ≤ _; omega, by have := hl2.out; show ys.length ≤ _; omega, Nat.zero_le _, by simp [freshD], Nat.zero_le _, Nat.zero_le _, by simp [freshD]⟩
  refine bodyPost_ret (results_cell_row rfl _ _ w.heap.size _ _ (0, 0) _ rfl RF Try.underlying32 rfl (by kernel_rfl)) rfl ⟨⟨A1, xs.length, c1, A2, ys.length, c2, some ⟨w2.heap.size, 0, none⟩, 0, 0, some ⟨w2.heap.size + 1, 0, none⟩, 0, 0, some ⟨w2.heap.size + 1 + 1, 0, none⟩, 0, 0⟩, rfl,
    MineDesk.of5 X1 X2 X3 X4 X5 (fun b h1 => by have := h1.1; have := h1.2; exact ⟨by omega, by omega⟩) (fun b h1 => by have := h1.1; have := h1.2; exact ⟨by omega, by omega⟩) (fun b h1 => ⟨by omega, by omega⟩) (fun b h1 => ⟨by omega, by omega⟩) (fun b h1 => ⟨by omega, by omega⟩)
      (fun b h1 h2 => by have := h1.2; have := h2.1; omega) (fun b h1 h2 => by have := h1.2; omega) (fun b h1 h2 => by have := h1.2; omega) (fun b h1 h2 => by have := h1.2; omega) (fun b h1 h2 => by have := h1.2; omega) (fun b h1 h2 => by have := h1.2; omega) (fun b h1 h2 => by have := h1.2; omega) (fun b h1 h2 => by omega) (fun b h1 h2 => by omega) (fun b h1 h2 => by omega), HFit, Nat.le_refl _, K3.trans (E.below (fun k hk => by omega) (by omega))⟩

set_option maxRecDepth 100000 in
set_option maxHeartbeats 2000000 in
theorem specNewDesk_any (A : Option Addr) (n c : Nat) (xs : List Int) (B : Option Addr) (m e : Nat) (ys : List Int) (w : World) (hx : Sees w 0 1 A n (ints xs)) (hn : n ≤ 1048576) (hy : Sees w 0 1 B m (ints ys)) (hm : m ≤ 1048576) :
    Calls Try.prog 14 #[.slice A n c, .slice B m e] w (GivesDeskO w (newM xs ys)) := by
  have K0 : Below w.heap.size w (w.alloc (.cells #[.slice none 0 0, .slice none 0 0, .slice none 0 0, .slice none 0 0, .slice none 0 0] 32)) := (Below.refl _ _).alloc (Nat.le_refl _) _
  have R0 : Blk (w.alloc (.cells #[.slice none 0 0, .slice none 0 0, .slice none 0 0, .slice none 0 0, .slice none 0 0] 32)) w.heap.size 32 [.slice none 0 0, .slice none 0 0, .slice none 0 0, .slice none 0 0, .slice none 0 0] := Blk.at_ rfl
  have z0 : w.heap.size + 1 ≤ (w.alloc (.cells #[.slice none 0 0, .slice none 0 0, .slice none 0 0, .slice none 0 0, .slice none 0 0] 32)).heap.size := by simp
  go_enter Try.func14, Try.ntmps14
  go_wp2_with fail
  generalize (w.alloc (.cells #[.slice none 0 0, .slice none 0 0, .slice none 0 0, .slice none 0 0, .slice none 0 0] 32)) = w0 at *
  refine (l25New_any A n c xs B m e ys _ (hx.below K0 (Nat.le_refl _)) hn (hy.below K0 (Nat.le_refl _)) hm).mono ?_
  rintro x w1 ⟨H, rfl, M, F, C, b1⟩
  have K1 := bel_then K0 b1
  have R1 := R0.next b1
  go_wp2_with fail
  refine (l25Good_any H (freshD xs ys) _ M.sees F C).mono ?_
  cases g : deskB (freshD xs ys)
  · rintro x w3 ⟨rfl, b3⟩
    have K3 := bel_then K1 b3
    have R3 := R1.next b3
    have rc := R3.cell
    have rf := R3.frozen
    go_wp2_with fail
    refine bodyPost_ret (v := .tuple #[.agg #[.slice none 0 0, .slice none 0 0, .slice none 0 0, .slice none 0 0, .slice none 0 0], .bool false]) (by simp [results, Try.results14, go_sem, rc]) rfl ?_
    rw [show newM xs ys = none by simp [newM, g]]
    have E := ((((((Only.refl (fun b => b = w.heap.size) w3).setCell (p := ⟨w.heap.size, 0, none⟩) rfl (.slice none 0 0)).setCell (p := ⟨w.heap.size, 1, none⟩) rfl (.slice none 0 0)).setCell (p := ⟨w.heap.size, 2, none⟩) rfl (.slice none 0 0)).setCell (p := ⟨w.heap.size, 3, none⟩) rfl (.slice none 0 0)).setCell (p := ⟨w.heap.size, 4, none⟩) rfl (.slice none 0 0))
    exact givesDO_none (K3.trans (E.below (fun k hk => by omega) K3.size))
  · rintro x w2 ⟨rfl, b2⟩
    have K2 := bel_then K1 b2
    have R2 := R1.next b2
    have hz2 := R2.lt
    clear M F C b1 R0 R1
    go_wp2_with fail
    refine (l25New_any A n c xs B m e ys _ (hx.below K2 (Nat.le_refl _)) hn (hy.below K2 (Nat.le_refl _)) hm).mono ?_
    rintro x w3 ⟨H, rfl, M3, F, C, b3⟩
    have K3 := bel_then K2 b3
    have R3 := R2.next b3
    have rc := R3.cell
    have rf := R3.frozen
    go_wp2_with fail
    refine bodyPost_ret (v := .tuple #[.agg #[.slice H.A0 H.n0 H.c0, .slice H.A1 H.n1 H.c1, .slice H.A2 H.n2 H.c2, .slice H.A3 H.n3 H.c3, .slice H.A4 H.n4 H.c4], .bool true]) (by simp [results, Try.results14, go_sem, rc]) rfl ?_
    rw [show newM xs ys = some (freshD xs ys) by simp [newM, g]]
    have E := ((((((Only.refl (fun b => b = w.heap.size) w3).setCell (p := ⟨w.heap.size, 0, none⟩) rfl (.slice H.A0 H.n0 H.c0)).setCell (p := ⟨w.heap.size, 1, none⟩) rfl (.slice H.A1 H.n1 H.c1)).setCell (p := ⟨w.heap.size, 2, none⟩) rfl (.slice H.A2 H.n2 H.c2)).setCell (p := ⟨w.heap.size, 3, none⟩) rfl (.slice H.A3 H.n3 H.c3)).setCell (p := ⟨w.heap.size, 4, none⟩) rfl (.slice H.A4 H.n4 H.c4))
    have zF := E.size
    have M4 := M3.only E (fun b h1 h2 => by have := h1.1; omega)
    exact ⟨H, rfl, M4.wide (fun b hb => by have := hb.1; have := hb.2; exact ⟨by omega, by omega⟩), F, C, K3.trans (E.below (fun k hk => by omega) K3.size)⟩

end Go.Proofs.Ytkeffhnkhmalpaa
