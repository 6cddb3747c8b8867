/- The law's marks of desks: printed by comp.py. -/
import Derived.Test.YtkchdhmnomelkaaGreatDeskT
namespace Go.Proofs.YtkchdhmnomelkaaGreat
open Go.RowKit

def DeskV.mark (k0 : Int) (h : DeskH) (d : DeskV) : DeskV := ⟨marks (k0) h.n0, marks (k0 + (h.n0 : Int)) h.n1, marksN Card.mark Card.wt (k0 + (h.n0 : Int) + (h.n1 : Int)) d.queue, marksOf DeskRow.mark 3 (k0 + (h.n0 : Int) + (h.n1 : Int) + (wtN Card.wt d.queue : Int)) h.n3, marksN Card.mark Card.wt (k0 + (h.n0 : Int) + (h.n1 : Int) + (wtN Card.wt d.queue : Int) + (h.n3 : Int) * 3) d.trouble⟩
set_option maxRecDepth 100000 in
set_option maxHeartbeats 1000000 in
theorem markDesk_any (S : Nat → Prop) (h : DeskH) (d : DeskV) (k0 : Int) (w : World) (hM : MineDesk w S h d) (hS : ∀ b, S b → b < w.heap.size) (h0 : 0 ≤ k0) (h1 : k0 + ((h.n0 : Int)) + ((h.n1 : Int)) + ((wtN Card.wt d.queue : Int)) + ((h.n3 : Int) * 3) + ((wtN Card.wt d.trouble : Int)) ≤ 1000000000) (hn : DeskFit 1048576 h d) :
    Calls Tryz.prog 13 #[.agg #[.slice h.A0 h.n0 h.c0, .slice h.A1 h.n1 h.c1, .slice h.A2 h.n2 h.c2, .slice h.A3 h.n3 h.c3, .slice h.A4 h.n4 h.c4], .int .i64 k0] w fun e w' => e = .returned (.int .i64 (k0 + (h.n0 : Int) + (h.n1 : Int) + (wtN Card.wt d.queue : Int) + (h.n3 : Int) * 3 + (wtN Card.wt d.trouble : Int))) ∧ MineDesk w' S h (d.mark k0 h) ∧ Only S w w' := by
  obtain ⟨col, m⟩ := hM
  obtain ⟨u0, u1, u2, ux2, u3, u4, ux4⟩ := hn
  go_enter Tryz.func13, Tryz.ntmps13
  go_wp2_with fail
  have K : Only S w (w.alloc (.cells #[.slice h.A0 h.n0 h.c0, .slice h.A1 h.n1 h.c1, .slice h.A2 h.n2 h.c2, .slice h.A3 h.n3 h.c3, .slice h.A4 h.n4 h.c4] 37)) := Only.of_below ((Below.refl _ _).alloc (Nat.le_refl _) _)
  have hb0 : Below w.heap.size w (w.alloc (.cells #[.slice h.A0 h.n0 h.c0, .slice h.A1 h.n1 h.c1, .slice h.A2 h.n2 h.c2, .slice h.A3 h.n3 h.c3, .slice h.A4 h.n4 h.c4] 37)) := (Below.refl _ _).alloc (Nat.le_refl _) _
  have M0 := m.f0.next hb0
  have M1 := m.f1.next hb0
  have M2 := m.f2.next hb0
  have M3 := m.f3.next hb0
  have M4 := m.f4.next hb0
  have PB : Blk (w.alloc (.cells #[.slice h.A0 h.n0 h.c0, .slice h.A1 h.n1 h.c1, .slice h.A2 h.n2 h.c2, .slice h.A3 h.n3 h.c3, .slice h.A4 h.n4 h.c4] 37)) w.heap.size 37 [.slice h.A0 h.n0 h.c0, .slice h.A1 h.n1 h.c1, .slice h.A2 h.n2 h.c2, .slice h.A3 h.n3 h.c3, .slice h.A4 h.n4 h.c4] := Blk.at_ rfl
  clear hb0
  generalize (w.alloc (.cells #[.slice h.A0 h.n0 h.c0, .slice h.A1 h.n1 h.c1, .slice h.A2 h.n2 h.c2, .slice h.A3 h.n3 h.c3, .slice h.A4 h.n4 h.c4] 37)) = w0 at *
  have pc := PB.cell
  refine (markIntS_any _ _ _ _ _ _ (k0) _ M0 (by omega) (by omega) (by omega)).mono ?_
  rintro e w1 ⟨rfl, N0, q0⟩
  replace M1 := M1.only q0 (Hue.apart (by decide))
  replace M2 := M2.only q0 (Hue.apart (by decide))
  replace M3 := M3.only q0 (Hue.apart (by decide))
  replace M4 := M4.only q0 (Hue.apart (by decide))
  replace K := K.trans (q0.mono Hue.sub)
  replace PB := PB.only q0 (fun hb => by have := hS _ hb.1; omega)
  clear pc M0 q0
  have pc := PB.cell
  go_wp2_with fail
  refine (markIntS_any _ _ _ _ _ _ (k0 + (h.n0 : Int)) _ M1 (by omega) (by omega) (by omega)).mono ?_
  rintro e w2 ⟨rfl, N1, q1⟩
  replace N0 := N0.only q1 (Hue.apart (by decide))
  replace M2 := M2.only q1 (Hue.apart (by decide))
  replace M3 := M3.only q1 (Hue.apart (by decide))
  replace M4 := M4.only q1 (Hue.apart (by decide))
  replace K := K.trans (q1.mono Hue.sub)
  replace PB := PB.only q1 (fun hb => by have := hS _ hb.1; omega)
  clear pc M1 q1
  have pc := PB.cell
  go_wp2_with fail
  refine (markCardO_any _ _ _ _ _ (k0 + (h.n0 : Int) + (h.n1 : Int)) _ M2 (by omega) (by omega) (by omega)).mono ?_
  rintro e w3 ⟨rfl, N2, q2⟩
  replace N0 := N0.only q2 (Hue.apart (by decide))
  replace N1 := N1.only q2 (Hue.apart (by decide))
  replace M3 := M3.only q2 (Hue.apart (by decide))
  replace M4 := M4.only q2 (Hue.apart (by decide))
  replace K := K.trans (q2.mono Hue.sub)
  replace PB := PB.only q2 (fun hb => by have := hS _ hb.1; omega)
  clear pc M2 q2
  have pc := PB.cell
  go_wp2_with fail
  refine (markDeskRowS_any _ _ _ _ _ _ (k0 + (h.n0 : Int) + (h.n1 : Int) + (wtN Card.wt d.queue : Int)) _ M3 (by omega) (by omega) (by omega)).mono ?_
  rintro e w4 ⟨rfl, N3, q3⟩
  replace N0 := N0.only q3 (Hue.apart (by decide))
  replace N1 := N1.only q3 (Hue.apart (by decide))
  replace N2 := N2.only q3 (Hue.apart (by decide))
  replace M4 := M4.only q3 (Hue.apart (by decide))
  replace K := K.trans (q3.mono Hue.sub)
  replace PB := PB.only q3 (fun hb => by have := hS _ hb.1; omega)
  clear pc M3 q3
  have pc := PB.cell
  go_wp2_with fail
  refine (markCardO_any _ _ _ _ _ (k0 + (h.n0 : Int) + (h.n1 : Int) + (wtN Card.wt d.queue : Int) + (h.n3 : Int) * 3) _ M4 (by omega) (by omega) (by omega)).mono ?_
  rintro e w5 ⟨rfl, N4, q4⟩
  replace N0 := N0.only q4 (Hue.apart (by decide))
  replace N1 := N1.only q4 (Hue.apart (by decide))
  replace N2 := N2.only q4 (Hue.apart (by decide))
  replace N3 := N3.only q4 (Hue.apart (by decide))
  replace K := K.trans (q4.mono Hue.sub)
  replace PB := PB.only q4 (fun hb => by have := hS _ hb.1; omega)
  clear pc M4 q4
  have pc := PB.cell
  go_wp2_with fail
  go_ret
  exact ⟨rfl, ⟨col, ⟨N0, N1, N2, N3, N4⟩⟩, K⟩

set_option maxRecDepth 100000 in
set_option maxHeartbeats 1000000 in
theorem heldDesk_any (lo : Nat) (h : DeskH) (d : DeskV) (k0 : Int) (w : World) (hx : SeesDesk w lo h (d.mark k0 h)) (h0 : 0 ≤ k0) (h1 : k0 + ((h.n0 : Int)) + ((h.n1 : Int)) + ((wtN Card.wt d.queue : Int)) + ((h.n3 : Int) * 3) + ((wtN Card.wt d.trouble : Int)) ≤ 1000000000) (hn : DeskFit 1048576 h d) :
    Calls Tryz.prog 15 #[.agg #[.slice h.A0 h.n0 h.c0, .slice h.A1 h.n1 h.c1, .slice h.A2 h.n2 h.c2, .slice h.A3 h.n3 h.c3, .slice h.A4 h.n4 h.c4], .int .i64 k0] w fun e w' => e = .returned (.int .i64 (k0 + (h.n0 : Int) + (h.n1 : Int) + (wtN Card.wt d.queue : Int) + (h.n3 : Int) * 3 + (wtN Card.wt d.trouble : Int))) ∧ Below w.heap.size w w' := by
  obtain ⟨u0, u1, u2, ux2, u3, u4, ux4⟩ := hn
  obtain ⟨M0, M1, M2, M3, M4⟩ := hx
  go_enter Tryz.func15, Tryz.ntmps15
  go_wp2_with fail
  have K : Below w.heap.size w (w.alloc (.cells #[.slice h.A0 h.n0 h.c0, .slice h.A1 h.n1 h.c1, .slice h.A2 h.n2 h.c2, .slice h.A3 h.n3 h.c3, .slice h.A4 h.n4 h.c4] 37)) := (Below.refl _ _).alloc (Nat.le_refl _) _
  have PB : Blk (w.alloc (.cells #[.slice h.A0 h.n0 h.c0, .slice h.A1 h.n1 h.c1, .slice h.A2 h.n2 h.c2, .slice h.A3 h.n3 h.c3, .slice h.A4 h.n4 h.c4] 37)) w.heap.size 37 [.slice h.A0 h.n0 h.c0, .slice h.A1 h.n1 h.c1, .slice h.A2 h.n2 h.c2, .slice h.A3 h.n3 h.c3, .slice h.A4 h.n4 h.c4] := Blk.at_ rfl
  replace M0 := M0.next K
  replace M1 := M1.next K
  replace M2 := M2.next K
  replace M3 := M3.next K
  replace M4 := M4.next K
  generalize (w.alloc (.cells #[.slice h.A0 h.n0 h.c0, .slice h.A1 h.n1 h.c1, .slice h.A2 h.n2 h.c2, .slice h.A3 h.n3 h.c3, .slice h.A4 h.n4 h.c4] 37)) = w0 at *
  have pc := PB.cell
  refine (heldIntS_any _ _ _ _ (k0) _ M0 (by omega) (by omega) (by omega)).mono ?_
  rintro e w1 ⟨rfl, q0⟩
  have b0 := q0.below w0.heap.size
  replace M1 := M1.next b0
  replace M2 := M2.next b0
  replace M3 := M3.next b0
  replace M4 := M4.next b0
  have hnn0 : ¬ (k0 + (h.n0 : Int) < 0) := by omega
  replace K := bel_then K b0
  replace PB := PB.next b0
  clear pc M0 b0 q0
  have pc := PB.cell
  go_wp2_with fail
  refine (heldIntS_any _ _ _ _ (k0 + (h.n0 : Int)) _ M1 (by omega) (by omega) (by omega)).mono ?_
  rintro e w2 ⟨rfl, q1⟩
  have b1 := q1.below w1.heap.size
  replace M2 := M2.next b1
  replace M3 := M3.next b1
  replace M4 := M4.next b1
  have hnn1 : ¬ (k0 + (h.n0 : Int) + (h.n1 : Int) < 0) := by omega
  replace K := bel_then K b1
  replace PB := PB.next b1
  clear pc M1 b1 q1
  have pc := PB.cell
  go_wp2_with fail
  refine (heldCardS_any _ _ _ _ _ (k0 + (h.n0 : Int) + (h.n1 : Int)) _ M2 (by omega) (by omega) (by omega)).mono ?_
  rintro e w3 ⟨rfl, q2⟩
  have b2 := q2.below w2.heap.size
  replace M3 := M3.next b2
  replace M4 := M4.next b2
  have hnn2 : ¬ (k0 + (h.n0 : Int) + (h.n1 : Int) + (wtN Card.wt d.queue : Int) < 0) := by omega
  replace K := bel_then K b2
  replace PB := PB.next b2
  clear pc M2 b2 q2
  have pc := PB.cell
  go_wp2_with fail
  refine (heldDeskRowS_any _ _ _ _ (k0 + (h.n0 : Int) + (h.n1 : Int) + (wtN Card.wt d.queue : Int)) _ M3 (by omega) (by omega) (by omega)).mono ?_
  rintro e w4 ⟨rfl, q3⟩
  have b3 := q3.below w3.heap.size
  replace M4 := M4.next b3
  have hnn3 : ¬ (k0 + (h.n0 : Int) + (h.n1 : Int) + (wtN Card.wt d.queue : Int) + (h.n3 : Int) * 3 < 0) := by omega
  replace K := bel_then K b3
  replace PB := PB.next b3
  clear pc M3 b3 q3
  have pc := PB.cell
  go_wp2_with fail
  refine (heldCardS_any _ _ _ _ _ (k0 + (h.n0 : Int) + (h.n1 : Int) + (wtN Card.wt d.queue : Int) + (h.n3 : Int) * 3) _ M4 (by omega) (by omega) (by omega)).mono ?_
  rintro e w5 ⟨rfl, q4⟩
  have b4 := q4.below w4.heap.size
  have hnn4 : ¬ (k0 + (h.n0 : Int) + (h.n1 : Int) + (wtN Card.wt d.queue : Int) + (h.n3 : Int) * 3 + (wtN Card.wt d.trouble : Int) < 0) := by omega
  replace K := bel_then K b4
  replace PB := PB.next b4
  clear pc M4 b4 q4
  have pc := PB.cell
  go_wp2_with fail
  go_ret
  exact ⟨rfl, K⟩

end Go.Proofs.YtkchdhmnomelkaaGreat
