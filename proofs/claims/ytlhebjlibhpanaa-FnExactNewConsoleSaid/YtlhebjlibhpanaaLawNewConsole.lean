/- The walk of the law FnExactNewConsole. -/
import Derived.Test.YtlhebjlibhpanaaNewCon
namespace Go.Proofs.Ytlhebjlibhpanaa
open Go.RowKit

theorem wt_zero (n : Nat) : wtN Entrant.wt (List.replicate n zeroE) = n * 4 := by
  induction n with
  | zero => rfl
  | succ n ih =>
    rw [List.replicate_succ]
    show Entrant.wt zeroE + wtN Entrant.wt (List.replicate n zeroE) = _
    rw [ih]
    show 4 + n * 4 = _
    omega
set_option maxRecDepth 100000 in
set_option maxHeartbeats 4000000 in
theorem FnExactNewConsole_any (e0 : Int) (w : World) :
    Calls Try.prog 3 #[.int .i64 e0] w fun e w' => e = .returned (.bool true) ∧ Below w.heap.size w w' := by
  go_enter Try.func3, Try.ntmps3
  go_wp2_with fail
  refine (specNewConsole_any e0 w).mono ?_
  rintro e w1 ⟨A0, rfl, M0, K⟩
  have hg0 := K.size
  have hN8 := entN_le e0
  obtain ⟨N, hN⟩ : ∃ N, entN e0 = N := ⟨_, rfl⟩
  obtain ⟨B, hB⟩ : ∃ B, inB e0 1 8 = B := ⟨_, rfl⟩
  have HN := Lib.hid hN
  have HB := Lib.hid hB
  rw [hN] at M0 hN8
  rw [hN, hB]
  clear hN hB
  have hwt := wt_zero N
  have hi : ∀ x ∈ List.replicate N zeroE, x.cnt ≤ 1048576 := fun x hx => by rw [(List.mem_replicate.1 hx).2]; decide
  have U : Below w1.heap.size w1 (w1.alloc (.cells #[.int .i64 0, .bool false, .slice A0 N N, .string ⟨#[]⟩, .string ⟨#[]⟩, .int .i64 0] 28)) := (Below.refl _ _).alloc (Nat.le_refl _) _
  have B0 : Blk (w1.alloc (.cells #[.int .i64 0, .bool false, .slice A0 N N, .string ⟨#[]⟩, .string ⟨#[]⟩, .int .i64 0] 28)) w1.heap.size 28 [.int .i64 0, .bool false, .slice A0 N N, .string ⟨#[]⟩, .string ⟨#[]⟩, .int .i64 0] := Blk.at_ rfl
  have hs1 : w1.heap.size + 1 ≤ (w1.alloc (.cells #[.int .i64 0, .bool false, .slice A0 N N, .string ⟨#[]⟩, .string ⟨#[]⟩, .int .i64 0] 28)).heap.size := by simp
  replace M0 := M0.next U
  replace K := bel_then K U
  clear U
  go_wp2_with fail
  generalize (w1.alloc (.cells #[.int .i64 0, .bool false, .slice A0 N N, .string ⟨#[]⟩, .string ⟨#[]⟩, .int .i64 0] 28)) = w2 at *
  generalize w1.heap.size = g0 at *
  refine (NewConsole_any e0 w2).mono ?_
  rintro e w3 ⟨A1, rfl, M1, b⟩
  rw [HN.out, HB.out]
  rw [HN.out] at M1
  have hs3 := b.size
  replace M0 := M0.next b
  replace B0 := B0.next b
  replace K := bel_then K b
  clear b
  have U : Below w3.heap.size w3 (w3.alloc (.cells #[.int .i64 0, .bool false, .slice A1 N N, .string ⟨#[]⟩, .string ⟨#[]⟩, .int .i64 0] 28)) := (Below.refl _ _).alloc (Nat.le_refl _) _
  have B1 : Blk (w3.alloc (.cells #[.int .i64 0, .bool false, .slice A1 N N, .string ⟨#[]⟩, .string ⟨#[]⟩, .int .i64 0] 28)) w3.heap.size 28 [.int .i64 0, .bool false, .slice A1 N N, .string ⟨#[]⟩, .string ⟨#[]⟩, .int .i64 0] := Blk.at_ rfl
  have hs4 : w3.heap.size + 1 ≤ (w3.alloc (.cells #[.int .i64 0, .bool false, .slice A1 N N, .string ⟨#[]⟩, .string ⟨#[]⟩, .int .i64 0] 28)).heap.size := by simp
  replace M0 := M0.next U
  replace B0 := B0.next U
  replace M1 := M1.next U
  replace K := bel_then K U
  clear U
  have c0 := B0.cell
  have c1 := B1.cell
  go_wp2_with fail
  generalize (w3.alloc (.cells #[.int .i64 0, .bool false, .slice A1 N N, .string ⟨#[]⟩, .string ⟨#[]⟩, .int .i64 0] 28)) = w4 at *
  generalize w3.heap.size = g1 at *
  refine (eqConsole_any 0 false (⟨⟨#[]⟩, ⟨#[]⟩, 0⟩ : Log) A1 A0 N N N N 0 0 _ _ w4 M1.sees M0.sees rfl (by omega) hi).mono ?_
  rintro e w5 ⟨rfl, b⟩
  clear c0 c1
  replace M0 := M0.next b
  replace B0 := B0.next b
  replace M1 := M1.next b
  replace B1 := B1.next b
  replace K := bel_then K b
  clear b
  have eB : (B != B) = false := bne_self_eq_false B
  have c1 := B1.cell
  go_wp2_with fail
  clear eB
  refine (markConsole_any _ 0 false (⟨⟨#[]⟩, ⟨#[]⟩, 0⟩ : Log) A1 N N _ 1 w5 M1 (by omega) (by omega) (by omega)).mono ?_
  rintro e w6 ⟨rfl, M2, q⟩
  clear c1 M1
  have hq := q.size
  replace M0 := M0.only q (fun b h1 h2 => by have := h1.2; have := h2.1; omega)
  replace B0 := B0.only q (fun h2 => by have := h2.1; omega)
  replace B1 := B1.only q (fun h2 => by have := h2.2; omega)
  have hK5 := K.size
  replace K := K.trans (q.below (fun b h2 => by have := h2.1; omega) hK5)
  clear q
  obtain ⟨m, hm⟩ : ∃ m, (1 + (wtN Entrant.wt (List.replicate N zeroE) : Int)) = m := ⟨_, rfl⟩
  have HM := Lib.hid hm
  have hm0 : ¬ m < 0 := by omega
  have hmm : (m != m) = false := bne_self_eq_false m
  rw [hm]
  clear hm
  have c1 := B1.cell
  go_wp2_with fail
  refine (heldConsole_any 0 false (⟨⟨#[]⟩, ⟨#[]⟩, 0⟩ : Log) _ N N A1 _ 1 w6 M2.sees (by omega) (by omega) (by omega)).mono ?_
  rw [HM.out]
  rintro e w7 ⟨rfl, b⟩
  clear c1
  replace M0 := M0.next b
  replace B0 := B0.next b
  replace M2 := M2.next b
  replace B1 := B1.next b
  replace K := bel_then K b
  clear b
  go_wp2_with fail
  refine (NewConsole_any e0 w7).mono ?_
  rintro e w8 ⟨A2, rfl, M3, b⟩
  rw [HN.out, HB.out]
  rw [HN.out] at M3
  replace M0 := M0.next b
  replace B0 := B0.next b
  replace M2 := M2.next b
  replace B1 := B1.next b
  replace K := bel_then K b
  clear b
  have U : Below w8.heap.size w8 (w8.alloc (.cells #[.int .i64 0, .bool false, .slice A2 N N, .string ⟨#[]⟩, .string ⟨#[]⟩, .int .i64 0] 28)) := (Below.refl _ _).alloc (Nat.le_refl _) _
  have B2 : Blk (w8.alloc (.cells #[.int .i64 0, .bool false, .slice A2 N N, .string ⟨#[]⟩, .string ⟨#[]⟩, .int .i64 0] 28)) w8.heap.size 28 [.int .i64 0, .bool false, .slice A2 N N, .string ⟨#[]⟩, .string ⟨#[]⟩, .int .i64 0] := Blk.at_ rfl
  replace M0 := M0.next U
  replace B0 := B0.next U
  replace M2 := M2.next U
  replace B1 := B1.next U
  replace M3 := M3.next U
  replace K := bel_then K U
  clear U
  have c0 := B0.cell
  have c2 := B2.cell
  go_wp2_with fail
  generalize (w8.alloc (.cells #[.int .i64 0, .bool false, .slice A2 N N, .string ⟨#[]⟩, .string ⟨#[]⟩, .int .i64 0] 28)) = w9 at *
  generalize w8.heap.size = g2 at *
  refine (eqConsole_any 0 false (⟨⟨#[]⟩, ⟨#[]⟩, 0⟩ : Log) A2 A0 N N N N 0 0 _ _ w9 M3.sees M0.sees rfl (by omega) hi).mono ?_
  rintro e w10 ⟨rfl, b⟩
  clear c0 c2 M0 M3 B0 B2
  replace M2 := M2.next b
  replace B1 := B1.next b
  replace K := bel_then K b
  clear b
  have eB : (B != B) = false := bne_self_eq_false B
  have c1 := B1.cell
  go_wp2_with fail
  refine (heldConsole_any 0 false (⟨⟨#[]⟩, ⟨#[]⟩, 0⟩ : Log) _ N N A1 _ 1 w10 M2.sees (by omega) (by omega) (by omega)).mono ?_
  rw [HM.out]
  rintro e w11 ⟨rfl, b⟩
  replace K := bel_then K b
  go_wp2_with fail
  go_ret
  exact ⟨rfl, K⟩

end Go.Proofs.Ytlhebjlibhpanaa
