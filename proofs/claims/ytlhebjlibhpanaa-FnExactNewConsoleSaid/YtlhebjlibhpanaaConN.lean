/- Entrants that have been made. -/
import Derived.Test.YtlhebjlibhpanaaConT
namespace Go.Proofs.Ytlhebjlibhpanaa
open Go.RowKit

def zeroE : Entrant := ⟨0, 0, 0, 0, []⟩
def zeroR (n : Nat) : List (Hd Entrant) := List.replicate n ⟨zeroE, none, 0, 0⟩
theorem zeroR_cells (n : Nat) (hn : n ≤ 8) : madeCells (Value.cells (.agg #[.int .i64 0, .int .i64 0, .int .i64 0, .int .i64 0, .slice none 0 0])) (n * 5) = ((zeroR n).flatMap entrantSh.enc).toArray := by
  have hc : Value.cells (.agg #[.int .i64 0, .int .i64 0, .int .i64 0, .int .i64 0, .slice none 0 0]) = #[.int .i64 0, .int .i64 0, .int .i64 0, .int .i64 0, .slice none 0 0] := by first | rfl | simp [Value.cells] | kernel_rfl
  rw [hc]
  refine Array.ext' ?_
  simp only [madeCells, Array.toList_map, Array.toList_range]
  have h : n = 0 ∨ n = 1 ∨ n = 2 ∨ n = 3 ∨ n = 4 ∨ n = 5 ∨ n = 6 ∨ n = 7 ∨ n = 8 := by omega
  rcases h with rfl | rfl | rfl | rfl | rfl | rfl | rfl | rfl | rfl <;> rfl
theorem make_ents (n : Nat) (hn : n ≤ 8) (w : World) : (Instr.makeSlice 22 (.int .i64 (n : Int)) (.int .i64 (n : Int))).run Try.prog w = .ok (.slice (some ⟨w.heap.size, 0, none⟩) n n) (w.alloc (.cells ((zeroR n).flatMap entrantSh.enc).toArray 47)) := by
  obtain ⟨i0, hi, hz0, hz1, hz2⟩ := info_parts info_impl_Entrant
  have h := run_make (P := Try.prog) w 22 47 i0 (.agg #[.int .i64 0, .int .i64 0, .int .i64 0, .int .i64 0, .slice none 0 0]) Try.underlying22 hi hz0 .i64 .i64 n n (by omega) (by omega) (by rw [hz2]; omega) (by omega)
  rw [hz1, Int.toNat_natCast, zeroR_cells n hn] at h
  exact h
theorem mine_ents (n : Nat) (hn : n ≤ 8) (w : World) : MineN entrantSh (w.alloc (.cells ((zeroR n).flatMap entrantSh.enc).toArray 47)) (In w.heap.size (w.heap.size + 1)) 47 51 (some ⟨w.heap.size, 0, none⟩) n n (List.replicate n zeroE) := by
  have hl : ((zeroR n).flatMap entrantSh.enc).length = n * 5 := by rw [heads_len]; simp [zeroR, entrantSh]
  have hr : ∀ r ∈ zeroR n, r = ⟨zeroE, none, 0, 0⟩ := fun r h => (List.mem_replicate.1 h).2
  have hno : ∀ r ∈ zeroR n, ∀ b, ¬ OwnB r.A b := fun r h b hb => by rw [hr r h] at hb; simp [OwnB, Value.ownBlock] at hb
  refine ⟨zeroR n, by simp [zeroR], ⟨⟨own_shut (Nat.zero_le _) (Blk.at_ rfl) hl (Nat.le_refl _) (by simp only [maxLen]; omega) (by show List.take (n * 5) _ = _; rw [← hl]; exact List.take_length), fun b hb => ?_⟩, ⟨fun r h => ?_, ?_⟩, fun r h b hb => absurd hb (hno r h b)⟩⟩
  · simp only [OwnB, Value.ownBlock, Option.some.injEq] at hb
    exact ⟨by omega, by omega⟩
  · rw [hr r h]
    exact ⟨World.ownsRow_nil _ _ _ _, fun b hb => by simp [OwnB, Value.ownBlock] at hb⟩
  · exact List.Pairwise.imp_of_mem (fun h _ _ b hb => absurd hb (hno _ h b)) (List.pairwise_of_forall (fun _ _ => trivial) (R := fun _ _ => True))

end Go.Proofs.Ytlhebjlibhpanaa
