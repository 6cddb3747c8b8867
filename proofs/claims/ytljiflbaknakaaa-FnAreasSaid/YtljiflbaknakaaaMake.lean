/- make: a block of zeros, each of one cell. -/
import Derived.Test.YtljiflbaknakaaaS0
import Derived.Laws.OwnMore
namespace Go.Proofs.Ytljiflbaknakaaa
open Go.RowKit

theorem make_ones {P : Program} {t e : TypeId} {z : Value} {bytes : Nat} (n : Nat) (ht : P.underlying t = some (.slice e)) (hi : (P.info? e).map (fun i => (i.zero, i.size, i.bytes)) = some (some z, 1, bytes)) (hz : z.cells = #[z]) (hb : bytes * n ≤ 281474976710656) (hn : n ≤ 1000000000000) (w : World) :
    (Instr.makeSlice t (.int .i64 (n : Int)) (.int .i64 (n : Int))).run P w = .ok (.slice (some ⟨w.heap.size, 0, none⟩) n n) (w.alloc (.cells (List.replicate n z).toArray e)) := by
  obtain ⟨i0, hi, hz0, hz1, hz2⟩ := info_parts hi
  have := run_make (P := P) w t e i0 z ht hi hz0 .i64 .i64 n n (by omega) (by omega) (by rw [hz2]; have h : ((bytes * n : Nat) : Int) ≤ 281474976710656 := by omega
                                                                                         rwa [Int.natCast_mul] at h) (by omega)
  rw [hz1, Nat.mul_one, hz] at this
  rw [← toList_madeCells_one]
  simpa using this
theorem ints_replicate (n : Nat) (x : Int) : List.replicate n (Value.int .i64 x) = ints (List.replicate n x) := by simp [ints]

end Go.Proofs.Ytljiflbaknakaaa
