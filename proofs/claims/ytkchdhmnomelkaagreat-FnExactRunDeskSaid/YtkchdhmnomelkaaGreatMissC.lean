/- Missing codes, as the program and as the reference have them. -/
import Derived.Test.YtkchdhmnomelkaaGreatFoundC
namespace Go.Proofs.YtkchdhmnomelkaaGreat
open Go.RowKit

theorem fTo_len (ps : List Punch) (cs : List Int) : ∀ k, k ≤ cs.length → (fTo ps cs k).1.length = k
  | 0, _ => by simp [fTo]
  | k + 1, hk => by
    have ih := fTo_len ps cs k (by omega)
    rw [fTo_next ps cs (by omega)]
    unfold fStep
    split <;> simp [ih]
theorem foundL_len (ps : List Punch) (cs : List Int) : (foundL ps cs).length = cs.length := fTo_len ps cs _ (Nat.le_refl _)
/-- The codes at the first k places at which nothing is found. -/
def missTo (fs cs : List Int) (k : Nat) : List Int := ((List.range k).filter fun i => decide (fs.getD i 0 < 0)).map fun i => cs.getD i 0
def missL (x : Card) (cs : List Int) : List Int := missTo (foundL x.punches cs) cs cs.length
theorem missTo_next (fs cs : List Int) {k : Nat} (hf : k < fs.length) (hc : k < cs.length) : missTo fs cs (k + 1) = if fs[k] < 0 then missTo fs cs k ++ [cs[k]] else missTo fs cs k := by
  unfold missTo
  rw [List.range_succ, List.filter_append, List.map_append]
  by_cases h : fs[k] < 0 <;> simp [List.getD, hf, hc, h]
theorem missTo_len (fs cs : List Int) (k : Nat) : (missTo fs cs k).length ≤ k := by
  unfold missTo
  rw [List.length_map]
  exact Nat.le_trans (List.length_filter_le _ _) (by simp)
theorem missL_len (x : Card) (cs : List Int) : (missL x cs).length ≤ cs.length := missTo_len _ _ _

set_option maxRecDepth 100000 in
set_option maxHeartbeats 2000000 in
theorem missingCodes_any (A : Option Addr) (n c : Nat) (x : Card) (B : Option Addr) (m e : Nat) (cs : List Int) (w : World) (hx : Sees w 0 2 A n (x.punches.flatMap Punch.enc)) (hn : n ≤ 1048576) (hnc : n ≤ c) (hy : Sees w 0 1 B m (ints cs)) (hm : m ≤ 1048576) :
    Calls Tryz.prog 96 #[.agg #[.int .i64 x.number, .int .i64 x.start, .int .i64 x.finish, .slice A n c], .slice B m e] w (GivesL w (missL x cs)) := by
  have HM := Lib.hid hy.icount
  have HF := Lib.hid (foundL_len x.punches cs)
  have hfm1 : (foundL x.punches cs).length ≤ m := by rw [HF.out, HM.out]; exact Nat.le_refl _
  have hfm2 : m ≤ (foundL x.punches cs).length := by rw [HF.out, HM.out]; exact Nat.le_refl _
  have K0 : Below w.heap.size w ((w.alloc (.cells #[.int .i64 x.number, .int .i64 x.start, .int .i64 x.finish, .slice A n c] 43)).alloc (.cells #[] 3)) := ((Below.refl _ _).alloc (Nat.le_refl _) _).alloc (by simp) _
  have P0 : Blk ((w.alloc (.cells #[.int .i64 x.number, .int .i64 x.start, .int .i64 x.finish, .slice A n c] 43)).alloc (.cells #[] 3)) w.heap.size 43 [.int .i64 x.number, .int .i64 x.start, .int .i64 x.finish, .slice A n c] := (Blk.at_ rfl).alloc _
  have o0 := own_empty_at (w := (w.alloc (.cells #[.int .i64 x.number, .int .i64 x.start, .int .i64 x.finish, .slice A n c] 43))) (g := w.heap.size + 1) 3 1 (by simp)
  have z0 : w.heap.size + 2 ≤ ((w.alloc (.cells #[.int .i64 x.number, .int .i64 x.start, .int .i64 x.finish, .slice A n c] 43)).alloc (.cells #[] 3)).heap.size := by simp
  go_enter Tryz.func96, Tryz.ntmps96
  go_wp2_with fail
  generalize ((w.alloc (.cells #[.int .i64 x.number, .int .i64 x.start, .int .i64 x.finish, .slice A n c] 43)).alloc (.cells #[] 3)) = w0 at *
  refine (foundAt_any A n c x B m e cs _ (hx.below K0 (Nat.le_refl _)) hn hnc (hy.below K0 (Nat.le_refl _)) hm).mono ?_
  have HD := Lib.hid (show missL x cs = missTo (foundL x.punches cs) cs cs.length from rfl)
  generalize foundL x.punches cs = fs at *
  rintro e1 w1 ⟨F, cf, rfl, of_, b1⟩
  have K1 := bel_then K0 b1
  have o1 := own_below o0 b1
  have hF : ∀ b, OwnB F b → w.heap.size + 2 ≤ b := fun b hb => by have := (own_top of_ hb).1; omega
  have hz1 := b1.size
  clear P0 o0 K0
  go_wp2_with fail
  go_loopw [5, 13] (fun v i wr => ∃ (k : Nat) (out : List Int) (A' : Option Addr) (c' : Nat), k ≤ fs.length ∧ i = .int .i64 (k : Int) ∧ v = .slice A' out.length c' ∧ wr.ownsRow (w.heap.size + 1) 3 1 (.slice A' out.length c') out.length (ints out) ∧ out.length ≤ k ∧ Hid (missTo fs cs k = out) ∧ wr.ownsRow w0.heap.size 3 1 (.slice F fs.length cf) fs.length (ints fs) ∧ (∀ b, OwnB F b → OwnB A' b → False) ∧ w0.heap.size ≤ wr.heap.size ∧ Below w.heap.size w wr) (fun _ i _ => fs.length - (intOf i).toNat)
  case atStart => exact ⟨0, [], _, 0, Nat.zero_le _, rfl, rfl, o1, Nat.le_refl _, Lib.hid rfl, of_, (fun b h1 h2 => by have h3 := hF b h1; have h4 : w.heap.size + 1 = b := (by simpa [OwnB, Value.ownBlock] using h2); omega), hz1, K1⟩
  case round =>
    obtain ⟨k, out, A', c', hk, rfl, rfl, own, hlo, HO, ofr, hap, hzr, hb⟩ := hrel
    by_cases hlt : k < fs.length
    · have hkc : k < cs.length := by rw [HM.out]; omega
      obtain ⟨bk, offk, rfl, hkx, x0⟩ := ((Sees.of_own ofr)).int hlt
      obtain ⟨by_, offy, rfl, hky, y0⟩ := (hy.next hb).int (show k < m by omega)
      have hN := missTo_next fs cs hlt hkc
      rw [HO.out] at hN
      have hblt := World.block_lt_of_cell? wr _ x0
      have hblty := World.block_lt_of_cell? wr _ y0
      have hkm : (k : Int) < (m : Int) := by omega
      have hkf : (k : Int) < (fs.length : Int) := by omega
      by_cases h0 : fs[k] < 0
      · have HN := Lib.hid (hN.trans (if_pos h0))
        clear hN
        go_wp2_with (at_builtin; go_loud (refine wpList_pushNew rfl _ _ _ rfl Tryz.underlying22 info_int rfl (by decide) rfl own rfl (by simp) (by rfl) (by rfl) (by omega) (by decide) (by omega) ?_); intro A9 c9 w9 o9 h9 b9 q9)
        go_roundw
        case rel => exact ⟨k + 1, out ++ [cs[k]], A9, c9, by omega, by go_num, by simp, by simpa [ints] using o9, by simp; omega, HN, own_only ofr h9 (fun b h1 h2 => hap b h1 h2), (fun b h1 h2 => (q9 b h2).elim (hap b h1) (fun h5 => by have := (own_top ofr h1).2; omega)), by have := h9.size; omega, hb.trans (b9.mono (by omega))⟩
        case measure => simp [intOf]; omega
      · have HN := Lib.hid (hN.trans (if_neg h0))
        clear hN
        go_wp2_with fail
        go_roundw
        case rel => exact ⟨k + 1, out, A', c', by omega, by go_num, rfl, own, by omega, HN, ofr, hap, hzr, hb⟩
        case measure => simp [intOf]; omega
    · have HE := Lib.hid (show missL x cs = out by rw [HD.out, ← HO.out, show cs.length = k by rw [HM.out]; omega])
      go_wp2_with fail
      go_ret
      rw [HE.out]
      exact ⟨A', c', rfl, own_base own (by omega), hb⟩

end Go.Proofs.YtkchdhmnomelkaaGreat
