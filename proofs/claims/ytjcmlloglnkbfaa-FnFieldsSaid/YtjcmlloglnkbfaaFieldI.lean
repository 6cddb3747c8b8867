/- The field of a missing runner, as the program has it. -/
import Derived.Test.YtjcmlloglnkbfaaSteps
import Derived.Test.YtjcmlloglnkbfaaHelp2
namespace Go.Proofs.Ytjcmlloglnkbfaa
open Go.RowKit

def fieldTo (D : List Int) (s : Int) (k : Nat) : List Int := ((List.range k).filter fun i => inB (D.getD i 0) 0 s).map fun i : Nat => (i : Int)
theorem fieldTo_next (D : List Int) (s : Int) (k : Nat) : fieldTo D s (k + 1) = if inB (D.getD k 0) 0 s then fieldTo D s k ++ [(k : Int)] else fieldTo D s k := by
  unfold fieldTo
  rw [List.range_succ, List.filter_append, List.map_append]
  cases h : inB (D.getD k 0) 0 s <;> simp only [List.filter_cons, List.filter_nil, h] <;> simp
theorem fieldTo_all {N : Nat} {nx : Int → List Int} {a : Int} {D : List Int} (h : Bfs N nx a D []) (s : Nat) : fieldTo D (s : Int) N = fieldL N nx a s := by
  unfold fieldTo fieldL cellsL
  rw [List.filter_map]
  congr 1
  refine List.filter_congr fun i hi => ?_
  have hi' := List.mem_range.1 hi
  show inB (D.getD i 0) 0 (s : Int) = ballB N nx a s ((i : Nat) : Int)
  rw [bfs_end h (i : Int) (by omega) s]
  have hd : dAt D (i : Int) = D.getD i 0 := by unfold dAt; simp
  rw [hd]
  unfold inB
  rw [Bool.eq_iff_iff]
  simp

set_option maxRecDepth 100000 in
set_option maxHeartbeats 4000000 in
theorem fieldOf_any (A1 A2 : Option Addr) (n1 n2 c1 c2 : Nat) (m : MapV) (x : Missing) (pace time : Int) (w : World) (hm : SeesMap w A1 n1 A2 n2 m) (hn : n2 ≤ 36) (hw : 1 ≤ m.width ∧ m.width ≤ 6) (hx : 0 ≤ x.place ∧ x.place < n2) (hp : 60 ≤ pace ∧ pace ≤ 600) (ht : 0 ≤ time - x.seen ∧ time - x.seen ≤ 100000) :
    Calls Try.prog 87 #[.agg #[.int .i64 m.width, .int .i64 m.height, .slice A1 n1 c1, .slice A2 n2 c2], .agg #[.int .i64 x.runner, .int .i64 x.start, .int .i64 x.seen, .int .i64 x.place], .int .i64 pace, .int .i64 time] w (GivesL w (fieldL m.cost.length (nextL m) x.place ((time - x.seen) / pace).toNat)) := by
  have HL2 := Lib.hid hm.f2.icount
  have K0 : Below w.heap.size w (((w.alloc (.cells #[.int .i64 m.width, .int .i64 m.height, .slice A1 n1 c1, .slice A2 n2 c2] 29)).alloc (.cells #[.int .i64 x.runner, .int .i64 x.start, .int .i64 x.seen, .int .i64 x.place] 31)).alloc (.cells #[] 3)) := (((Below.refl _ _).alloc (Nat.le_refl _) _).alloc (by simp) _).alloc (by simp; omega) _
  have M0 : Blk (((w.alloc (.cells #[.int .i64 m.width, .int .i64 m.height, .slice A1 n1 c1, .slice A2 n2 c2] 29)).alloc (.cells #[.int .i64 x.runner, .int .i64 x.start, .int .i64 x.seen, .int .i64 x.place] 31)).alloc (.cells #[] 3)) w.heap.size 29 [.int .i64 m.width, .int .i64 m.height, .slice A1 n1 c1, .slice A2 n2 c2] := ((Blk.at_ rfl).alloc _).alloc _
  have X0 : Blk (((w.alloc (.cells #[.int .i64 m.width, .int .i64 m.height, .slice A1 n1 c1, .slice A2 n2 c2] 29)).alloc (.cells #[.int .i64 x.runner, .int .i64 x.start, .int .i64 x.seen, .int .i64 x.place] 31)).alloc (.cells #[] 3)) (w.heap.size + 1) 31 [.int .i64 x.runner, .int .i64 x.start, .int .i64 x.seen, .int .i64 x.place] := (Blk.at_ (by simp)).alloc _
  have O0 : (((w.alloc (.cells #[.int .i64 m.width, .int .i64 m.height, .slice A1 n1 c1, .slice A2 n2 c2] 29)).alloc (.cells #[.int .i64 x.runner, .int .i64 x.start, .int .i64 x.seen, .int .i64 x.place] 31)).alloc (.cells #[] 3)).ownsRow (w.heap.size + 2) 3 1 (.slice (some ⟨w.heap.size + 2, 0, none⟩) 0 0) 0 (ints []) := own_empty_at 3 1 (by simp)
  obtain ⟨an, han⟩ := Int.eq_ofNat_of_zero_le hx.1
  have hq0 : 0 ≤ (time - x.seen) / pace := Int.ediv_nonneg ht.1 (by omega)
  have hq1 : (time - x.seen) / pace ≤ time - x.seen := Int.ediv_le_self _ ht.1
  obtain ⟨sn, hsn⟩ := Int.eq_ofNat_of_zero_le hq0
  rw [hsn] at hq1
  have hz : (pace == 0) = false := by simp; omega
  have hwd : IntKind.i64.wrap ((time - x.seen).tdiv pace) = (sn : Int) := by rw [Int.tdiv_eq_ediv_of_nonneg ht.1, hsn]; exact IntWalk.i64_in _ (by omega)
  have HS := Lib.hid hsn
  have HA := Lib.hid han
  have ha : an < n2 := by omega
  clear hsn
  rw [han] at M0 X0 K0 O0
  rw [HS.out, HA.out]
  go_enter Try.func87, Try.ntmps87
  go_wp2_with fail
  refine (stepsFrom_any _ _ _ _ _ _ m an _ (hm.next K0) hn hw ha).mono ?_
  rintro e w1 ⟨D, A3, c3, ⟨hB, -⟩, rfl, o3, b1⟩
  have HF := Lib.hid (fieldTo_all hB sn)
  have hD : D.length = n2 := by rw [hB.len]; exact HL2.out
  have HN := Lib.hid (show m.cost.length = n2 from HL2.out)
  have K1 := bel_then K0 b1
  have X1 := X0.next b1
  have O1 := own_below O0 b1
  have z0 : (((w.alloc (.cells #[.int .i64 m.width, .int .i64 m.height, .slice A1 n1 c1, .slice A2 n2 c2] 29)).alloc (.cells #[.int .i64 x.runner, .int .i64 x.start, .int .i64 x.seen, .int .i64 (an : Int)] 31)).alloc (.cells #[] 3)).heap.size = w.heap.size + 3 := by simp
  have z1 := X1.lt
  have z2 := b1.size
  have hfar : ∀ b, OwnB A3 b → ¬ OwnB (some ⟨w.heap.size + 2, 0, none⟩) b := fun b h1 h2 => by
    have h3 := (own_top o3 h1).1
    have h4 : w.heap.size + 2 = b := by simpa [OwnB, Value.ownBlock] using h2
    omega
  have HW := Lib.hid hwd
  have o3' := own_base o3 (Nat.zero_le _)
  have lt2 : w.heap.size + 2 < w1.heap.size := by omega
  obtain ⟨ht0, ht1⟩ := ht
  clear o3 b1 K0 X0 O0 M0 hwd hB z0 z1 z2
  have HD := Lib.hid hD
  have hD1 : D.length ≤ 36 := by omega
  clear hD
  go_wp2_with fail
  go_loopw [9, 18] (fun v i wr => ∃ (k : Nat) (out : List Int) (A' : Option Addr) (c' : Nat), k ≤ D.length ∧ i = .int .i64 (k : Int) ∧ v = .slice A' out.length c' ∧ wr.ownsRow (w.heap.size + 2) 3 1 (.slice A' out.length c') out.length (ints out) ∧ out.length ≤ k ∧ Hid (fieldTo D (sn : Int) k = out) ∧ Blk wr (w.heap.size + 1) 31 [.int .i64 x.runner, .int .i64 x.start, .int .i64 x.seen, .int .i64 (an : Int)] ∧ wr.ownsRow 0 3 1 (.slice A3 D.length c3) D.length (ints D) ∧ Hid (∀ b, OwnB A3 b → ¬ OwnB A' b) ∧ w.heap.size + 2 ≤ wr.heap.size ∧ Below w.heap.size w wr) (fun _ i _ => D.length - (intOf i).toNat)
  case atStart => exact ⟨0, [], _, _, Nat.zero_le _, rfl, rfl, O1, Nat.le_refl _, Lib.hid rfl, X1, o3', Lib.hid hfar, by omega, K1⟩
  case round =>
    obtain ⟨k, out, A', c', hk, rfl, rfl, hown, hlo, HO, X, o3, hfar, lt, hb⟩ := hrel
    have cx := X.cell
    by_cases hlt : k < D.length
    · have hNx := fieldTo_next D (sn : Int) k
      rw [HO.out, List.getD_eq_getElem?_getD, List.getElem?_eq_getElem hlt, Option.getD_some] at hNx
      obtain ⟨b3, off3, rfl, hk3, x3⟩ := (Sees.of_own o3).int hlt
      have HK := Lib.hid (show k + 1 ≤ D.length by omega)
      have hk36 : k ≤ 36 := by omega
      generalize D[k] = dk at x3 hNx
      have hwd := HW.out
      by_cases g : inB dk 0 (sn : Int) = true
      rotate_left 1
      · have HNx := Lib.hid (hNx.trans (if_neg g))
        have HG := Lib.hid (show inB dk 0 (sn : Int) = false by simpa using g)
        clear hNx g
        go_wp2_with fail
        refine (inside_any _ _ _ _).mono ?_
        rintro e w' ⟨rfl, rfl⟩
        rw [HG.out]
        go_wp2_with fail
        clear hwd
        go_roundw
        case rel => exact ⟨k + 1, out, A', c', HK.out, by go_num, rfl, hown, by omega, HNx, X, o3, hfar, lt, hb⟩
        case measure => have := HK.out; simp [intOf]; omega
      · have HNx := Lib.hid (hNx.trans (if_pos g))
        have HG := Lib.hid g
        clear hNx g
        go_wp2_with fail
        refine (inside_any _ _ _ _).mono ?_
        rintro e w' ⟨rfl, rfl⟩
        rw [HG.out]
        clear hwd
        go_wp2_with (at_builtin; go_loud (refine wpList_pushNew rfl _ _ _ rfl Try.underlying22 info_int rfl (by decide) rfl hown rfl (by simp) (by rfl) (by rfl) (by omega) (by decide) (by omega) ?_); intro A4 c4 w4 o4 h4 b4 q4)
        go_roundw
        case rel => exact ⟨k + 1, out ++ [(k : Int)], A4, c4, HK.out, by go_num, by simp, by simpa [ints] using o4, by simp; omega, HNx, X.only h4 (own_not hown (by omega)), own_only o3 h4 (hfar.out), Lib.hid (fun b h1 h2 => by
          rcases q4 b h2 with h5 | h5
          · exact hfar.out b h1 h5
          · have := (own_top o3 h1).2; omega), Nat.le_trans lt b4.size, hb.trans (b4.mono (by omega))⟩
        case measure => have := HK.out; simp [intOf]; omega
    · have HE := Lib.hid (show fieldL m.cost.length (nextL m) (an : Int) sn = out by
        rw [← HF.out, ← HO.out, HN.out, ← HD.out]
        congr 1
        omega)
      clear cx
      go_wp2_with fail
      go_ret
      rw [show ((sn : Int)).toNat = sn from Int.toNat_natCast sn, HE.out]
      exact ⟨_, _, rfl, own_base hown (by omega), hb⟩

end Go.Proofs.Ytjcmlloglnkbfaa
