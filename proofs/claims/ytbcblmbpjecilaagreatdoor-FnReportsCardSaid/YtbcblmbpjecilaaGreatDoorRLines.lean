/- Helpers of the law of reports, and what it draws beside lines. -/
import Derived.Test.YtbcblmbpjecilaaGreatDoorReportsP
import Derived.Test.YtbcblmbpjecilaaGreatDoorParseS
import Derived.Test.YtbcblmbpjecilaaGreatDoorCurQ
import Derived.Test.YtbcblmbpjecilaaGreatDoorRBig
namespace Go.Proofs.YtbcblmbpjecilaaGreatDoor
open Go.RowKit

set_option maxHeartbeats 1000000 in
theorem rLines_any (A A' : Option Addr) (n n' c c' lo lo' : Nat) (xs ys : List ReportLine) (w : World) (hx : Sees w lo 4 A n (xs.flatMap ReportLine.enc)) (hy : Sees w lo' 4 A' n' (ys.flatMap ReportLine.enc)) (he : xs = ys) (hn : n ≤ 140737488355328) :
    Calls Tryz.prog 14 #[.slice A n c, .slice A' n' c'] w fun e w' => e = .returned (.bool true) ∧ Quiet w w' := by
  subst he
  have hl := hx.count (by decide) (fun _ => rfl)
  have hl' := hy.count (by decide) (fun _ => rfl)
  obtain rfl : n = n' := by omega
  go_enter Tryz.func14, Tryz.ntmps14
  go_wp2_with fail
  go_loopw [5] (fun v wr => ∃ k : Nat, k ≤ n ∧ v = .int .i64 k ∧ Quiet w wr) (fun v _ => n - (intOf v).toNat)
  case atStart => exact ⟨0, Nat.zero_le _, rfl, Quiet.refl _⟩
  case round =>
    obtain ⟨k, hk, rfl, hq⟩ := hrel
    by_cases hlt : k < n
    · obtain ⟨b, off, rfl, hkx, c0, c1, c2, c3⟩ := (hx.quiet hq).elem4 (fun _ => rfl) hlt
      obtain ⟨b', off', rfl, hky, d0, d1, d2, d3⟩ := (hy.quiet hq).elem4 (fun _ => rfl) hlt
      generalize xs[k] = x at *
      go_wp2_with fail
      go_quiet (fail)
      go_wp2_with fail
      go_roundw
      case rel => exact ⟨k + 1, by omega, by go_num, hq.more _⟩
      case measure => simp [intOf]; omega
    · go_wp2_with fail
      go_ret
      exact ⟨rfl, hq⟩

set_option maxHeartbeats 1000000 in
theorem rSum_any (A : Option Addr) (n c : Nat) (xs : List Int) (w : World) (hx : Sees w 0 1 A n (ints xs)) (hn : n ≤ 1000) (hb : ∀ x ∈ xs, -36000 ≤ x ∧ x ≤ 36000) :
    Calls Tryz.prog 19 #[.slice A n c] w fun e w' => e = .returned (.int .i64 xs.sum) ∧ Quiet w w' := by
  have hl := hx.icount
  have HB := Lib.hid hb
  have HL := Lib.hid hl
  clear hb hl
  go_enter Tryz.func19, Tryz.ntmps19
  go_wp2_with fail
  go_loopw [3, 4] (fun q v wr => ∃ k : Nat, k ≤ n ∧ v = .int .i64 k ∧ q = .int .i64 (xs.take k).sum ∧ Quiet w wr) (fun _ v _ => n - (intOf v).toNat)
  case atStart => exact ⟨0, Nat.zero_le _, rfl, rfl, Quiet.refl _⟩
  case round =>
    obtain ⟨k, hk, rfl, rfl, hq⟩ := hrel
    by_cases hlt : k < n
    · obtain ⟨b, off, rfl, hkx, hcx⟩ := (hx.quiet hq).int hlt
      have hs := sum_bd (xs.take k) (fun x hx => HB.out x (List.mem_of_mem_take hx))
      have hlk : (xs.take k).length ≤ k := List.length_take_le _ _
      have hs1 : -36000000 ≤ (xs.take k).sum := by omega
      have hs2 : (xs.take k).sum ≤ 36000000 := by omega
      have hx1 := (HB.out xs[k] (List.getElem_mem hkx)).1
      have hx2 := (HB.out xs[k] (List.getElem_mem hkx)).2
      have HN := Lib.hid (sum_take hkx)
      clear hs hlk
      generalize (xs.take k).sum = q at *
      go_wp2_with fail
      go_roundw
      case rel => exact ⟨k + 1, by omega, by go_num, by rw [HN.out], hq⟩
      case measure => simp [intOf]; omega
    · have e := HL.out
      have HT := Lib.hid (show xs.take k = xs from List.take_of_length_le (by omega))
      clear e
      go_wp2_with fail
      go_ret
      exact ⟨by rw [HT.out]; rfl, hq⟩

def GivesI (w : World) (e : Ending) (w' : World) : Prop := ∃ z : Int, e = .returned (.int .i64 z) ∧ Below w.heap.size w w'
theorem DrawClockText_any (A : Option Addr) (m c : Nat) (w : World) (h : CodeIn w A m) (hm : m ≤ 1000000) : Calls Tryz.prog 5 #[.slice A m c] w (GivesI w) := by
  have U : Below w.heap.size w ((w.alloc (.cells #[.slice A m c, .int .i64 0, .int .u64 0] 46)).alloc (.cells #[.int .i64 0, .int .i64 5, .int .i64 65, .int .i64 599, .int .i64 3599, .int .i64 3600, .int .i64 3605, .int .i64 35999, .int .i64 36000, .int .i64 (-1), .int .i64 36001] 3)) := ((Below.refl _ _).alloc (Nat.le_refl _) _).alloc (by simp) _
  have CC := cur_new (g := w.heap.size) h hm U (Nat.le_refl _) ((Blk.at_ rfl : Blk (w.alloc _) w.heap.size 46 [.slice A m c, .int .i64 0, .int .u64 0]).alloc _)
  have BL : Blk ((w.alloc (.cells #[.slice A m c, .int .i64 0, .int .u64 0] 46)).alloc (.cells #[.int .i64 0, .int .i64 5, .int .i64 65, .int .i64 599, .int .i64 3599, .int .i64 3600, .int .i64 3605, .int .i64 35999, .int .i64 36000, .int .i64 (-1), .int .i64 36001] 3)) (w.heap.size + 1) 3 (ints [0, 5, 65, 599, 3599, 3600, 3605, 35999, 36000, -1, 36001]) := Blk.at_ (by simp)
  go_enter Tryz.func5, Tryz.ntmps5
  go_wp2_with fail
  refine (among_any w.heap.size 0 (w.heap.size + 1) 11 _ [0, 5, 65, 599, 3599, 3600, 3605, 35999, 36000, -1, 36001] _ BL (by omega) CC (by decide) rfl (by decide) (by decide)).mono ?_
  rintro e w1 ⟨z, rfl, _, c1, o1⟩
  go_wp2_with fail
  go_ret
  exact ⟨z, rfl, U.trans (o1.below (fun b (hb : b = _) => by omega) (by simp; omega))⟩
def GivesS (w : World) (e : Ending) (w' : World) : Prop := ∃ s : ByteArray, e = .returned (.string s) ∧ s.size ≤ 9 ∧ Below w.heap.size w w'
theorem DrawParseClock_any (A : Option Addr) (m c : Nat) (w : World) (h : CodeIn w A m) (hm : m ≤ 1000000) : Calls Tryz.prog 9 #[.slice A m c] w (GivesS w) := by
  have U : Below w.heap.size w (w.alloc (.cells #[.slice A m c, .int .i64 0, .int .u64 0] 46)) := (Below.refl _ _).alloc (Nat.le_refl _) _
  have CC := cur_new h hm U (Nat.le_refl _) (Blk.at_ rfl)
  go_enter Tryz.func9, Tryz.ntmps9
  go_wp2_with fail
  refine (DrawClockText_any A m c _ (h.next U) hm).mono ?_
  rintro e w1 ⟨z, rfl, b1⟩
  have K1 := bel_then U b1
  have C1 := CC.next b1
  clear CC U b1 h
  go_wp2_with fail
  refine (specClockText_any z w1).mono ?_
  rintro e w2 ⟨rfl, b2⟩
  have K2 := bel_then K1 b2
  have C2 := C1.next b2
  have hs := clockText_size z
  clear C1 K1 b2
  generalize (clockText z).1 = T at *
  generalize (clockText z).2 = o at *
  go_wp2_with fail
  refine (one_any 2 w.heap.size 0 _ C2 (by decide) (by decide) (by decide)).mono ?_
  rintro e w3 ⟨yes, rfl, c3, o3⟩
  have K3 := K2.trans (o3.below (fun b (hb : b = _) => by omega) K2.size)
  clear C2 K2 o3
  cases yes
  · go_wp2_with fail
    go_ret
    exact ⟨T, rfl, by omega, K3⟩
  · go_wp2_with fail
    refine (spoilt_any T ⟨#[48, 58, 49, 54]⟩ w.heap.size _ _ c3 (by decide) (by omega) (by decide) (by decide)).mono ?_
    rintro e w4 ⟨s, rfl, hsz, c4, o4⟩
    have hs9 : s.size ≤ T.size + 1 := hsz
    go_wp2_with fail
    go_ret
    exact ⟨s, rfl, by omega, K3.trans (o4.below (fun b (hb : b = _) => by omega) K3.size)⟩

end Go.Proofs.YtbcblmbpjecilaaGreatDoor
