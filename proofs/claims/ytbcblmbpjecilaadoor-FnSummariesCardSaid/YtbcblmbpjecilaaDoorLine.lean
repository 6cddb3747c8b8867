/- The law's own helpers over lines: printed by flats.py. -/
import Derived.Test.YtbcblmbpjecilaaDoorText
namespace Go.Proofs.YtbcblmbpjecilaaDoor
open Go.RowKit

structure ReportLine where
  name : ByteArray
  club : ByteArray
  status : Int
  time : Int
deriving DecidableEq
def ReportLine.enc (x : ReportLine) : List Value := [.string x.name, .string x.club, .int .i64 x.status, .int .i64 x.time]
/-- its strings are no longer than m -/
def ReportLine.upto (m : Nat) (x : ReportLine) : Prop := x.name.size ≤ m ∧ x.club.size ≤ m
theorem ReportLine.upto_mono {m n : Nat} {x : ReportLine} (h : x.upto m) (hm : m ≤ n) : x.upto n := by unfold ReportLine.upto at *; omega
theorem info_impl_ReportLine : (Tryd.prog.info? 42).map (fun i => (i.zero, i.size, i.bytes)) = some (some (.agg #[.string ⟨#[]⟩, .string ⟨#[]⟩, .int .i64 0, .int .i64 0]), 4, 48) := by kernel_rfl
def ReportLine.mark (k : Int) : ReportLine := ⟨markT (k), markT (k + 1), k + 1 + 1, k + 1 + 1 + 1⟩

theorem toReportLine_any (a0 : ByteArray) (a1 : ByteArray) (a2 : Int) (a3 : Int) (w : World) : Calls Tryd.prog 38 #[.agg #[.string a0, .string a1, .int .i64 a2, .int .i64 a3]] w fun e w' => e = .returned (.agg #[.string a0, .string a1, .int .i64 a2, .int .i64 a3]) ∧ Below w.heap.size w w' := by
  go_enter Tryd.func38, Tryd.ntmps38
  go_wp2
  exact bodyPost_ret (v := .agg #[.string a0, .string a1, .int .i64 a2, .int .i64 a3]) (by simp [results, Tryd.results38, go_sem]) rfl ⟨rfl, (((Below.refl _ _).alloc (Nat.le_refl _) _).alloc (by simp) _).alloc (by simp; omega) _⟩

set_option maxRecDepth 100000 in
theorem toReportLineS_any (A : Option Addr) (n c : Nat) (xs : List ReportLine) (w : World) (hx : Sees w 0 4 A n (xs.flatMap ReportLine.enc)) (hn : n ≤ 1048576) :
    Calls Tryd.prog 14 #[.slice A n c] w fun e w' => ∃ A', e = .returned (.slice A' n n) ∧ w'.ownsRow w.heap.size 42 4 (.slice A' n n) n (xs.flatMap ReportLine.enc) ∧ Below w.heap.size w w' := by
  have hl := hx.count (by decide) (fun _ => rfl)
  obtain ⟨zs, hzs, hmk⟩ := make_zeros (P := Tryd.prog) n Tryd.underlying31 info_impl_ReportLine (by omega) (by omega)
  go_enter Tryd.func14, Tryd.ntmps14
  go_wp2
  have hB := Blk.new w 42 zs
  have hb0 : Below w.heap.size w (w.alloc (.cells zs.toArray 42)) := (Below.refl _ _).alloc (Nat.le_refl _) _
  clear hmk
  go_loopw [4] (fun v wr => ∃ (k : Nat) (cs : List Value), k ≤ n ∧ v = .int .i64 k ∧ Blk wr w.heap.size 42 cs ∧ cs.length = n * 4 ∧ Upto ReportLine.enc 4 xs k cs ∧ Below w.heap.size w wr) (fun v _ => n - (intOf v).toNat)
  case atStart => exact ⟨0, zs, Nat.zero_le _, rfl, hB, hzs, Upto.zero (by rw [hzs, hl]; exact Nat.le_refl _), hb0⟩
  case round =>
    obtain ⟨k, cs, hk, rfl, hB, hcl, hu, hb⟩ := hrel
    by_cases hlt : k < n
    · obtain ⟨b, off, rfl, hkx, c0, c1, c2, c3⟩ := (hx.next hb).elem4 (fun _ => rfl) hlt
      go_wp2_with fail
      refine (toReportLine_any _ _ _ _ _).mono ?_
      rintro e w1 ⟨rfl, hb1⟩
      have hB1 := hB.next hb1
      obtain ⟨v0, s0⟩ := hu.room hB1 hkx 0 (by decide)
      obtain ⟨v1, s1⟩ := hu.room hB1 hkx 1 (by decide)
      obtain ⟨v2, s2⟩ := hu.room hB1 hkx 2 (by decide)
      obtain ⟨v3, s3⟩ := hu.room hB1 hkx 3 (by decide)
      rw [Nat.add_zero] at s0
      have hf := hB1.frozen
      go_wp2
      go_roundw
      case rel => exact ⟨k + 1, _, by omega, by go_num, hB1.many (ReportLine.enc xs[k]) (k * 4), (setMany_length _ _ _).trans hcl, hu.step (fun _ => rfl) hkx, bel_many (Nat.le_refl _) (ReportLine.enc xs[k]) (bel_then hb hb1) (k * 4)⟩
      case measure => simp [intOf]; omega
    · go_wp2
      go_ret
      have hcs := hu.all (fun _ => rfl) (by omega)
      rw [hl] at hcs
      exact ⟨_, rfl, own_shut (Nat.le_refl _) hB hcl (Nat.le_refl _) (by simp only [maxLen]; omega) hcs, hb⟩

theorem eqReportLine_any (a0 : ByteArray) (a1 : ByteArray) (a2 : Int) (a3 : Int) (w : World) : Calls Tryd.prog 42 #[.agg #[.string a0, .string a1, .int .i64 a2, .int .i64 a3], .agg #[.string a0, .string a1, .int .i64 a2, .int .i64 a3]] w fun e w' => e = .returned (.bool true) ∧ Below w.heap.size w w' := by
  go_enter Tryd.func42, Tryd.ntmps42
  go_wp2
  go_ret
  exact ⟨rfl, ((Below.refl _ _).alloc (Nat.le_refl _) _).alloc (by simp) _⟩

set_option maxRecDepth 100000 in
theorem eqReportLineS_any (A A' : Option Addr) (n n' c c' lo lo' : Nat) (xs ys : List ReportLine) (w : World) (hx : Sees w lo 4 A n (xs.flatMap ReportLine.enc)) (hy : Sees w lo' 4 A' n' (ys.flatMap ReportLine.enc)) (he : xs = ys) (hn : n ≤ 140737488355328) :
    Calls Tryd.prog 16 #[.slice A n c, .slice A' n' c'] w fun e w' => e = .returned (.bool true) ∧ Below w.heap.size w w' := by
  subst he
  have hl := hx.count (by decide) (fun _ => rfl)
  have hl' := hy.count (by decide) (fun _ => rfl)
  obtain rfl : n = n' := by omega
  go_enter Tryd.func16, Tryd.ntmps16
  go_wp2_with fail
  go_loopw [5] (fun v wr => ∃ k : Nat, k ≤ n ∧ v = .int .i64 k ∧ Below w.heap.size w wr) (fun v _ => n - (intOf v).toNat)
  case atStart => exact ⟨0, Nat.zero_le _, rfl, Below.refl _ _⟩
  case round =>
    obtain ⟨k, hk, rfl, hb⟩ := hrel
    by_cases hlt : k < n
    · obtain ⟨b, off, rfl, hkx, c0, c1, c2, c3⟩ := (hx.next hb).elem4 (fun _ => rfl) hlt
      obtain ⟨b', off', rfl, hky, d0, d1, d2, d3⟩ := (hy.next hb).elem4 (fun _ => rfl) hlt
      go_wp2_with fail
      refine wp_region_still_tail 8 (by kernel_rfl) (by kernel_rfl) ?_
      simp only [List.take_succ_cons, List.take_zero, List.drop_succ_cons, List.drop_zero]
      change wpStill _ _ wr.drew _ _ _
      repeat still_step
      refine wpStill_nil ?_
      change wpList _ _ _ _ _ wr.drew
      have hb' := bel_quiet hb (Quiet.one wr)
      generalize wr.drew = w2 at *
      go_wp2_with fail
      refine (eqReportLine_any _ _ _ _ _).mono ?_
      rintro e w1 ⟨rfl, hb1⟩
      go_wp2
      go_roundw
      case rel => exact ⟨k + 1, by omega, by go_num, bel_then hb' hb1⟩
      case measure => simp [intOf]; omega
    · go_wp2
      go_ret
      exact ⟨rfl, hb⟩

theorem szReportLine_any (x : ReportLine) (left : Int) (w : World) (hx : x.upto 9223372036854775807) (hl : 0 ≤ left) (hl' : left ≤ 1048576) :
    Calls Tryd.prog 34 #[.agg #[.string x.name, .string x.club, .int .i64 x.status, .int .i64 x.time], .int .i64 left] w fun e w' => ∃ l : Int, e = .returned (.int .i64 l) ∧ Below w.heap.size w w' ∧ (l = -1 ∨ 0 ≤ l ∧ l ≤ left ∧ x.upto 1048576) := by
  unfold ReportLine.upto at *
  go_enter Tryd.func34, Tryd.ntmps34
  go_wp2
  all_goals go_ret
  all_goals refine ⟨_, rfl, (Below.refl _ _).alloc (Nat.le_refl _) _, ?_⟩
  all_goals first | exact .inl rfl | (right; omega) | (right; simp only; omega)

set_option maxRecDepth 100000 in
theorem szReportLineS_any (A : Option Addr) (n c : Nat) (xs : List ReportLine) (left : Int) (w : World) (hx : Sees w 0 4 A n (xs.flatMap ReportLine.enc)) (hk : ∀ x ∈ xs, x.upto 9223372036854775807) (hn : n ≤ 9223372036854775807) (hl : 0 ≤ left) (hl' : left ≤ 1048576) :
    Calls Tryd.prog 12 #[.slice A n c, .int .i64 left] w fun e w' => ∃ l : Int, e = .returned (.int .i64 l) ∧ Below w.heap.size w w' ∧ (l = -1 ∨ 0 ≤ l ∧ l ≤ left ∧ (n : Int) ≤ left ∧ ∀ x ∈ xs, x.upto 1048576) := by
  have hc := hx.count (by decide) (fun _ => rfl)
  by_cases hlt : left - n < 0
  · go_enter Tryd.func12, Tryd.ntmps12
    go_wp2_with fail
    go_ret
    exact ⟨_, rfl, Below.refl _ _, .inl rfl⟩
  · go_enter Tryd.func12, Tryd.ntmps12
    go_wp2_with fail
    go_loopw [1, 5] (fun q v wr => ∃ (k : Nat) (l : Int), k ≤ n ∧ q = .int .i64 l ∧ v = .int .i64 k ∧ 0 ≤ l ∧ l ≤ left ∧ Hid (∀ x ∈ xs.take k, x.upto 1048576) ∧ Below w.heap.size w wr) (fun _ v _ => n - (intOf v).toNat)
    case atStart => exact ⟨0, _, Nat.zero_le _, rfl, rfl, by omega, by omega, Lib.hid (by simp), Below.refl _ _⟩
    case round =>
      obtain ⟨k, l, hk', rfl, rfl, hl0, hl1, ha, hb⟩ := hrel
      by_cases hlk : k < n
      · obtain ⟨b, off, rfl, hkx, c0, c1, c2, c3⟩ := (hx.next hb).elem4 (fun _ => rfl) hlk
        have hkk := Lib.hid (hk xs[k] (List.getElem_mem hkx))
        go_wp2_with fail
        refine (szReportLine_any xs[k] l _ hkk.out hl0 (by omega)).mono ?_
        rintro e w1 ⟨l1, rfl, b1, rfl | ⟨h1, h2, h3⟩⟩
        · go_wp2_with fail
          go_ret
          exact ⟨_, rfl, bel_then hb b1, .inl rfl⟩
        · have ha' := Lib.hid (show ∀ x ∈ xs.take (k + 1), x.upto 1048576 by
            intro x hm
            rw [List.take_succ_eq_append_getElem hkx] at hm
            rcases List.mem_append.1 hm with hm | hm
            · exact ha.out x hm
            · rw [List.mem_singleton.1 hm]; exact h3)
          clear h3 ha
          go_wp2_with fail
          go_roundw
          case rel => exact ⟨k + 1, l1, by omega, rfl, by go_num, h1, by omega, ha', bel_then hb b1⟩
          case measure => simp [intOf]; omega
      · have ha' := Lib.hid (show ∀ x ∈ xs, x.upto 1048576 by rw [← List.take_of_length_le (show xs.length ≤ k by omega)]; exact ha.out)
        clear ha
        go_wp2_with fail
        go_ret
        exact ⟨_, rfl, hb, .inr ⟨hl0, by omega, by omega, ha'.out⟩⟩

end Go.Proofs.YtbcblmbpjecilaaDoor
