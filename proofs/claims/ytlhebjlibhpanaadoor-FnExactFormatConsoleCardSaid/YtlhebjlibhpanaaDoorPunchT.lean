/- The law's own helpers over punches and rows of a desk: printed by flat.py. -/
import Derived.Test.YtlhebjlibhpanaaDoorHelp1
namespace Go.Proofs.YtlhebjlibhpanaaDoor
open Go.RowKit

structure Punch where
  code : Int
  time : Int
deriving DecidableEq
def Punch.enc (x : Punch) : List Value := [.int .i64 x.code, .int .i64 x.time]
theorem info_impl_Punch : (Tryd.prog.info? 80).map (fun i => (i.zero, i.size, i.bytes)) = some (some (.agg #[.int .i64 0, .int .i64 0]), 2, 16) := by kernel_rfl
def Punch.mark (k : Int) : Punch := ⟨k, k + 1⟩

theorem toPunch_any (a0 a1 : Int) (w : World) : Calls Tryd.prog 82 #[.agg #[.int .i64 a0, .int .i64 a1]] w fun e w' => e = .returned (.agg #[.int .i64 a0, .int .i64 a1]) ∧ Below w.heap.size w w' := by
  go_enter Tryd.func82, Tryd.ntmps82
  go_wp2
  exact bodyPost_ret (v := .agg #[.int .i64 a0, .int .i64 a1]) (by simp [results, Tryd.results82, go_sem]) rfl ⟨rfl, (((Below.refl _ _).alloc (Nat.le_refl _) _).alloc (by simp) _).alloc (by simp; omega) _⟩

set_option maxRecDepth 100000 in
theorem toPunchS_any (A : Option Addr) (n c : Nat) (xs : List Punch) (w : World) (hx : Sees w 0 2 A n (xs.flatMap Punch.enc)) (hn : n ≤ 1048576) :
    Calls Tryd.prog 68 #[.slice A n c] w fun e w' => ∃ A', e = .returned (.slice A' n n) ∧ w'.ownsRow w.heap.size 80 2 (.slice A' n n) n (xs.flatMap Punch.enc) ∧ Below w.heap.size w w' := by
  have hl := hx.count (by decide) (fun _ => rfl)
  obtain ⟨zs, hzs, hmk⟩ := make_zeros (P := Tryd.prog) n Tryd.underlying52 info_impl_Punch (by omega) (by omega)
  go_enter Tryd.func68, Tryd.ntmps68
  go_wp2
  have hB := Blk.new w 80 zs
  have hb0 : Below w.heap.size w (w.alloc (.cells zs.toArray 80)) := (Below.refl _ _).alloc (Nat.le_refl _) _
  clear hmk
  go_loopw [4] (fun v wr => ∃ (k : Nat) (cs : List Value), k ≤ n ∧ v = .int .i64 k ∧ Blk wr w.heap.size 80 cs ∧ cs.length = n * 2 ∧ Upto Punch.enc 2 xs k cs ∧ Below w.heap.size w wr) (fun v _ => n - (intOf v).toNat)
  case atStart => exact ⟨0, zs, Nat.zero_le _, rfl, hB, hzs, Upto.zero (by rw [hzs, hl]; exact Nat.le_refl _), hb0⟩
  case round =>
    obtain ⟨k, cs, hk, rfl, hB, hcl, hu, hb⟩ := hrel
    by_cases hlt : k < n
    · obtain ⟨b, off, rfl, hkx, c0, c1⟩ := (hx.next hb).elem2 (fun _ => rfl) hlt
      go_wp2_with fail
      refine (toPunch_any _ _ _).mono ?_
      rintro e w1 ⟨rfl, hb1⟩
      have hB1 := hB.next hb1
      obtain ⟨v0, s0⟩ := hu.room hB1 hkx 0 (by decide)
      obtain ⟨v1, s1⟩ := hu.room hB1 hkx 1 (by decide)
      rw [Nat.add_zero] at s0
      have hf := hB1.frozen
      go_wp2
      go_roundw
      case rel => exact ⟨k + 1, _, by omega, by go_num, hB1.many (Punch.enc xs[k]) (k * 2), (setMany_length _ _ _).trans hcl, hu.step (fun _ => rfl) hkx, bel_many (Nat.le_refl _) (Punch.enc xs[k]) (bel_then hb hb1) (k * 2)⟩
      case measure => simp [intOf]; omega
    · go_wp2
      go_ret
      have hcs := hu.all (fun _ => rfl) (by omega)
      rw [hl] at hcs
      exact ⟨_, rfl, own_shut (Nat.le_refl _) hB hcl (Nat.le_refl _) (by simp only [maxLen]; omega) hcs, hb⟩

theorem eqPunch_any (a0 a1 : Int) (w : World) : Calls Tryd.prog 86 #[.agg #[.int .i64 a0, .int .i64 a1], .agg #[.int .i64 a0, .int .i64 a1]] w fun e w' => e = .returned (.bool true) ∧ Below w.heap.size w w' := by
  go_enter Tryd.func86, Tryd.ntmps86
  go_wp2
  go_ret
  exact ⟨rfl, ((Below.refl _ _).alloc (Nat.le_refl _) _).alloc (by simp) _⟩

set_option maxRecDepth 100000 in
theorem eqPunchS_any (A A' : Option Addr) (n n' c c' lo lo' : Nat) (xs ys : List Punch) (w : World) (hx : Sees w lo 2 A n (xs.flatMap Punch.enc)) (hy : Sees w lo' 2 A' n' (ys.flatMap Punch.enc)) (he : xs = ys) (hn : n ≤ 140737488355328) :
    Calls Tryd.prog 73 #[.slice A n c, .slice A' n' c'] w fun e w' => e = .returned (.bool true) ∧ Below w.heap.size w w' := by
  subst he
  have hl := hx.count (by decide) (fun _ => rfl)
  have hl' := hy.count (by decide) (fun _ => rfl)
  obtain rfl : n = n' := by omega
  go_enter Tryd.func73, Tryd.ntmps73
  go_wp2_with fail
  go_loopw [5] (fun v wr => ∃ k : Nat, k ≤ n ∧ v = .int .i64 k ∧ Below w.heap.size w wr) (fun v _ => n - (intOf v).toNat)
  case atStart => exact ⟨0, Nat.zero_le _, rfl, Below.refl _ _⟩
  case round =>
    obtain ⟨k, hk, rfl, hb⟩ := hrel
    by_cases hlt : k < n
    · obtain ⟨b, off, rfl, hkx, c0, c1⟩ := (hx.next hb).elem2 (fun _ => rfl) hlt
      obtain ⟨b', off', rfl, hky, d0, d1⟩ := (hy.next hb).elem2 (fun _ => rfl) hlt
      go_wp2_with fail
      refine wp_region_still_tail 8 (by kernel_rfl) (by kernel_rfl) ?_
      simp only [List.take_succ_cons, List.take_zero, List.drop_succ_cons, List.drop_zero]
      change wpStill _ _ wr.drew _ _ _
      repeat still_step
      refine wpStill_nil ?_
      change wpList _ _ _ _ _ wr.drew
      have hb' := bel_quiet hb (Quiet.one wr)
      generalize wr.drew = w2 at *
      go_wp2_with fail
      refine (eqPunch_any _ _ _).mono ?_
      rintro e w1 ⟨rfl, hb1⟩
      go_wp2
      go_roundw
      case rel => exact ⟨k + 1, by omega, by go_num, bel_then hb' hb1⟩
      case measure => simp [intOf]; omega
    · go_wp2
      go_ret
      exact ⟨rfl, hb⟩

structure DeskRow where
  number : Int
  missing : Int
  time : Int
deriving DecidableEq
def DeskRow.enc (x : DeskRow) : List Value := [.int .i64 x.number, .int .i64 x.missing, .int .i64 x.time]
def DeskRow.mark (k : Int) : DeskRow := ⟨k, k + 1, k + 1 + 1⟩

end Go.Proofs.YtlhebjlibhpanaaDoor
