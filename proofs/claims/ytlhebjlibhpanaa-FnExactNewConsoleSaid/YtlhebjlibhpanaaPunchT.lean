/- The law's own helpers over punches and rows of a desk: printed by flat.py. -/
import Derived.Test.YtlhebjlibhpanaaHelp1
namespace Go.Proofs.Ytlhebjlibhpanaa
open Go.RowKit

structure Punch where
  code : Int
  time : Int
deriving DecidableEq
def Punch.enc (x : Punch) : List Value := [.int .i64 x.code, .int .i64 x.time]
theorem info_impl_Punch : (Try.prog.info? 51).map (fun i => (i.zero, i.size, i.bytes)) = some (some (.agg #[.int .i64 0, .int .i64 0]), 2, 16) := by kernel_rfl
def Punch.mark (k : Int) : Punch := ⟨k, k + 1⟩

theorem eqPunch_any (a0 a1 : Int) (w : World) : Calls Try.prog 25 #[.agg #[.int .i64 a0, .int .i64 a1], .agg #[.int .i64 a0, .int .i64 a1]] w fun e w' => e = .returned (.bool true) ∧ Below w.heap.size w w' := by
  go_enter Try.func25, Try.ntmps25
  go_wp2
  go_ret
  exact ⟨rfl, ((Below.refl _ _).alloc (Nat.le_refl _) _).alloc (by simp) _⟩

set_option maxRecDepth 100000 in
theorem eqPunchS_any (A A' : Option Addr) (n n' c c' lo lo' : Nat) (xs ys : List Punch) (w : World) (hx : Sees w lo 2 A n (xs.flatMap Punch.enc)) (hy : Sees w lo' 2 A' n' (ys.flatMap Punch.enc)) (he : xs = ys) (hn : n ≤ 140737488355328) :
    Calls Try.prog 24 #[.slice A n c, .slice A' n' c'] w fun e w' => e = .returned (.bool true) ∧ Below w.heap.size w w' := by
  subst he
  have hl := hx.count (by decide) (fun _ => rfl)
  have hl' := hy.count (by decide) (fun _ => rfl)
  obtain rfl : n = n' := by omega
  go_enter Try.func24, Try.ntmps24
  go_wp2_with fail
  go_loopw [5] (fun v wr => ∃ k : Nat, k ≤ n ∧ v = .int .i64 k ∧ Below w.heap.size w wr) (fun v _ => n - (intOf v).toNat)
  case atStart => exact ⟨0, Nat.zero_le _, rfl, Below.refl _ _⟩
  case round =>
    obtain ⟨k, hk, rfl, hb⟩ := hrel
    by_cases hlt : k < n
    · obtain ⟨b, off, rfl, hkx, c0, c1⟩ := (hx.next hb).elem2 (fun _ => rfl) hlt
      obtain ⟨b', off', rfl, hky, d0, d1⟩ := (hy.next hb).elem2 (fun _ => rfl) hlt
      go_wp2_with fail
      refine wp_region_still_tail 8 (by kernel_rfl) (by kernel_rfl) ?_
      simp only [List.take_succ_cons, List.take_zero, List.drop_succ_cons, List.drop_zero]
      change wpStill _ _ wr.drew _ _ _
      repeat still_step
      refine wpStill_nil ?_
      change wpList _ _ _ _ _ wr.drew
      have hb' := bel_quiet hb (Quiet.one wr)
      generalize wr.drew = w2 at *
      go_wp2_with fail
      refine (eqPunch_any _ _ _).mono ?_
      rintro e w1 ⟨rfl, hb1⟩
      go_wp2
      go_roundw
      case rel => exact ⟨k + 1, by omega, by go_num, bel_then hb' hb1⟩
      case measure => simp [intOf]; omega
    · go_wp2
      go_ret
      exact ⟨rfl, hb⟩

set_option maxRecDepth 100000 in
theorem markPunchS_any (S : Nat → Prop) (t n c : Nat) (A : Option Addr) (xs : List Punch) (k0 : Int) (w : World) (hM : Mine w S t 2 A n c (xs.flatMap Punch.enc)) (h0 : 0 ≤ k0) (h1 : k0 ≤ 1000000000000) (hn : n ≤ 140737488355328) :
    Calls Try.prog 21 #[.slice A n c, .int .i64 k0] w fun e w' => e = .returned (.int .i64 (k0 + n * 2)) ∧ Mine w' S t 2 A n c ((marksOf Punch.mark 2 k0 n).flatMap Punch.enc) ∧ Only S w w' := by
  obtain ⟨hown, htop⟩ := hM
  rcases own_open hown with ⟨rfl, rfl, rfl, hxs⟩ | ⟨g, cur, rfl, hg, hB, hcl, hnc, hcm, htk⟩
  · go_enter Try.func21, Try.ntmps21
    go_wp2
    refine wp_loop_rounds 1 ?_
    rw [rounds_succ]
    go_wp2
    go_ret
    exact ⟨by simp, ⟨World.ownsRow_nil _ _ _ _, htop⟩, Only.refl _ _⟩
  · have hS : S g := htop g rfl
    have hcl' : n * 2 ≤ cur.length := by omega
    clear hown htk
    go_enter Try.func21, Try.ntmps21
    go_wp2
    go_loopw [1, 5] (fun q v wr => ∃ (k : Nat) (cs : List Value), k ≤ n ∧ q = .int .i64 (k0 + k * 2) ∧ v = .int .i64 k ∧ Blk wr g t cs ∧ cs.length = c * 2 ∧ Upto Punch.enc 2 (marksOf Punch.mark 2 k0 n) k cs ∧ Only S w wr) (fun _ v _ => n - (intOf v).toNat)
    case atStart => exact ⟨0, _, Nat.zero_le _, by simp, rfl, hB, hcl, Upto.zero (by rw [marksOf_length]; exact hcl'), Only.refl _ _⟩
    case round =>
      obtain ⟨k, cs, hk, rfl, rfl, hB, hcl, hu, ho⟩ := hrel
      by_cases hlt : k < n
      · have hkx : k < (marksOf Punch.mark 2 k0 n).length := by rw [marksOf_length]; omega
        obtain ⟨v0, s0⟩ := hu.room hB hkx 0 (by decide)
        obtain ⟨v1, s1⟩ := hu.room hB hkx 1 (by decide)
        rw [Nat.add_zero] at s0
        have hf := hB.frozen
        go_wp2
        go_roundw
        case rel => exact ⟨k + 1, _, by omega, by go_num, by go_num, hB.many (Punch.enc (Punch.mark (k0 + k * 2))) (k * 2), (setMany_length _ _ _).trans hcl, by have h := hu.step (fun _ => rfl) hkx; rw [marksOf_get] at h; exact h, Only.many hS (Punch.enc (Punch.mark (k0 + k * 2))) ho (k * 2)⟩
        case measure => simp [intOf]; omega
      · go_wp2
        go_ret
        obtain rfl : k = n := by omega
        have hcs := hu.all (fun _ => rfl) (by rw [marksOf_length])
        rw [marksOf_length] at hcs
        exact ⟨rfl, ⟨own_shut hg hB hcl hnc hcm hcs, htop⟩, ho⟩

set_option maxRecDepth 100000 in
theorem heldPunchS_any (lo n c : Nat) (A : Option Addr) (k0 : Int) (w : World) (hx : Sees w lo 2 A n ((marksOf Punch.mark 2 k0 n).flatMap Punch.enc)) (h0 : 0 ≤ k0) (h1 : k0 ≤ 1000000000000) (hn : n ≤ 140737488355328) :
    Calls Try.prog 22 #[.slice A n c, .int .i64 k0] w fun e w' => e = .returned (.int .i64 (k0 + n * 2)) ∧ Quiet w w' := by
  go_enter Try.func22, Try.ntmps22
  go_wp2
  go_loopw [1, 5] (fun q v wr => ∃ k : Nat, k ≤ n ∧ q = .int .i64 (k0 + k * 2) ∧ v = .int .i64 k ∧ Quiet w wr) (fun _ v _ => n - (intOf v).toNat)
  case atStart => exact ⟨0, Nat.zero_le _, by simp, rfl, Quiet.refl _⟩
  case round =>
    obtain ⟨k, hk, rfl, rfl, hq⟩ := hrel
    by_cases hlt : k < n
    · obtain ⟨b, off, rfl, hkx, c0, c1⟩ := (hx.quiet hq).elem2 (fun _ => rfl) hlt
      rw [marksOf_get] at c0 c1
      simp only [Punch.mark] at c0 c1
      go_wp2
      go_roundw
      case rel => exact ⟨k + 1, by omega, by go_num, by go_num, hq⟩
      case measure => simp [intOf]; omega
    · go_wp2
      go_ret
      obtain rfl : k = n := by omega
      exact ⟨rfl, hq⟩

structure DeskRow where
  number : Int
  missing : Int
  time : Int
deriving DecidableEq
def DeskRow.enc (x : DeskRow) : List Value := [.int .i64 x.number, .int .i64 x.missing, .int .i64 x.time]
def DeskRow.mark (k : Int) : DeskRow := ⟨k, k + 1, k + 1 + 1⟩

end Go.Proofs.Ytlhebjlibhpanaa
