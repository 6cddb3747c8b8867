/- The law's own helpers over []Missing, []Sector: printed by flat.py. -/
import Derived.Test.YtjcmlloglnkbfaaHelp1
namespace Go.Proofs.Ytjcmlloglnkbfaa
open Go.RowKit

structure Missing where
  runner : Int
  start : Int
  seen : Int
  place : Int
deriving DecidableEq
def Missing.enc (x : Missing) : List Value := [.int .i64 x.runner, .int .i64 x.start, .int .i64 x.seen, .int .i64 x.place]
theorem info_impl_Missing : (Try.prog.info? 31).map (fun i => (i.zero, i.size, i.bytes)) = some (some (.agg #[.int .i64 0, .int .i64 0, .int .i64 0, .int .i64 0]), 4, 32) := by kernel_rfl
def Missing.mark (k : Int) : Missing := ⟨k, k + 1, k + 1 + 1, k + 1 + 1 + 1⟩

theorem toMissing_any (a0 a1 a2 a3 : Int) (w : World) : Calls Try.prog 16 #[.agg #[.int .i64 a0, .int .i64 a1, .int .i64 a2, .int .i64 a3]] w fun e w' => e = .returned (.agg #[.int .i64 a0, .int .i64 a1, .int .i64 a2, .int .i64 a3]) ∧ Below w.heap.size w w' := by
  go_enter Try.func16, Try.ntmps16
  go_wp2
  exact bodyPost_ret (v := .agg #[.int .i64 a0, .int .i64 a1, .int .i64 a2, .int .i64 a3]) (by simp [results, Try.results16, go_sem]) rfl ⟨rfl, (((Below.refl _ _).alloc (Nat.le_refl _) _).alloc (by simp) _).alloc (by simp; omega) _⟩

set_option maxRecDepth 100000 in
theorem toMissingS_any (A : Option Addr) (n c : Nat) (xs : List Missing) (w : World) (hx : Sees w 0 4 A n (xs.flatMap Missing.enc)) (hn : n ≤ 1048576) :
    Calls Try.prog 28 #[.slice A n c] w fun e w' => ∃ A', e = .returned (.slice A' n n) ∧ w'.ownsRow w.heap.size 31 4 (.slice A' n n) n (xs.flatMap Missing.enc) ∧ Below w.heap.size w w' := by
  have hl := hx.count (by decide) (fun _ => rfl)
  obtain ⟨zs, hzs, hmk⟩ := make_zeros (P := Try.prog) n Try.underlying48 info_impl_Missing (by omega) (by omega)
  go_enter Try.func28, Try.ntmps28
  go_wp2
  have hB := Blk.new w 31 zs
  have hb0 : Below w.heap.size w (w.alloc (.cells zs.toArray 31)) := (Below.refl _ _).alloc (Nat.le_refl _) _
  clear hmk
  go_loopw [4] (fun v wr => ∃ (k : Nat) (cs : List Value), k ≤ n ∧ v = .int .i64 k ∧ Blk wr w.heap.size 31 cs ∧ cs.length = n * 4 ∧ Upto Missing.enc 4 xs k cs ∧ Below w.heap.size w wr) (fun v _ => n - (intOf v).toNat)
  case atStart => exact ⟨0, zs, Nat.zero_le _, rfl, hB, hzs, Upto.zero (by rw [hzs, hl]; exact Nat.le_refl _), hb0⟩
  case round =>
    obtain ⟨k, cs, hk, rfl, hB, hcl, hu, hb⟩ := hrel
    by_cases hlt : k < n
    · obtain ⟨b, off, rfl, hkx, c0, c1, c2, c3⟩ := (hx.next hb).elem4 (fun _ => rfl) hlt
      go_wp2_with fail
      refine (toMissing_any _ _ _ _ _).mono ?_
      rintro e w1 ⟨rfl, hb1⟩
      have hB1 := hB.next hb1
      obtain ⟨v0, s0⟩ := hu.room hB1 hkx 0 (by decide)
      obtain ⟨v1, s1⟩ := hu.room hB1 hkx 1 (by decide)
      obtain ⟨v2, s2⟩ := hu.room hB1 hkx 2 (by decide)
      obtain ⟨v3, s3⟩ := hu.room hB1 hkx 3 (by decide)
      rw [Nat.add_zero] at s0
      have hf := hB1.frozen
      go_wp2
      go_roundw
      case rel => exact ⟨k + 1, _, by omega, by go_num, hB1.many (Missing.enc xs[k]) (k * 4), (setMany_length _ _ _).trans hcl, hu.step (fun _ => rfl) hkx, bel_many (Nat.le_refl _) (Missing.enc xs[k]) (bel_then hb hb1) (k * 4)⟩
      case measure => simp [intOf]; omega
    · go_wp2
      go_ret
      have hcs := hu.all (fun _ => rfl) (by omega)
      rw [hl] at hcs
      exact ⟨_, rfl, own_shut (Nat.le_refl _) hB hcl (Nat.le_refl _) (by simp only [maxLen]; omega) hcs, hb⟩

theorem eqMissing_any (a0 a1 a2 a3 : Int) (w : World) : Calls Try.prog 74 #[.agg #[.int .i64 a0, .int .i64 a1, .int .i64 a2, .int .i64 a3], .agg #[.int .i64 a0, .int .i64 a1, .int .i64 a2, .int .i64 a3]] w fun e w' => e = .returned (.bool true) ∧ Below w.heap.size w w' := by
  go_enter Try.func74, Try.ntmps74
  go_wp2
  go_ret
  exact ⟨rfl, ((Below.refl _ _).alloc (Nat.le_refl _) _).alloc (by simp) _⟩

set_option maxRecDepth 100000 in
theorem eqMissingS_any (A A' : Option Addr) (n n' c c' lo lo' : Nat) (xs ys : List Missing) (w : World) (hx : Sees w lo 4 A n (xs.flatMap Missing.enc)) (hy : Sees w lo' 4 A' n' (ys.flatMap Missing.enc)) (he : xs = ys) (hn : n ≤ 140737488355328) :
    Calls Try.prog 31 #[.slice A n c, .slice A' n' c'] w fun e w' => e = .returned (.bool true) ∧ Below w.heap.size w w' := by
  subst he
  have hl := hx.count (by decide) (fun _ => rfl)
  have hl' := hy.count (by decide) (fun _ => rfl)
  obtain rfl : n = n' := by omega
  go_enter Try.func31, Try.ntmps31
  go_wp2_with fail
  go_loopw [5] (fun v wr => ∃ k : Nat, k ≤ n ∧ v = .int .i64 k ∧ Below w.heap.size w wr) (fun v _ => n - (intOf v).toNat)
  case atStart => exact ⟨0, Nat.zero_le _, rfl, Below.refl _ _⟩
  case round =>
    obtain ⟨k, hk, rfl, hb⟩ := hrel
    by_cases hlt : k < n
    · obtain ⟨b, off, rfl, hkx, c0, c1, c2, c3⟩ := (hx.next hb).elem4 (fun _ => rfl) hlt
      obtain ⟨b', off', rfl, hky, d0, d1, d2, d3⟩ := (hy.next hb).elem4 (fun _ => rfl) hlt
      go_wp2_with fail
      refine wp_region_still_tail 8 (by kernel_rfl) (by kernel_rfl) ?_
      simp only [List.take_succ_cons, List.take_zero, List.drop_succ_cons, List.drop_zero]
      change wpStill _ _ wr.drew _ _ _
      repeat still_step
      refine wpStill_nil ?_
      change wpList _ _ _ _ _ wr.drew
      have hb' := bel_quiet hb (Quiet.one wr)
      generalize wr.drew = w2 at *
      go_wp2_with fail
      refine (eqMissing_any _ _ _ _ _).mono ?_
      rintro e w1 ⟨rfl, hb1⟩
      go_wp2
      go_roundw
      case rel => exact ⟨k + 1, by omega, by go_num, bel_then hb' hb1⟩
      case measure => simp [intOf]; omega
    · go_wp2
      go_ret
      exact ⟨rfl, hb⟩

set_option maxRecDepth 100000 in
theorem markMissingS_any (S : Nat → Prop) (t n c : Nat) (A : Option Addr) (xs : List Missing) (k0 : Int) (w : World) (hM : Mine w S t 4 A n c (xs.flatMap Missing.enc)) (h0 : 0 ≤ k0) (h1 : k0 ≤ 1000000000000) (hn : n ≤ 140737488355328) :
    Calls Try.prog 32 #[.slice A n c, .int .i64 k0] w fun e w' => e = .returned (.int .i64 (k0 + n * 4)) ∧ Mine w' S t 4 A n c ((marksOf Missing.mark 4 k0 n).flatMap Missing.enc) ∧ Only S w w' := by
  obtain ⟨hown, htop⟩ := hM
  rcases own_open hown with ⟨rfl, rfl, rfl, hxs⟩ | ⟨g, cur, rfl, hg, hB, hcl, hnc, hcm, htk⟩
  · go_enter Try.func32, Try.ntmps32
    go_wp2
    refine wp_loop_rounds 1 ?_
    rw [rounds_succ]
    go_wp2
    go_ret
    exact ⟨by simp, ⟨World.ownsRow_nil _ _ _ _, htop⟩, Only.refl _ _⟩
  · have hS : S g := htop g rfl
    have hcl' : n * 4 ≤ cur.length := by omega
    clear hown htk
    go_enter Try.func32, Try.ntmps32
    go_wp2
    go_loopw [1, 5] (fun q v wr => ∃ (k : Nat) (cs : List Value), k ≤ n ∧ q = .int .i64 (k0 + k * 4) ∧ v = .int .i64 k ∧ Blk wr g t cs ∧ cs.length = c * 4 ∧ Upto Missing.enc 4 (marksOf Missing.mark 4 k0 n) k cs ∧ Only S w wr) (fun _ v _ => n - (intOf v).toNat)
    case atStart => exact ⟨0, _, Nat.zero_le _, by simp, rfl, hB, hcl, Upto.zero (by rw [marksOf_length]; exact hcl'), Only.refl _ _⟩
    case round =>
      obtain ⟨k, cs, hk, rfl, rfl, hB, hcl, hu, ho⟩ := hrel
      by_cases hlt : k < n
      · have hkx : k < (marksOf Missing.mark 4 k0 n).length := by rw [marksOf_length]; omega
        obtain ⟨v0, s0⟩ := hu.room hB hkx 0 (by decide)
        obtain ⟨v1, s1⟩ := hu.room hB hkx 1 (by decide)
        obtain ⟨v2, s2⟩ := hu.room hB hkx 2 (by decide)
        obtain ⟨v3, s3⟩ := hu.room hB hkx 3 (by decide)
        rw [Nat.add_zero] at s0
        have hf := hB.frozen
        go_wp2
        go_roundw
        case rel => exact ⟨k + 1, _, by omega, by go_num, by go_num, hB.many (Missing.enc (Missing.mark (k0 + k * 4))) (k * 4), (setMany_length _ _ _).trans hcl, by have h := hu.step (fun _ => rfl) hkx; rw [marksOf_get] at h; exact h, Only.many hS (Missing.enc (Missing.mark (k0 + k * 4))) ho (k * 4)⟩
        case measure => simp [intOf]; omega
      · go_wp2
        go_ret
        obtain rfl : k = n := by omega
        have hcs := hu.all (fun _ => rfl) (by rw [marksOf_length])
        rw [marksOf_length] at hcs
        exact ⟨rfl, ⟨own_shut hg hB hcl hnc hcm hcs, htop⟩, ho⟩

theorem szMissingS_any (A : Option Addr) (n c : Nat) (left : Int) (w : World) (hn : n ≤ 9223372036854775807) (hl : 0 ≤ left) (hl' : left ≤ 1048576) :
    Calls Try.prog 26 #[.slice A n c, .int .i64 left] w fun e w' => ∃ l : Int, e = .returned (.int .i64 l) ∧ w = w' ∧ (l = -1 ∨ 0 ≤ l ∧ l ≤ left ∧ (n : Int) ≤ left) := by
  by_cases hlt : left - n < 0
  · go_enter Try.func26, Try.ntmps26
    go_wp2
    go_ret
    exact ⟨_, rfl, rfl, .inl rfl⟩
  · go_enter Try.func26, Try.ntmps26
    go_wp2
    go_ret
    exact ⟨_, rfl, rfl, .inr ⟨by omega, by omega, by omega⟩⟩

structure Sector where
  cell : Int
  chance : Int
deriving DecidableEq
def Sector.enc (x : Sector) : List Value := [.int .i64 x.cell, .int .i64 x.chance]
theorem info_impl_Sector : (Try.prog.info? 77).map (fun i => (i.zero, i.size, i.bytes)) = some (some (.agg #[.int .i64 0, .int .i64 0]), 2, 16) := by kernel_rfl
def Sector.mark (k : Int) : Sector := ⟨k, k + 1⟩

theorem toSector_any (a0 a1 : Int) (w : World) : Calls Try.prog 65 #[.agg #[.int .i64 a0, .int .i64 a1]] w fun e w' => e = .returned (.agg #[.int .i64 a0, .int .i64 a1]) ∧ Below w.heap.size w w' := by
  go_enter Try.func65, Try.ntmps65
  go_wp2
  exact bodyPost_ret (v := .agg #[.int .i64 a0, .int .i64 a1]) (by simp [results, Try.results65, go_sem]) rfl ⟨rfl, (((Below.refl _ _).alloc (Nat.le_refl _) _).alloc (by simp) _).alloc (by simp; omega) _⟩

set_option maxRecDepth 100000 in
theorem toSectorS_any (A : Option Addr) (n c : Nat) (xs : List Sector) (w : World) (hx : Sees w 0 2 A n (xs.flatMap Sector.enc)) (hn : n ≤ 1048576) :
    Calls Try.prog 21 #[.slice A n c] w fun e w' => ∃ A', e = .returned (.slice A' n n) ∧ w'.ownsRow w.heap.size 77 2 (.slice A' n n) n (xs.flatMap Sector.enc) ∧ Below w.heap.size w w' := by
  have hl := hx.count (by decide) (fun _ => rfl)
  obtain ⟨zs, hzs, hmk⟩ := make_zeros (P := Try.prog) n Try.underlying37 info_impl_Sector (by omega) (by omega)
  go_enter Try.func21, Try.ntmps21
  go_wp2
  have hB := Blk.new w 77 zs
  have hb0 : Below w.heap.size w (w.alloc (.cells zs.toArray 77)) := (Below.refl _ _).alloc (Nat.le_refl _) _
  clear hmk
  go_loopw [4] (fun v wr => ∃ (k : Nat) (cs : List Value), k ≤ n ∧ v = .int .i64 k ∧ Blk wr w.heap.size 77 cs ∧ cs.length = n * 2 ∧ Upto Sector.enc 2 xs k cs ∧ Below w.heap.size w wr) (fun v _ => n - (intOf v).toNat)
  case atStart => exact ⟨0, zs, Nat.zero_le _, rfl, hB, hzs, Upto.zero (by rw [hzs, hl]; exact Nat.le_refl _), hb0⟩
  case round =>
    obtain ⟨k, cs, hk, rfl, hB, hcl, hu, hb⟩ := hrel
    by_cases hlt : k < n
    · obtain ⟨b, off, rfl, hkx, c0, c1⟩ := (hx.next hb).elem2 (fun _ => rfl) hlt
      go_wp2_with fail
      refine (toSector_any _ _ _).mono ?_
      rintro e w1 ⟨rfl, hb1⟩
      have hB1 := hB.next hb1
      obtain ⟨v0, s0⟩ := hu.room hB1 hkx 0 (by decide)
      obtain ⟨v1, s1⟩ := hu.room hB1 hkx 1 (by decide)
      rw [Nat.add_zero] at s0
      have hf := hB1.frozen
      go_wp2
      go_roundw
      case rel => exact ⟨k + 1, _, by omega, by go_num, hB1.many (Sector.enc xs[k]) (k * 2), (setMany_length _ _ _).trans hcl, hu.step (fun _ => rfl) hkx, bel_many (Nat.le_refl _) (Sector.enc xs[k]) (bel_then hb hb1) (k * 2)⟩
      case measure => simp [intOf]; omega
    · go_wp2
      go_ret
      have hcs := hu.all (fun _ => rfl) (by omega)
      rw [hl] at hcs
      exact ⟨_, rfl, own_shut (Nat.le_refl _) hB hcl (Nat.le_refl _) (by simp only [maxLen]; omega) hcs, hb⟩

theorem eqSector_any (a0 a1 : Int) (w : World) : Calls Try.prog 70 #[.agg #[.int .i64 a0, .int .i64 a1], .agg #[.int .i64 a0, .int .i64 a1]] w fun e w' => e = .returned (.bool true) ∧ Below w.heap.size w w' := by
  go_enter Try.func70, Try.ntmps70
  go_wp2
  go_ret
  exact ⟨rfl, ((Below.refl _ _).alloc (Nat.le_refl _) _).alloc (by simp) _⟩

set_option maxRecDepth 100000 in
theorem eqSectorS_any (A A' : Option Addr) (n n' c c' lo lo' : Nat) (xs ys : List Sector) (w : World) (hx : Sees w lo 2 A n (xs.flatMap Sector.enc)) (hy : Sees w lo' 2 A' n' (ys.flatMap Sector.enc)) (he : xs = ys) (hn : n ≤ 140737488355328) :
    Calls Try.prog 23 #[.slice A n c, .slice A' n' c'] w fun e w' => e = .returned (.bool true) ∧ Below w.heap.size w w' := by
  subst he
  have hl := hx.count (by decide) (fun _ => rfl)
  have hl' := hy.count (by decide) (fun _ => rfl)
  obtain rfl : n = n' := by omega
  go_enter Try.func23, Try.ntmps23
  go_wp2_with fail
  go_loopw [5] (fun v wr => ∃ k : Nat, k ≤ n ∧ v = .int .i64 k ∧ Below w.heap.size w wr) (fun v _ => n - (intOf v).toNat)
  case atStart => exact ⟨0, Nat.zero_le _, rfl, Below.refl _ _⟩
  case round =>
    obtain ⟨k, hk, rfl, hb⟩ := hrel
    by_cases hlt : k < n
    · obtain ⟨b, off, rfl, hkx, c0, c1⟩ := (hx.next hb).elem2 (fun _ => rfl) hlt
      obtain ⟨b', off', rfl, hky, d0, d1⟩ := (hy.next hb).elem2 (fun _ => rfl) hlt
      go_wp2_with fail
      refine wp_region_still_tail 8 (by kernel_rfl) (by kernel_rfl) ?_
      simp only [List.take_succ_cons, List.take_zero, List.drop_succ_cons, List.drop_zero]
      change wpStill _ _ wr.drew _ _ _
      repeat still_step
      refine wpStill_nil ?_
      change wpList _ _ _ _ _ wr.drew
      have hb' := bel_quiet hb (Quiet.one wr)
      generalize wr.drew = w2 at *
      go_wp2_with fail
      refine (eqSector_any _ _ _).mono ?_
      rintro e w1 ⟨rfl, hb1⟩
      go_wp2
      go_roundw
      case rel => exact ⟨k + 1, by omega, by go_num, bel_then hb' hb1⟩
      case measure => simp [intOf]; omega
    · go_wp2
      go_ret
      exact ⟨rfl, hb⟩

set_option maxRecDepth 100000 in
theorem markSectorS_any (S : Nat → Prop) (t n c : Nat) (A : Option Addr) (xs : List Sector) (k0 : Int) (w : World) (hM : Mine w S t 2 A n c (xs.flatMap Sector.enc)) (h0 : 0 ≤ k0) (h1 : k0 ≤ 1000000000000) (hn : n ≤ 140737488355328) :
    Calls Try.prog 24 #[.slice A n c, .int .i64 k0] w fun e w' => e = .returned (.int .i64 (k0 + n * 2)) ∧ Mine w' S t 2 A n c ((marksOf Sector.mark 2 k0 n).flatMap Sector.enc) ∧ Only S w w' := by
  obtain ⟨hown, htop⟩ := hM
  rcases own_open hown with ⟨rfl, rfl, rfl, hxs⟩ | ⟨g, cur, rfl, hg, hB, hcl, hnc, hcm, htk⟩
  · go_enter Try.func24, Try.ntmps24
    go_wp2
    refine wp_loop_rounds 1 ?_
    rw [rounds_succ]
    go_wp2
    go_ret
    exact ⟨by simp, ⟨World.ownsRow_nil _ _ _ _, htop⟩, Only.refl _ _⟩
  · have hS : S g := htop g rfl
    have hcl' : n * 2 ≤ cur.length := by omega
    clear hown htk
    go_enter Try.func24, Try.ntmps24
    go_wp2
    go_loopw [1, 5] (fun q v wr => ∃ (k : Nat) (cs : List Value), k ≤ n ∧ q = .int .i64 (k0 + k * 2) ∧ v = .int .i64 k ∧ Blk wr g t cs ∧ cs.length = c * 2 ∧ Upto Sector.enc 2 (marksOf Sector.mark 2 k0 n) k cs ∧ Only S w wr) (fun _ v _ => n - (intOf v).toNat)
    case atStart => exact ⟨0, _, Nat.zero_le _, by simp, rfl, hB, hcl, Upto.zero (by rw [marksOf_length]; exact hcl'), Only.refl _ _⟩
    case round =>
      obtain ⟨k, cs, hk, rfl, rfl, hB, hcl, hu, ho⟩ := hrel
      by_cases hlt : k < n
      · have hkx : k < (marksOf Sector.mark 2 k0 n).length := by rw [marksOf_length]; omega
        obtain ⟨v0, s0⟩ := hu.room hB hkx 0 (by decide)
        obtain ⟨v1, s1⟩ := hu.room hB hkx 1 (by decide)
        rw [Nat.add_zero] at s0
        have hf := hB.frozen
        go_wp2
        go_roundw
        case rel => exact ⟨k + 1, _, by omega, by go_num, by go_num, hB.many (Sector.enc (Sector.mark (k0 + k * 2))) (k * 2), (setMany_length _ _ _).trans hcl, by have h := hu.step (fun _ => rfl) hkx; rw [marksOf_get] at h; exact h, Only.many hS (Sector.enc (Sector.mark (k0 + k * 2))) ho (k * 2)⟩
        case measure => simp [intOf]; omega
      · go_wp2
        go_ret
        obtain rfl : k = n := by omega
        have hcs := hu.all (fun _ => rfl) (by rw [marksOf_length])
        rw [marksOf_length] at hcs
        exact ⟨rfl, ⟨own_shut hg hB hcl hnc hcm hcs, htop⟩, ho⟩

set_option maxRecDepth 100000 in
theorem heldSectorS_any (lo n c : Nat) (A : Option Addr) (k0 : Int) (w : World) (hx : Sees w lo 2 A n ((marksOf Sector.mark 2 k0 n).flatMap Sector.enc)) (h0 : 0 ≤ k0) (h1 : k0 ≤ 1000000000000) (hn : n ≤ 140737488355328) :
    Calls Try.prog 25 #[.slice A n c, .int .i64 k0] w fun e w' => e = .returned (.int .i64 (k0 + n * 2)) ∧ Quiet w w' := by
  go_enter Try.func25, Try.ntmps25
  go_wp2
  go_loopw [1, 5] (fun q v wr => ∃ k : Nat, k ≤ n ∧ q = .int .i64 (k0 + k * 2) ∧ v = .int .i64 k ∧ Quiet w wr) (fun _ v _ => n - (intOf v).toNat)
  case atStart => exact ⟨0, Nat.zero_le _, by simp, rfl, Quiet.refl _⟩
  case round =>
    obtain ⟨k, hk, rfl, rfl, hq⟩ := hrel
    by_cases hlt : k < n
    · obtain ⟨b, off, rfl, hkx, c0, c1⟩ := (hx.quiet hq).elem2 (fun _ => rfl) hlt
      rw [marksOf_get] at c0 c1
      simp only [Sector.mark] at c0 c1
      go_wp2
      go_roundw
      case rel => exact ⟨k + 1, by omega, by go_num, by go_num, hq⟩
      case measure => simp [intOf]; omega
    · go_wp2
      go_ret
      obtain rfl : k = n := by omega
      exact ⟨rfl, hq⟩

theorem szSectorS_any (A : Option Addr) (n c : Nat) (left : Int) (w : World) (hn : n ≤ 9223372036854775807) (hl : 0 ≤ left) (hl' : left ≤ 1048576) :
    Calls Try.prog 19 #[.slice A n c, .int .i64 left] w fun e w' => ∃ l : Int, e = .returned (.int .i64 l) ∧ w = w' ∧ (l = -1 ∨ 0 ≤ l ∧ l ≤ left ∧ (n : Int) ≤ left) := by
  by_cases hlt : left - n < 0
  · go_enter Try.func19, Try.ntmps19
    go_wp2
    go_ret
    exact ⟨_, rfl, rfl, .inl rfl⟩
  · go_enter Try.func19, Try.ntmps19
    go_wp2
    go_ret
    exact ⟨_, rfl, rfl, .inr ⟨by omega, by omega, by omega⟩⟩

end Go.Proofs.Ytjcmlloglnkbfaa
