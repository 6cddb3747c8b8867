/- The law's own helpers over slices of records: printed by flats.py. -/
import Derived.Test.YtjangfhelagjnaaDoorLogT
namespace Go.Proofs.YtjangfhelagjnaaDoor
open Go.RowKit

theorem eqLogRecord_any (a0 : ByteArray) (a1 : ByteArray) (w : World) : Calls Tryd.prog 50 #[.agg #[.string a0, .string a1], .agg #[.string a0, .string a1]] w fun e w' => e = .returned (.bool true) ∧ Below w.heap.size w w' := by
  go_enter Tryd.func50, Tryd.ntmps50
  go_wp2
  go_ret
  exact ⟨rfl, ((Below.refl _ _).alloc (Nat.le_refl _) _).alloc (by simp) _⟩

set_option maxRecDepth 100000 in
theorem eqLogRecordS_any (A A' : Option Addr) (n n' c c' lo lo' : Nat) (xs ys : List LogRecord) (w : World) (hx : Sees w lo 2 A n (xs.flatMap LogRecord.enc)) (hy : Sees w lo' 2 A' n' (ys.flatMap LogRecord.enc)) (he : xs = ys) (hn : n ≤ 140737488355328) :
    Calls Tryd.prog 32 #[.slice A n c, .slice A' n' c'] w fun e w' => e = .returned (.bool true) ∧ Below w.heap.size w w' := by
  subst he
  have hl := hx.count (by decide) (fun _ => rfl)
  have hl' := hy.count (by decide) (fun _ => rfl)
  obtain rfl : n = n' := by omega
  go_enter Tryd.func32, Tryd.ntmps32
  go_wp2_with fail
  go_loopw [5] (fun v wr => ∃ k : Nat, k ≤ n ∧ v = .int .i64 k ∧ Below w.heap.size w wr) (fun v _ => n - (intOf v).toNat)
  case atStart => exact ⟨0, Nat.zero_le _, rfl, Below.refl _ _⟩
  case round =>
    obtain ⟨k, hk, rfl, hb⟩ := hrel
    by_cases hlt : k < n
    · obtain ⟨b, off, rfl, hkx, c0, c1⟩ := (hx.next hb).elem2 (fun _ => rfl) hlt
      obtain ⟨b', off', rfl, hky, d0, d1⟩ := (hy.next hb).elem2 (fun _ => rfl) hlt
      go_wp2_with fail
      refine wp_region_still_tail 8 (by kernel_rfl) (by kernel_rfl) ?_
      simp only [List.take_succ_cons, List.take_zero, List.drop_succ_cons, List.drop_zero]
      change wpStill _ _ wr.drew _ _ _
      repeat still_step
      refine wpStill_nil ?_
      change wpList _ _ _ _ _ wr.drew
      have hb' := bel_quiet hb (Quiet.one wr)
      generalize wr.drew = w2 at *
      go_wp2_with fail
      refine (eqLogRecord_any _ _ _).mono ?_
      rintro e w1 ⟨rfl, hb1⟩
      go_wp2
      go_roundw
      case rel => exact ⟨k + 1, by omega, by go_num, bel_then hb' hb1⟩
      case measure => simp [intOf]; omega
    · go_wp2
      go_ret
      exact ⟨rfl, hb⟩

set_option maxRecDepth 100000 in
theorem markLogRecordS_any (S : Nat → Prop) (t n c : Nat) (A : Option Addr) (xs : List LogRecord) (k0 : Int) (w : World) (hM : Mine w S t 2 A n c (xs.flatMap LogRecord.enc)) (h0 : 0 ≤ k0) (h1 : k0 ≤ 1000000000000) (hn : n ≤ 140737488355328) :
    Calls Tryd.prog 33 #[.slice A n c, .int .i64 k0] w fun e w' => e = .returned (.int .i64 (k0 + n * 2)) ∧ Mine w' S t 2 A n c ((marksOf LogRecord.mark 2 k0 n).flatMap LogRecord.enc) ∧ Only S w w' := by
  obtain ⟨hown, htop⟩ := hM
  rcases own_open hown with ⟨rfl, rfl, rfl, hxs⟩ | ⟨g, cur, rfl, hg, hB, hcl, hnc, hcm, htk⟩
  · go_enter Tryd.func33, Tryd.ntmps33
    go_wp2
    refine wp_loop_rounds 1 ?_
    rw [rounds_succ]
    go_wp2
    go_ret
    exact ⟨by simp, ⟨World.ownsRow_nil _ _ _ _, htop⟩, Only.refl _ _⟩
  · have hS : S g := htop g rfl
    have hcl' : n * 2 ≤ cur.length := by omega
    clear hown htk
    go_enter Tryd.func33, Tryd.ntmps33
    go_wp2
    go_loopw [1, 5] (fun q v wr => ∃ (k : Nat) (cs : List Value), k ≤ n ∧ q = .int .i64 (k0 + k * 2) ∧ v = .int .i64 k ∧ Blk wr g t cs ∧ cs.length = c * 2 ∧ Upto LogRecord.enc 2 (marksOf LogRecord.mark 2 k0 n) k cs ∧ Only S w wr) (fun _ v _ => n - (intOf v).toNat)
    case atStart => exact ⟨0, _, Nat.zero_le _, by simp, rfl, hB, hcl, Upto.zero (by rw [marksOf_length]; exact hcl'), Only.refl _ _⟩
    case round =>
      obtain ⟨k, cs, hk, rfl, rfl, hB, hcl, hu, ho⟩ := hrel
      by_cases hlt : k < n
      · have hkx : k < (marksOf LogRecord.mark 2 k0 n).length := by rw [marksOf_length]; omega
        have hcs : k * 2 + 2 ≤ cs.length := by omega
        go_wp2_with fail
        refine (markText_any _ _ (by omega) (by omega)).mono ?_
        rintro e w1 ⟨rfl, q1⟩
        have o1 := (ho).then_ q1
        have B1 := (hB).next q1
        have hf1 := B1.frozen
        obtain ⟨v1_0, z1_0⟩ : ∃ u, w1.cell? ⟨g, k * 2, none⟩ = some u := ⟨_, (B1.cell _).trans (List.getElem?_eq_getElem (by omega))⟩
        obtain ⟨v1_1, z1_1⟩ : ∃ u, w1.cell? ⟨g, k * 2 + 1, none⟩ = some u := ⟨_, (B1.cell _).trans (List.getElem?_eq_getElem (by omega))⟩
        go_wp2_with fail
        refine (markText_any _ _ (by omega) (by omega)).mono ?_
        rintro e w2 ⟨rfl, q2⟩
        have o2 := ((o1).setCell hS _).then_ q2
        have B2 := (B1.set_ (k * 2) (.string (markT (k0 + k * 2)))).next q2
        have hf2 := B2.frozen
        obtain ⟨v2_1, z2_1⟩ : ∃ u, w2.cell? ⟨g, k * 2 + 1, none⟩ = some u := ⟨_, (B2.cell _).trans (List.getElem?_eq_getElem (by simp only [List.length_set]; omega))⟩
        go_wp2
        go_roundw
        case rel => exact ⟨k + 1, _, by omega, by go_num, by go_num, B2.set_ (k * 2 + 1) (.string (markT (k0 + k * 2 + 1))), (setMany_length (LogRecord.enc (LogRecord.mark (k0 + k * 2))) cs (k * 2)).trans hcl, by have h := hu.step (fun _ => rfl) hkx; rw [marksOf_get] at h; exact h, (o2).setCell hS _⟩
        case measure => simp [intOf]; omega
      · go_wp2
        go_ret
        obtain rfl : k = n := by omega
        have hcs := hu.all (fun _ => rfl) (by rw [marksOf_length])
        rw [marksOf_length] at hcs
        exact ⟨rfl, ⟨own_shut hg hB hcl hnc hcm hcs, htop⟩, ho⟩

set_option maxRecDepth 100000 in
theorem heldLogRecordS_any (lo n c : Nat) (A : Option Addr) (k0 : Int) (w : World) (hx : Sees w lo 2 A n ((marksOf LogRecord.mark 2 k0 n).flatMap LogRecord.enc)) (h0 : 0 ≤ k0) (h1 : k0 ≤ 1000000000000) (hn : n ≤ 140737488355328) :
    Calls Tryd.prog 34 #[.slice A n c, .int .i64 k0] w fun e w' => e = .returned (.int .i64 (k0 + n * 2)) ∧ Below w.heap.size w w' := by
  go_enter Tryd.func34, Tryd.ntmps34
  go_wp2_with fail
  go_loopw [1, 5] (fun q v wr => ∃ k : Nat, k ≤ n ∧ q = .int .i64 (k0 + k * 2) ∧ v = .int .i64 k ∧ Below w.heap.size w wr) (fun _ v _ => n - (intOf v).toNat)
  case atStart => exact ⟨0, Nat.zero_le _, by simp, rfl, Below.refl _ _⟩
  case round =>
    obtain ⟨k, hk, rfl, rfl, hb⟩ := hrel
    by_cases hlt : k < n
    · obtain ⟨b, off, rfl, hkx, c0, c1⟩ := (hx.next hb).elem2 (fun _ => rfl) hlt
      have g0 : wr.cell? ⟨b, off + k * 2, none⟩ = some (.string (markT (k0 + k * 2))) := by rw [c0, marksOf_get]; rfl
      have g1 : wr.cell? ⟨b, off + k * 2 + 1, none⟩ = some (.string (markT (k0 + k * 2 + 1))) := by rw [c1, marksOf_get]; rfl
      clear c0 c1
      have hblt : b < wr.heap.size := World.block_lt_of_cell? wr ⟨b, off + k * 2, none⟩ g0
      go_wp2_with fail
      have q1 := (Quiet.one wr).below wr.heap.size
      go_region_held3 (fun w' => w'.cell? ⟨b, off + k * 2, none⟩ = some (.string (markT (k0 + k * 2))) ∧ w'.cell? ⟨b, off + k * 2 + 1, none⟩ = some (.string (markT (k0 + k * 2 + 1)))) (go_keep)
        (first
          | (go_at_call 51
             refine (markText_any _ _ (by omega) (by omega)).mono ?_
             rintro e w1 ⟨rfl, b1⟩
             have K1 := bel_then (bel_then hb q1) b1
             have g1_0 := ((bcell b1).1 _ _ hblt).trans g0
             have g1_1 := ((bcell b1).1 _ _ hblt).trans g1
             have lt1 : b < w1.heap.size := Nat.lt_of_lt_of_le hblt b1.size
             clear b1))
      go_wp2_with fail
      have q2 := (Quiet.one w1).below w1.heap.size
      go_region_held3 (fun w' => w'.cell? ⟨b, off + k * 2 + 1, none⟩ = some (.string (markT (k0 + k * 2 + 1)))) (go_keep)
        (first
          | (go_at_call 51
             refine (markText_any _ _ (by omega) (by omega)).mono ?_
             rintro e w2 ⟨rfl, b2⟩
             have K2 := bel_then (bel_then K1 q2) b2
             have g2_1 := ((bcell b2).1 _ _ lt1).trans g1_1
             have lt2 : b < w2.heap.size := Nat.lt_of_lt_of_le lt1 b2.size
             clear b2))
      go_wp2_with fail
      go_roundw
      case rel => exact ⟨k + 1, by omega, by go_num, by go_num, K2⟩
      case measure => simp [intOf]; omega
    · obtain rfl : k = n := by omega
      go_wp2_with fail
      go_ret
      exact ⟨rfl, hb⟩

end Go.Proofs.YtjangfhelagjnaaDoor
