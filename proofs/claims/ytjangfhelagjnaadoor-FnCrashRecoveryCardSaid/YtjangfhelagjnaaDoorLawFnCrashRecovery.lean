/- The walk of the law FnCrashRecovery. -/
import Derived.Test.YtjangfhelagjnaaDoorCurI
import Derived.Test.YtjangfhelagjnaaDoorVBig
namespace Go.Proofs.YtjangfhelagjnaaDoor
open Go.RowKit

theorem crashL_false {l : Log} {k : Int} {t : Bool} (h : (crashL l k t).2 = false) : (crashL l k t).1 = ⟨#[]⟩ := by
  unfold crashL at *
  split at h
  · cases h
  · rename_i hn
    rw [if_neg hn]
/-- What the law has in hand when the crash has been recovered from. -/
structure Recovered (x : Log) (s : ByteArray) (M : Log) (n : Int) (all old : List LogRecord) : Prop where
  rec_ : recovL s = (M, n, true)
  len : n ≤ (s.size : Int)
  dur : (x.durable.size : Int) ≤ n
  n0 : 0 ≤ n
  cut : s.extract 0 n.toNat = M.durable
  all_ : recsL M = (all, true)
  old_ : recsL x = (old, true)
  valid : validL M = true
  pre : ∃ r, old = all ++ r
  big : s.size ≤ 30000 ∧ all.length ≤ 60 ∧ old.length ≤ 60
  up : M.upto 1048576
theorem recovered {x : Log} {k : Int} {t : Bool} {s : ByteArray} (h : crashL x k t = (s, true)) : ∃ M n all old, Recovered x s M n all old := by
  obtain ⟨hv, h1, h2, h3⟩ := crash_facts h
  have h4 := (allR_ok s).at_
  have hM := recov_valid s
  have hz : (s.extract 0 (allR s).at_).size = (allR s).at_ := by simp; omega
  refine ⟨⟨s.extract 0 (allR s).at_, ⟨#[]⟩, ((allR s).l.length : Int)⟩, ((allR s).at_ : Int), (allR s).l, (allR (x.durable ++ x.pending)).l, ?_⟩
  refine ⟨?_, by omega, by omega, by omega, rfl, ?_, ?_, hM, h3, ⟨h1, (allR_ok _).len, (allR_ok _).len⟩, ?_⟩
  · unfold recovL
    rw [if_pos h1]
  · unfold recsL
    rw [hM]
    have h5 : s.extract 0 (allR s).at_ ++ (⟨#[]⟩ : ByteArray) = s.extract 0 (allR s).at_ := ByteArray.append_empty
    show ((allR (s.extract 0 (allR s).at_ ++ ⟨#[]⟩)).l, true) = _
    rw [h5, allR_cut]
  · unfold recsL
    rw [hv]
    rfl
  · unfold Log.upto
    exact ⟨by show (s.extract 0 (allR s).at_).size ≤ _; omega, by show 0 ≤ _; omega⟩

set_option maxRecDepth 100000 in
set_option maxHeartbeats 4000000 in
theorem FnCrashRecovery_any (A : Option Addr) (m c : Nat) (w : World) (hA : CodeIn w A m) (hm : m ≤ 9223372036854775807) (hg : Gl w) :
    Calls Tryd.prog 12 #[.slice A m c] w fun e w' => e = .returned (.bool true) ∧ Below w.heap.size w w' := by
  by_cases hbig : 65536 < m
  · go_enter Tryd.func12, Tryd.ntmps12
    go_wp2_with fail
    refine (vBig_any A m c w hm).mono ?_
    rintro e w' ⟨rfl, rfl⟩
    rw [decide_eq_true hbig]
    go_wp2_with fail
    go_ret
    exact ⟨rfl, Below.refl _ _⟩
  go_enter Tryd.func12, Tryd.ntmps12
  go_wp2_with fail
  refine (vBig_any A m c w hm).mono ?_
  rintro e w' ⟨rfl, rfl⟩
  rw [decide_eq_false hbig]
  go_wp2_with fail
  refine (DrawCrashLog_any A m c w hA (by omega)).mono ?_
  rintro e w1 ⟨x, k, t, rfl, hx, b1⟩
  have K2 : Below w.heap.size w (w1.alloc (.cells #[.string x.durable, .string x.pending, .int .i64 x.count] 31)) := bel_then b1 ((Below.refl _ _).alloc (Nat.le_refl _) _)
  have L2 : Blk (w1.alloc (.cells #[.string x.durable, .string x.pending, .int .i64 x.count] 31)) w1.heap.size 31 [.string x.durable, .string x.pending, .int .i64 x.count] := Blk.at_ rfl
  have hux := totL_upto hx (by decide)
  have z1 := b1.size
  obtain ⟨R, hRe⟩ : ∃ R, crashL x k t = R := ⟨_, rfl⟩
  have HRe := Lib.hid hRe
  clear hRe
  go_wp2_with fail
  refine (CrashLog_any x k t _ hux (hg.next K2)).mono ?_
  rw [HRe.out]
  rintro e w3 ⟨rfl, b3⟩
  have K3 := bel_then K2 b3
  have L3 := L2.next b3
  clear b3 L2 K2
  have l3 := L3.cell
  go_wp2_with fail
  refine (specCrashLog_any x k t _ hux).mono ?_
  rw [HRe.out]
  rintro e w4 ⟨rfl, b4⟩
  have K4 := bel_then K3 b4
  have L4 := L3.next b4
  clear b4 L3 K3 l3
  have l4 := L4.cell
  obtain ⟨s, ok⟩ := R
  have str1 : (s.toList == s.toList) = true := beq_self_eq_true _
  cases ok
  · have he : s = ⟨#[]⟩ := by
      have := crashL_false (l := x) (k := k) (t := t) (by rw [HRe.out])
      rw [HRe.out] at this
      exact this
    subst he
    clear str1
    go_wp2_with fail
    go_ret
    exact ⟨rfl, K4⟩
  obtain ⟨M, n, all, old, HR⟩ := recovered HRe.out
  have HR := Lib.hid HR
  have hs3 : s.size ≤ 30000 := HR.out.big.1
  go_wp2_with fail
  refine (RecoverLog_any s _ (by omega) (hg.next K4)).mono ?_
  rw [HR.out.rec_]
  rintro e w5 ⟨rfl, b5⟩
  have K6 : Below w.heap.size w (w5.alloc (.cells #[.string M.durable, .string M.pending, .int .i64 M.count] 31)) := bel_then (bel_then K4 b5) ((Below.refl _ _).alloc (Nat.le_refl _) _)
  have L6 : Blk (w5.alloc (.cells #[.string M.durable, .string M.pending, .int .i64 M.count] 31)) w1.heap.size 31 [.string x.durable, .string x.pending, .int .i64 x.count] := (L4.next b5).alloc _
  have M6 : Blk (w5.alloc (.cells #[.string M.durable, .string M.pending, .int .i64 M.count] 31)) w5.heap.size 31 [.string M.durable, .string M.pending, .int .i64 M.count] := Blk.at_ rfl
  clear L4 l4 K4 b5
  go_wp2_with fail
  refine (LogRecords_any M _ HR.out.up (hg.next K6)).mono ?_
  rw [HR.out.all_]
  rintro e w7 ⟨A7, c7, rfl, o7, b7⟩
  have K7 := bel_then K6 b7
  have L7 := L6.next b7
  have M7 := M6.next b7
  have S7 := Sees.of_own o7
  clear o7 b7 K6 L6 M6
  have l7 := L7.cell
  go_wp2_with fail
  refine (specLogRecords_any x _ hux).mono ?_
  rw [HR.out.old_]
  rintro e w8 ⟨A8, c8, rfl, o8, b8⟩
  have K8 := bel_then K7 b8
  have L8 := L7.next b8
  have M8 := M7.next b8
  have S7' := S7.next b8
  have S8 := Sees.of_own o8
  clear o8 b8 K7 L7 M7 S7 l7
  have l8 := L8.cell
  have q1 := HR.out.len
  have q2 := HR.out.dur
  have q0 := HR.out.n0
  have q3 : (all.length : Int) ≤ (old.length : Int) := by obtain ⟨r, hr⟩ := HR.out.pre; rw [hr, List.length_append]; omega
  have q4 := HR.out.big.2.1
  have q5 := HR.out.big.2.2
  go_wp2_with fail
  go_loopw [17] (fun v wr => ∃ k : Nat, k ≤ all.length ∧ v = .int .i64 (k : Int) ∧ Quiet w8 wr) (fun v _ => all.length - (intOf v).toNat)
  case atStart => exact ⟨0, Nat.zero_le _, rfl, Quiet.refl _⟩
  case round =>
    obtain ⟨k, hk, rfl, hq⟩ := hrel
    by_cases hlt : k < all.length
    · have hlt2 : k < old.length := by omega
      obtain ⟨ba, oa, rfl, hka, a0, a1⟩ := (S7'.quiet hq).elem2 (fun _ => rfl) hlt
      obtain ⟨bo, oo, rfl, hko, d0, d1⟩ := (S8.quiet hq).elem2 (fun _ => rfl) hlt2
      have he : old[k] = all[k] := by
        obtain ⟨r, hr⟩ := HR.out.pre
        subst hr
        exact List.getElem_append_left hlt
      rw [he] at d0 d1
      generalize all[k] = y at *
      have hk2 : (k : Int) < (old.length : Int) := by omega
      have s0 : (y.command.toList == y.command.toList) = true := beq_self_eq_true _
      have s1 : (y.reply.toList == y.reply.toList) = true := beq_self_eq_true _
      go_wp2_with fail
      go_quiet (fail)
      go_wp2_with fail
      go_roundw
      case rel => exact ⟨k + 1, by omega, by go_num, hq.more _⟩
      case measure => simp [intOf]; omega
    · have K9 := bel_quiet K8 (hq.trans (Quiet.one _))
      have M9 := M8.quiet (hq.trans (Quiet.one _))
      have m9 := M9.cell
      have HC := Lib.hid HR.out.cut
      have lt9 := M9.lt
      go_wp2_with fail
      refine wp_region_held_drew (S := fun w' => w'.cell? ⟨w5.heap.size, 0, none⟩ = some (.string M.durable) ∧ w'.cell? ⟨w5.heap.size, 1, none⟩ = some (.string M.pending) ∧ w'.cell? ⟨w5.heap.size, 2, none⟩ = some (.int .i64 M.count)) (by kernel_rfl) (by (try dsimp only); go_keep) (fun hHeld => ?_)
      refine wpAnyH_take (i := 0) (v := ?_) rfl (by kernel_rfl) (by kernel_rfl) (by kernel_rfl) (fun _ _ _ h => h) (Or.inl ⟨by rfl, ?_⟩) (by assumption) ?_
      rotate_left 1
      · (intro w hSw; (try dsimp only at hSw); go_simp; try with_reducible rfl)
      simp only [Act.put, List.setIfInBounds_toArray, List.set_cons_zero, List.set_cons_succ, List.getElem_toArray, List.getElem_cons_zero]
      refine wpAnyH_ready (rs := [1]) (by kernel_rfl) (by simp) ?_
      refine AllReadyH.cons rfl (fun K hK => ?_) AllReadyH.nil
      go_simp
      refine (IsValidLog_any M _ HR.out.up (hg.next K9)).mono ?_
      rw [HR.out.valid]
      rintro e w10 ⟨rfl, b10⟩
      have K10 := bel_then K9 b10
      have M10 := M9.next b10
      have m10 := M10.cell
      clear m9

      go_wp2_with fail
      refine hK.out _ _ (by (try dsimp only); go_keep) (fun hHeld => ?_)
      clear hK K
      refine wpAnyH_take (i := 2) (v := ?_) rfl (by kernel_rfl) (by kernel_rfl) (by kernel_rfl) (fun _ _ _ h => h) (Or.inl ⟨by rfl, ?_⟩) (by assumption) ?_
      rotate_left 1
      · (intro w hSw; (try dsimp only at hSw); go_simp; try with_reducible rfl)
      simp only [Act.put, List.setIfInBounds_toArray, List.set_cons_zero, List.set_cons_succ, List.getElem_toArray, List.getElem_cons_zero, List.getElem_cons_succ]
      refine wpAnyH_take (i := 3) (v := ?_) rfl (by kernel_rfl) (by kernel_rfl) (by kernel_rfl) (fun _ _ _ h => h) (Or.inl ⟨by rfl, ?_⟩) (by assumption) ?_
      rotate_left 1
      · (intro w hSw; (try dsimp only at hSw); go_simp; try with_reducible rfl)
      simp only [Act.put, List.setIfInBounds_toArray, List.set_cons_zero, List.set_cons_succ, List.getElem_toArray, List.getElem_cons_zero, List.getElem_cons_succ]
      refine wpAnyH_take (i := 4) (v := ?_) rfl (by kernel_rfl) (by kernel_rfl) (by kernel_rfl) (fun _ _ _ h => h) (Or.inl ⟨by rfl, ?_⟩) (by assumption) ?_
      rotate_left 1
      · (intro w hSw; (try dsimp only at hSw); go_simp; try with_reducible rfl)
      simp only [Act.put, List.setIfInBounds_toArray, List.set_cons_zero, List.set_cons_succ, List.getElem_toArray, List.getElem_cons_zero, List.getElem_cons_succ]
      refine wpAnyH_take (i := 5) (v := ?_) rfl (by kernel_rfl) (by kernel_rfl) (by kernel_rfl) (fun _ _ _ h => h) (Or.inl ⟨by rfl, ?_⟩) (by assumption) ?_
      rotate_left 1
      · (intro w hSw; (try dsimp only at hSw); go_simp; try with_reducible rfl)
      simp only [Act.put, List.setIfInBounds_toArray, List.set_cons_zero, List.set_cons_succ, List.getElem_toArray, List.getElem_cons_zero, List.getElem_cons_succ]
      refine wpAnyH_take (i := 6) (v := ?_) rfl (by kernel_rfl) (by kernel_rfl) (by kernel_rfl) (fun _ _ _ h => h) (Or.inl ⟨by rfl, ?_⟩) (by assumption) ?_
      rotate_left 1
      · (intro w hSw; (try dsimp only at hSw); go_simp; try with_reducible rfl)
      simp only [Act.put, List.setIfInBounds_toArray, List.set_cons_zero, List.set_cons_succ, List.getElem_toArray, List.getElem_cons_zero, List.getElem_cons_succ]
      refine wpAnyH_take (i := 7) (v := ?_) rfl (by kernel_rfl) (by kernel_rfl) (by kernel_rfl) (fun _ _ _ h => h) (Or.inl ⟨by rfl, ?_⟩) (by assumption) ?_
      rotate_left 1
      · (intro w hSw; (try dsimp only at hSw); go_simp; try with_reducible rfl)
      simp only [Act.put, List.setIfInBounds_toArray, List.set_cons_zero, List.set_cons_succ, List.getElem_toArray, List.getElem_cons_zero, List.getElem_cons_succ]
      refine wpAnyH_take (i := 8) (v := ?_) rfl (by kernel_rfl) (by kernel_rfl) (by kernel_rfl) (fun _ _ _ h => h) (Or.inl ⟨by rfl, ?_⟩) (by assumption) ?_
      rotate_left 1
      · (intro w hSw; (try dsimp only at hSw); go_simp; try with_reducible rfl)
      simp only [Act.put, List.setIfInBounds_toArray, List.set_cons_zero, List.set_cons_succ, List.getElem_toArray, List.getElem_cons_zero, List.getElem_cons_succ]
      refine wpAnyH_take (i := 9) (v := ?_) rfl (by kernel_rfl) (by kernel_rfl) (by kernel_rfl) (fun _ _ _ h => h) (Or.inl ⟨by rfl, ?_⟩) (by assumption) ?_
      rotate_left 1
      · (intro w hSw; (try dsimp only at hSw); go_simp; try with_reducible rfl)
      simp only [Act.put, List.setIfInBounds_toArray, List.set_cons_zero, List.set_cons_succ, List.getElem_toArray, List.getElem_cons_zero, List.getElem_cons_succ]
      refine wpAnyH_take (i := 10) (v := ?_) rfl (by kernel_rfl) (by kernel_rfl) (by kernel_rfl) (fun _ _ _ h => h) (Or.inl ⟨by rfl, ?_⟩) (by assumption) ?_
      rotate_left 1
      · (intro w hSw; (try dsimp only at hSw); go_simp; try with_reducible rfl)
      simp only [Act.put, List.setIfInBounds_toArray, List.set_cons_zero, List.set_cons_succ, List.getElem_toArray, List.getElem_cons_zero, List.getElem_cons_succ]
      refine wpAnyH_done (by kernel_rfl) ?_ _
      go_wp2_with fail
      go_ret
      exact ⟨ret_bool (by rw [HC.out]; exact beq_self_eq_true _), K10⟩

end Go.Proofs.YtjangfhelagjnaaDoor
