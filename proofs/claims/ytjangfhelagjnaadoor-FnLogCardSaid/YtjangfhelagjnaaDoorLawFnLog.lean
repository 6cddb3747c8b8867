/- The walk of the law FnLog. -/
import Derived.Test.YtjangfhelagjnaaDoorCurJ
import Derived.Test.YtjangfhelagjnaaDoorVBig
namespace Go.Proofs.YtjangfhelagjnaaDoor
open Go.RowKit

/-- A record has been appended. -/
structure Appended (x : Log) (r : LogRecord) (M B : Log) (n : Int) (all old : List LogRecord) : Prop where
  all_ : recsL M = (all, true)
  old_ : recsL x = (old, true)
  app : all = old ++ [r]
  count : M.count = (all.length : Int)
  rec_ : recovL (M.durable ++ M.pending) = (B, n, true)
  sync : syncL M = (B, true)
  end_ : n = (M.durable.size : Int) + (M.pending.size : Int)
  valid : validL M = true
  big : M.durable.size + M.pending.size ≤ 30000 ∧ old.length ≤ 60
theorem app_cases (x : Log) (r : LogRecord) : (∃ c : Int, c ≠ 0 ∧ appL x r = (x, c)) ∨ ∃ M B n all old, appL x r = (M, 0) ∧ Appended x r M B n all old := by
  unfold appL
  split
  · rename_i h
    simp only [Bool.and_eq_true] at h
    split
    · exact .inl ⟨2, by decide, rfl⟩
    · rename_i hc
      right
      obtain ⟨h1, h2, h3⟩ := app_facts h.1 h.2 hc
      obtain ⟨_, _, h4⟩ := validL_facts h1
      have h5 := (validL_read h1).2.2
      have h6 := (validL_read h.1)
      refine ⟨_, ⟨x.durable ++ (x.pending ++ lineT x.count.toNat r), ⟨#[]⟩, x.count + 1⟩, ((allR (x.durable ++ (x.pending ++ lineT x.count.toNat r))).at_ : Int), (allR (x.durable ++ (x.pending ++ lineT x.count.toNat r))).l, (allR (x.durable ++ x.pending)).l, rfl, ?_, ?_, h2, h5.symm, ?_, ?_, ?_, h1, h4, (allR_ok _).len⟩
      · unfold recsL; rw [h1]; rfl
      · unfold recsL; rw [h.1]; rfl
      · show recovL (x.durable ++ (x.pending ++ lineT x.count.toNat r)) = _
        have h4' : x.durable.size + (x.pending ++ lineT x.count.toNat r).size ≤ 30000 := h4
        unfold recovL
        rw [if_pos (by rw [ByteArray.size_append]; exact h4'), h3, all_of]
        have h5' : ((allR (x.durable ++ (x.pending ++ lineT x.count.toNat r))).l.length : Int) = x.count + 1 := h5
        rw [h5']
      · unfold syncL; rw [h1]; rfl
      · rw [h3, ByteArray.size_append]
        show ((x.durable.size + (x.pending ++ lineT x.count.toNat r).size : Nat) : Int) = (x.durable.size : Int) + ((x.pending ++ lineT x.count.toNat r).size : Int)
        omega
  · exact .inl ⟨1, by decide, rfl⟩

set_option maxRecDepth 100000 in
set_option maxHeartbeats 8000000 in
theorem FnLog_any (A : Option Addr) (m c : Nat) (w : World) (hA : CodeIn w A m) (hm : m ≤ 9223372036854775807) (hg : Gl w) :
    Calls Tryd.prog 10 #[.slice A m c] w fun e w' => e = .returned (.bool true) ∧ Below w.heap.size w w' := by
  by_cases hbig : 65536 < m
  · go_enter Tryd.func10, Tryd.ntmps10
    go_wp2_with fail
    refine (vBig_any A m c w hm).mono ?_
    rintro e w' ⟨rfl, rfl⟩
    rw [decide_eq_true hbig]
    go_wp2_with fail
    go_ret
    exact ⟨rfl, Below.refl _ _⟩
  go_enter Tryd.func10, Tryd.ntmps10
  go_wp2_with fail
  refine (vBig_any A m c w hm).mono ?_
  rintro e w' ⟨rfl, rfl⟩
  rw [decide_eq_false hbig]
  go_wp2_with fail
  refine (DrawAppendRecord_any A m c w hA (by omega)).mono ?_
  rintro e w1 ⟨x, r, rfl, hx, hr, b1⟩
  have hux := totL_upto hx (by decide)
  have hur := LogRecord.upto_mono hr (show 20 ≤ 9223372036854775807 by decide)
  have K2 : Below w.heap.size w ((w1.alloc (.cells #[.string x.durable, .string x.pending, .int .i64 x.count] 31)).alloc (.cells #[.string r.command, .string r.reply] 27)) := bel_then b1 (((Below.refl _ _).alloc (Nat.le_refl _) _).alloc (by simp) _)
  have Lx : Blk ((w1.alloc (.cells #[.string x.durable, .string x.pending, .int .i64 x.count] 31)).alloc (.cells #[.string r.command, .string r.reply] 27)) w1.heap.size 31 [.string x.durable, .string x.pending, .int .i64 x.count] := (Blk.at_ rfl).alloc _
  have Er : Blk ((w1.alloc (.cells #[.string x.durable, .string x.pending, .int .i64 x.count] 31)).alloc (.cells #[.string r.command, .string r.reply] 27)) (w1.heap.size + 1) 27 [.string r.command, .string r.reply] := Blk.at_ (by simp)
  clear b1
  obtain ⟨R, hRe⟩ : ∃ R, appL x r = R := ⟨_, rfl⟩
  have HRe := Lib.hid hRe
  clear hRe
  go_wp2_with fail
  refine (AppendRecord_any x r _ hux hur (hg.next K2)).mono ?_
  rw [HRe.out]
  rintro e w3 ⟨rfl, b3⟩
  have K4 : Below w.heap.size w (w3.alloc (.cells #[.string R.1.durable, .string R.1.pending, .int .i64 R.1.count] 31)) := bel_then (bel_then K2 b3) ((Below.refl _ _).alloc (Nat.le_refl _) _)
  have Er0 := Er
  replace Lx := (Lx.next b3).alloc (.cells #[.string R.1.durable, .string R.1.pending, .int .i64 R.1.count] 31)
  replace Er := (Er.next b3).alloc (.cells #[.string R.1.durable, .string R.1.pending, .int .i64 R.1.count] 31)
  have Mm : Blk (w3.alloc (.cells #[.string R.1.durable, .string R.1.pending, .int .i64 R.1.count] 31)) w3.heap.size 31 [.string R.1.durable, .string R.1.pending, .int .i64 R.1.count] := Blk.at_ rfl
  have lt3' : w1.heap.size + 1 < w3.heap.size := (Er0.next b3).lt
  clear b3 K2 Er0
  have lt1 := Er.lt
  have lt3 : w1.heap.size + 1 < w3.heap.size := by
    have := Mm.lt
    have h : w1.heap.size + 1 < w3.heap.size := lt3'
    exact h
  have cLx := Lx.cell
  have cEr := Er.cell
  have cMm := Mm.cell
  go_wp2_with fail
  refine (specAppendRecord_any x r _ hux hur).mono ?_
  rw [HRe.out]
  rintro e w5 ⟨rfl, b5⟩
  have K6 : Below w.heap.size w (w5.alloc (.cells #[.string R.1.durable, .string R.1.pending, .int .i64 R.1.count] 31)) := bel_then (bel_then K4 b5) ((Below.refl _ _).alloc (Nat.le_refl _) _)
  clear cLx cEr cMm
  replace Lx := (Lx.next b5).alloc (.cells #[.string R.1.durable, .string R.1.pending, .int .i64 R.1.count] 31)
  replace Er := (Er.next b5).alloc (.cells #[.string R.1.durable, .string R.1.pending, .int .i64 R.1.count] 31)
  replace Mm := (Mm.next b5).alloc (.cells #[.string R.1.durable, .string R.1.pending, .int .i64 R.1.count] 31)
  have Mw : Blk (w5.alloc (.cells #[.string R.1.durable, .string R.1.pending, .int .i64 R.1.count] 31)) w5.heap.size 31 [.string R.1.durable, .string R.1.pending, .int .i64 R.1.count] := Blk.at_ rfl
  clear b5 K4
  go_wp2_with fail
  have q6 := (Quiet.one (w5.alloc (.cells #[.string R.1.durable, .string R.1.pending, .int .i64 R.1.count] 31))).below (w5.alloc (.cells #[.string R.1.durable, .string R.1.pending, .int .i64 R.1.count] 31)).heap.size
  replace K6 := bel_then K6 q6
  replace Lx := Lx.next q6
  replace Er := Er.next q6
  replace Mm := Mm.next q6
  replace Mw := Mw.next q6
  clear q6
  have cLx := Lx.cell
  have cEr := Er.cell
  have cMm := Mm.cell
  have cMw := Mw.cell
  have sl1 : (R.1.durable.toList == R.1.durable.toList) = true := beq_self_eq_true _
  have sl2 : (R.1.pending.toList == R.1.pending.toList) = true := beq_self_eq_true _
  go_region_held3 (fun w' => w'.cell? ⟨w1.heap.size, 0, none⟩ = some (.string x.durable) ∧ w'.cell? ⟨w1.heap.size, 1, none⟩ = some (.string x.pending) ∧ w'.cell? ⟨w1.heap.size, 2, none⟩ = some (.int .i64 x.count) ∧ w'.cell? ⟨(w1.heap.size + 1), 0, none⟩ = some (.string r.command) ∧ w'.cell? ⟨(w1.heap.size + 1), 1, none⟩ = some (.string r.reply) ∧ w'.cell? ⟨w3.heap.size, 0, none⟩ = some (.string R.1.durable) ∧ w'.cell? ⟨w3.heap.size, 1, none⟩ = some (.string R.1.pending) ∧ w'.cell? ⟨w3.heap.size, 2, none⟩ = some (.int .i64 R.1.count) ∧ w'.cell? ⟨w5.heap.size, 0, none⟩ = some (.string R.1.durable) ∧ w'.cell? ⟨w5.heap.size, 1, none⟩ = some (.string R.1.pending) ∧ w'.cell? ⟨w5.heap.size, 2, none⟩ = some (.int .i64 R.1.count)) (go_keep)
  (first
    | (go_at_call 23
       refine (IsValidLog_any x _ hux (hg.next K6)).mono ?_
       rintro e w7 ⟨rfl, b7⟩
       have K7 := bel_then K6 b7
       clear cLx cEr cMm cMw
       replace Lx := Lx.next b7
       replace Er := Er.next b7
       replace Mm := Mm.next b7
       replace Mw := Mw.next b7
       clear b7
       have cLx := Lx.cell
       have cEr := Er.cell
       have cMm := Mm.cell
       have cMw := Mw.cell)
    | (go_at_call 21
       refine (specIsValidLog_any x _ hux).mono ?_
       rintro e w8 ⟨rfl, b8⟩
       have K8 := bel_then K7 b8
       clear cLx cEr cMm cMw
       replace Lx := Lx.next b8
       replace Er := Er.next b8
       replace Mm := Mm.next b8
       replace Mw := Mw.next b8
       clear b8
       have cLx := Lx.cell
       have cEr := Er.cell
       have cMm := Mm.cell
       have cMw := Mw.cell)
    | (go_at_call 37
       refine (IsValidRecord_any r _ hur).mono ?_
       rintro e w9 ⟨rfl, b9⟩
       have K9 := bel_then K8 b9
       clear cLx cEr cMm cMw
       replace Lx := Lx.next b9
       replace Er := Er.next b9
       replace Mm := Mm.next b9
       replace Mw := Mw.next b9
       clear b9
       have cLx := Lx.cell
       have cEr := Er.cell
       have cMm := Mm.cell
       have cMw := Mw.cell)
    | (go_at_call 38
       refine (specIsValidRecord_any r _ hur).mono ?_
       rintro e w10 ⟨rfl, b10⟩
       have K10 := bel_then K9 b10
       clear cLx cEr cMm cMw
       replace Lx := Lx.next b10
       replace Er := Er.next b10
       replace Mm := Mm.next b10
       replace Mw := Mw.next b10
       clear b10
       have cLx := Lx.cell
       have cEr := Er.cell
       have cMm := Mm.cell
       have cMw := Mw.cell))
  clear sl1 sl2
  rcases app_cases x r with ⟨co, hco, he⟩ | ⟨M, B, n, all, old, he, HA⟩
  · obtain rfl : R = (x, co) := HRe.out.symm.trans he
    clear he HRe
    have d0 : (co == (0 : Int)) = false := beq_eq_false_iff_ne.2 hco
    have d0' : (co != (0 : Int)) = true := by rw [bne, d0]; rfl
    dsimp only at Mm cMm Mw cMw
    go_wp2_with fail
    go_ret
    exact ⟨ret_bool (by simp), K10⟩
  obtain rfl : R = (M, 0) := HRe.out.symm.trans he
  clear he HRe
  dsimp only at Mm cMm Mw cMw
  have lt1e0 := Er.lt
  have lt3e0 := Mm.lt
  have HR := Lib.hid HA
  have hbig1 := HA.big.1
  have hbig2 := HA.big.2
  have hum : M.upto 1048576 := by unfold Log.upto; omega
  have hal : all.length = old.length + 1 := by rw [HA.app]; simp
  have e1 : ((all.length : Int) == (old.length : Int) + 1) = true := beq_iff_eq.2 (by omega)
  have e1' : ((all.length : Int) != (old.length : Int) + 1) = false := by rw [bne, e1]; rfl
  have e2 : (M.count == (all.length : Int)) = true := beq_iff_eq.2 HA.count
  have e2' : (M.count != (all.length : Int)) = false := by rw [bne, e2]; rfl
  have e3 : (n == (M.durable.size : Int) + (M.pending.size : Int)) = true := beq_iff_eq.2 HA.end_
  have HAL := Lib.hid hal
  have hall1 : old.length < all.length := by omega
  have hall2 : all.length ≤ 61 := by omega
  have fsum : ¬ 9223372036854775807 < M.durable.size + M.pending.size := by omega
  clear HA hal Mw cMw
  go_wp2_with fail
  refine (LogRecords_any M _ hum (hg.next K10)).mono ?_
  rw [HR.out.all_]
  rintro e w11 ⟨A11, c11, rfl, o11, b11⟩
  have K11 := bel_then K10 b11
  clear cLx cEr cMm
  replace Lx := Lx.next b11
  replace Er := Er.next b11
  replace Mm := Mm.next b11
  clear b11 K10
  have S11 := Sees.of_own o11
  clear o11
  have cLx := Lx.cell
  have cEr := Er.cell
  have cMm := Mm.cell
  go_wp2_with fail
  refine (LogRecords_any x _ hux (hg.next K11)).mono ?_
  rw [HR.out.old_]
  rintro e w12 ⟨A12, c12, rfl, o12, b12⟩
  have K12 := bel_then K11 b12
  clear cLx cEr cMm Lx
  replace Er := Er.next b12
  replace Mm := Mm.next b12
  replace S11 := S11.next b12
  clear b12 K11
  have S12 := Sees.of_own o12
  clear o12
  have cEr := Er.cell
  have cMm := Mm.cell
  go_wp2_with fail
  refine (RecoverLog_any (M.durable ++ M.pending) _ (by rw [ByteArray.size_append]; omega) (hg.next K12)).mono ?_
  rw [HR.out.rec_]
  rintro e w13 ⟨rfl, b13⟩
  have b14 : Below w13.heap.size w13 (w13.alloc (.cells #[.string B.durable, .string B.pending, .int .i64 B.count] 31)) := (Below.refl _ _).alloc (Nat.le_refl _) _
  have Bb : Blk (w13.alloc (.cells #[.string B.durable, .string B.pending, .int .i64 B.count] 31)) w13.heap.size 31 [.string B.durable, .string B.pending, .int .i64 B.count] := Blk.at_ rfl
  have K14 := bel_then (bel_then K12 b13) b14
  clear cEr cMm
  have Er13 := Er.next b13
  have Mm13 := Mm.next b13
  replace Er := (Er.next b13).next b14
  replace Mm := (Mm.next b13).next b14
  replace S11 := (S11.next b13).next b14
  replace S12 := (S12.next b13).next b14
  have lt13 : w1.heap.size + 1 < w13.heap.size := Er13.lt
  have lt13m : w3.heap.size < w13.heap.size := Mm13.lt
  clear Er13 Mm13
  clear b13 b14 K12
  have cEr := Er.cell
  have cMm := Mm.cell
  have cBb := Bb.cell
  go_wp2_with fail
  refine (SyncLog_any M _ hum (hg.next K14)).mono ?_
  rw [HR.out.sync]
  rintro e w15 ⟨rfl, b15⟩
  have b16 : Below w15.heap.size w15 (w15.alloc (.cells #[.string B.durable, .string B.pending, .int .i64 B.count] 31)) := (Below.refl _ _).alloc (Nat.le_refl _) _
  have Bs : Blk (w15.alloc (.cells #[.string B.durable, .string B.pending, .int .i64 B.count] 31)) w15.heap.size 31 [.string B.durable, .string B.pending, .int .i64 B.count] := Blk.at_ rfl
  have K16 := bel_then (bel_then K14 b15) b16
  have lt15 := (Er.next b15).lt
  have lt15m := (Mm.next b15).lt
  have lt15b := (Bb.next b15).lt
  clear cEr cMm cBb
  replace Er := (Er.next b15).next b16
  replace Mm := (Mm.next b15).next b16
  replace Bb := (Bb.next b15).next b16
  replace S11 := (S11.next b15).next b16
  replace S12 := (S12.next b15).next b16
  clear b15 b16 K14
  have cMm := Mm.cell
  go_wp2_with fail
  generalize (w15.alloc (.cells #[.string B.durable, .string B.pending, .int .i64 B.count] 31)) = w16 at *
  go_loopw [18] (fun v wr => ∃ k : Nat, k ≤ old.length ∧ v = .int .i64 (k : Int) ∧ Quiet w16 wr) (fun v _ => old.length - (intOf v).toNat)
  case atStart => exact ⟨0, Nat.zero_le _, rfl, Quiet.refl _⟩
  case round =>
    obtain ⟨k, hk, rfl, hq⟩ := hrel
    clear cMm
    by_cases hlt : k < old.length
    · have hlt2 : k < all.length := by omega
      obtain ⟨ba, oa, rfl, hka, a0, a1⟩ := (S11.quiet hq).elem2 (fun _ => rfl) hlt2
      obtain ⟨bo, oo, rfl, hko, d0, d1⟩ := (S12.quiet hq).elem2 (fun _ => rfl) hlt
      have he : all[k] = old[k] := by
        have h0 := HR.out.app
        subst h0
        exact List.getElem_append_left hlt
      rw [he] at a0 a1
      generalize old[k] = y at *
      have hk2 : (k : Int) < (all.length : Int) := by omega
      have s0 : (y.command.toList == y.command.toList) = true := beq_self_eq_true _
      have s1 : (y.reply.toList == y.reply.toList) = true := beq_self_eq_true _
      go_wp2_with fail
      go_quiet (fail)
      go_wp2_with fail
      go_roundw
      case rel => exact ⟨k + 1, by omega, by go_num, hq.more _⟩
      case measure => simp [intOf]; omega
    · have q17 := (hq.trans (Quiet.one _)).below w16.heap.size
      have K17 := bel_then K16 q17
      obtain ⟨ba, oa, rfl, hka, d0, d1⟩ := (S11.next q17).elem2 (fun _ => rfl) hall1
      have he : all[old.length] = r := by
        have h0 := HR.out.app
        subst h0
        simp
      rw [he] at d0 d1
      have hba := World.block_lt_of_cell? _ _ d0
      replace Er := Er.next q17
      replace Mm := Mm.next q17
      replace Bb := Bb.next q17
      replace Bs := Bs.next q17
      clear q17 S11 S12
      have hk2 : (old.length : Int) < (all.length : Int) := by omega
      have s0 : (r.command.toList == r.command.toList) = true := beq_self_eq_true _
      have s1 : (r.reply.toList == r.reply.toList) = true := beq_self_eq_true _
      have s2 : (B.durable.toList == B.durable.toList) = true := beq_self_eq_true _
      have s3 : (B.pending.toList == B.pending.toList) = true := beq_self_eq_true _
      have cEr := Er.cell
      have cMm := Mm.cell
      have cBb := Bb.cell
      have cBs := Bs.cell
      go_wp2_with fail
      go_region_held3 (fun w' => w'.cell? ⟨ba, oa + old.length * 2, none⟩ = some (.string r.command) ∧ w'.cell? ⟨ba, oa + old.length * 2 + 1, none⟩ = some (.string r.reply) ∧ w'.cell? ⟨(w1.heap.size + 1), 0, none⟩ = some (.string r.command) ∧ w'.cell? ⟨(w1.heap.size + 1), 1, none⟩ = some (.string r.reply) ∧ w'.cell? ⟨w3.heap.size, 0, none⟩ = some (.string M.durable) ∧ w'.cell? ⟨w3.heap.size, 1, none⟩ = some (.string M.pending) ∧ w'.cell? ⟨w3.heap.size, 2, none⟩ = some (.int .i64 M.count) ∧ w'.cell? ⟨w15.heap.size, 0, none⟩ = some (.string B.durable) ∧ w'.cell? ⟨w15.heap.size, 1, none⟩ = some (.string B.pending) ∧ w'.cell? ⟨w15.heap.size, 2, none⟩ = some (.int .i64 B.count) ∧ w'.cell? ⟨w13.heap.size, 0, none⟩ = some (.string B.durable) ∧ w'.cell? ⟨w13.heap.size, 1, none⟩ = some (.string B.pending) ∧ w'.cell? ⟨w13.heap.size, 2, none⟩ = some (.int .i64 B.count)) (go_keep)
      (first
        | (go_at_call 23
           refine (IsValidLog_any M _ hum (hg.next K17)).mono ?_
           rw [HR.out.valid]
           rintro e w18 ⟨rfl, b18⟩
           have K18 := bel_then K17 b18
           clear cEr cMm cBb cBs
           replace Er := Er.next b18
           replace Mm := Mm.next b18
           replace Bb := Bb.next b18
           replace Bs := Bs.next b18
           have d0' := ((bcell b18).1 _ _ hba).trans d0
           have d1' := ((bcell b18).1 _ _ hba).trans d1
           clear b18
           have cEr := Er.cell
           have cMm := Mm.cell
           have cBb := Bb.cell
           have cBs := Bs.cell))
      go_wp2_with fail
      go_ret
      exact ⟨rfl, K18⟩

end Go.Proofs.YtjangfhelagjnaaDoor
