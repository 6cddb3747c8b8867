/- Joined texts of this proof: Repl, LawReplayLog, Open, Open2, OpenE, OpenL, DoorK. -/
import Derived.ProofKit
import Derived.OpenShut
import Derived.ShutString
import Derived.ChangeOld
import Derived.Below
import Derived.Lib.SmallJoins
import Derived.Deep.Slices
import Derived.Deep.Fields
import Derived.JoinedTies
import Derived.Deep.DeepHandedRow
import Derived.JoinedCond
import Derived.LaidMore
import Derived.Lib.LaidTab
import Derived.SevenTiedAt
import Derived.Stop.Joined
import Derived.Stop.LaidErr
import Derived.Lay
import Derived.Test.YtflpcdffmpfdpaaGreatDoorRows
import Derived.Test.YtflpcdffmpfdpaaGreatDoorD01
import Derived.Test.YtflpcdffmpfdpaaGreatDoorB02
import Derived.Test.YtflpcdffmpfdpaaGreatDoorB01
import Derived.Test.YtflpcdffmpfdpaaGreatDoorB11
import Derived.Test.YtflpcdffmpfdpaaGreatDoorB13
import Derived.Test.YtflpcdffmpfdpaaGreatDoorY01
set_option maxRecDepth 100000
set_option maxHeartbeats 8000000
namespace Go.Proofs.YtflpcdffmpfdpaaGreatDoor
open Go.RowKit
theorem Sees.recd {w : World} {lo n k : Nat} {A : Option Addr} {xs : List LogRecord} (h : Sees w lo 2 A n (xs.flatMap LogRecord.enc)) (hk : k < n) :
  ∃ b off, A = some ⟨b, off, none⟩ ∧ ∃ hx : k < xs.length, w.cell? ⟨b, off + k * 2, none⟩ = some (.string xs[k].command) ∧ w.cell? ⟨b, off + k * 2 + 1, none⟩ = some (.string xs[k].reply) := h.elem2 (fun _ => rfl) hk
theorem jrr (l : Log) : (jqx l).2 = ja9 l := by
 unfold jqx
 split
 ·rename_i h; exact h.symm
 ·rename_i h; exact (Bool.not_eq_true _ ▸ h : ja9 l = false).symm
theorem jrb : emptyL.upto 1048576 := ⟨Nat.zero_le _, Nat.zero_le _⟩
def jr2 (w : World) (R : Int × Bool) (e : Ending) (w' : World) : Prop := e = .returned (.tuple #[.int .i64 R.1, .bool R.2]) ∧ Below w.heap.size w w'
theorem jq9 {e0 : Int} {l : Log} (h : (inB e0 1 8 && ja9 l) = false) : jq2 e0 l = (0, false) := by unfold jq2; rw [h]; rfl
theorem jq4 {e0 : Int} {l : Log} {L : List LogRecord} {n : Nat} (h : (inB e0 1 8 && ja9 l) = true) (hL : (jqx l).1 = L) (hn : jq1 (jr1 e0) emptyL L = n) : jq2 e0 l = ((n : Int), true) := by unfold jq2; rw [h, hL, hn]; rfl
theorem jr0 {s : ByteArray} : ∀ (f : Nat) {x : Recs}, (∀ e ∈ x.l, jgb e = true) → ∀ e ∈ (jjb s f x).l, jgb e = true
 | 0, _, h => h
 | f + 1, x, h => by
  cases g : jbn x.l.length (s.extract x.at_ s.size) with
  | none => rw [jbs g]; exact h
  | some r =>
   obtain ⟨e, n⟩ := r
   rw [jce g]
   obtain ⟨_, _, h1, _⟩ := jbv g
   exact jr0 f (fun y hy => by
    rcases List.mem_append.1 hy with hy | hy
    ·exact h y hy
    ·rw [List.mem_singleton.1 hy]; exact (jkt h1).1)
theorem jr7 (s : ByteArray) : ∀ e ∈ (allR s).l, jgb e = true := by
 rw [← jdo]
 exact jr0 61 (by simp)
theorem jrf {l : Log} {L : List LogRecord} (h : (jqx l).1 = L) : ∀ x ∈ L, x.command.size ≤ 160 ∧ x.reply.size ≤ 200 := by
 intro x hx
 rw [← h] at hx
 unfold jqx at hx
 split at hx
 ·obtain ⟨h2, h3, _⟩ := jdn (jr7 _ x hx)
  exact ⟨h2.2, h3⟩
 ·cases hx
theorem jri (e0 : Int) (l : Log) (w : World) (hs : l.upto 1048576) (hgl : GlE w) :
  Calls Tryz.prog 23 #[.int .i64 e0, .agg #[l.durable, l.pending, l.count]] w (jr2 w (jq2 e0 l)) := by
 have K := nB w (.cells #[l.durable, l.pending, l.count] 33)
 have P := nP w [l.durable, l.pending, l.count] 33
 obtain ⟨L, hL⟩ : ∃ L, (jqx l).1 = L := ⟨_, rfl⟩
 have HL := Lib.hid hL
 have HSZ := Lib.hid (jrf hL)
 obtain ⟨N, hN⟩ : ∃ N, L.length = N := ⟨_, rfl⟩
 have HN := Lib.hid hN
 have hN60 : N ≤ 60 := by rw [← hN, ← hL]; exact jrq l
 obtain ⟨vb, hvb⟩ : ∃ b, ja9 l = b := ⟨_, rfl⟩
 have HV := Lib.hid hvb
 obtain ⟨ib, hib⟩ : ∃ b, inB e0 1 8 = b := ⟨_, rfl⟩
 have HI := Lib.hid hib
 have CL := Lib.hid (fun W => jrd l W hs)
 unfold jrh at CL
 rw [hL, jrr, hvb, hN] at CL
 clear hL hN hvb hib
 go_enter Tryz.func23, Tryz.ntmps23
 go_upto_region 1 with fail
 generalize w.alloc _ = w0 at *
 have pc := P.cell
 go_wp2_with fail
 refine (jre e0 w0).mono ?_
 rw [HI.out]
 rintro e9 w1 ⟨A1, rfl, M, b9⟩
 replace P := P.next b9
 replace K := jaa K b9
 have hgw : w.heap.size ≤ w1.heap.size := K.size
 have U := nB w1 (.cells #[.int .i64 0, false, .slice A1 (jqw e0) (jqw e0), .string ⟨#[]⟩, .string ⟨#[]⟩, .int .i64 0] 35)
 have Y := nP w1 [.int .i64 0, false, .slice A1 (jqw e0) (jqw e0), .string ⟨#[]⟩, .string ⟨#[]⟩, .int .i64 0] 35
 have hzy := nZ w1 (.cells #[.int .i64 0, false, .slice A1 (jqw e0) (jqw e0), .string ⟨#[]⟩, .string ⟨#[]⟩, .int .i64 0] 35)
 replace P := P.next U
 replace M := M.next U
 replace K := jaa K U
 clear b9 U pc
 go_upto_region 2 with fail
 generalize w1.alloc _ = w2 at *
 generalize w1.heap.size = gc at *
 have pc := P.cell
 go_wp2_with fail
 refine (CL.out w2 (hgl.next K).gl).mono ?_
 rintro e9 w4 ⟨AL, cL, rfl, oL, b9⟩
 have hgc : gc < w2.heap.size := Y.lt
 replace K := jaa K b9
 replace Y := Y.next b9
 replace M := M.next b9
 have hW := Sees.of_own oL
 have hAL : ∀ b, jaj AL b → w2.heap.size ≤ b ∧ b < w4.heap.size := fun b hb => jai oL hb
 have hz4 := b9.size
 clear b9 pc P CL oL
 cases ib
 ·have HR := Lib.hid (show jq2 e0 l = (0, false) from jq9 (by rw [HI.out, HV.out]; rfl))
  go_wp2_with fail
  go_ret2
  rw [HR.out]
  exact ⟨rfl, K⟩
 cases vb
 ·have HR := Lib.hid (show jq2 e0 l = (0, false) from jq9 (by rw [HI.out, HV.out]; rfl))
  go_wp2_with fail
  go_ret2
  rw [HR.out]
  exact ⟨rfl, K⟩
 go_wp2_with fail
 have hlen0 : (jr1 e0).field.length = jqw e0 := List.length_replicate
 have HLE0 := Lib.hid hlen0
 clear hlen0
 go_loopw [32] (fun iv wr => ∃ (k : Nat) (r : RaceV) (lg : Log) (A1 : Option Addr) (c1 : Nat), k ≤ N ∧ iv = .int .i64 (k : Int) ∧ Hid (jq1 (jr1 e0) emptyL L = jq1 r lg (L.drop k) + k) ∧ Blk wr gc 35 [.int .i64 r.clock, .bool r.closed, .slice A1 r.field.length c1, .string lg.durable, .string lg.pending, .int .i64 lg.count] ∧ Stays wr gc (gc + 1) A1 r.field.length r.field ∧ Hid (ja0 r = true ∧ lg.upto 1048576) ∧ Only (fun b => b = gc ∨ w4.heap.size ≤ b) w4 wr ∧ Below w.heap.size w wr) (fun iv _ => N - (intOf iv).toNat)
 case atStart => exact ⟨0, jr1 e0, emptyL, A1, jqw e0, Nat.zero_le _, rfl, Lib.hid (by rw [List.drop_zero]; rfl), (by rw [HLE0.out]; exact Y), jb5 (M.at HLE0.out.symm) (fun b hb => by have h1 := hb.1; have h2 := hb.2; omega), Lib.hid ⟨jro HI.out, jrb⟩, Only.refl _ _, K⟩
 case round =>
  obtain ⟨k, r, lg, A1, c1, hk, rfl, HRN, P, X, HGD, O, K⟩ := hrel
  by_cases hlt : k < N
  ·have hlt1 : (k : Int) < (N : Int) := by omega
   have hkr : k < L.length := by rw [HN.out]; exact hlt
   obtain ⟨bL, oL, rfl, hkx, x0, x1⟩ := (hW.only O (fun b off e _ hb => by
    have h1 := hAL b (by rw [e]; rfl)
    rcases hb with hb | hb <;> omega)).recd hlt
   obtain ⟨le, hle⟩ : ∃ le, L[k] = le := ⟨_, rfl⟩
   have HS1 := HSZ.out L[k] (List.getElem_mem hkr)
   obtain ⟨D, hD⟩ : ∃ D, exM r lg le.command = D := ⟨_, rfl⟩
   have HHIT := Lib.hid (fun (h : D.reply = le.reply) => (jrs (r := r) (l := lg) hkr (by rw [hle, hD]; exact h)))
   have HMISS := Lib.hid (fun (h : ¬ D.reply = le.reply) => (jrg (r := r) (l := lg) hkr (by rw [hle, hD]; exact h)))
   rw [hle, hD] at HHIT
   rw [hle] at x0 x1 HS1
   have HGD2 := Lib.hid (show ja0 D.race = true ∧ D.log.upto 1048576 by rw [← hD]; exact ⟨jrz HGD.out.1, jr4 HGD.out.2⟩)
   have HCC := Lib.hid (fun W (h : Below wr.heap.size wr W) (hg : GlE W) => ExecuteCommand_any r.clock r.closed lg A1 r.field.length c1 r.field le.command W (X.below h).sees (jqz HGD.out.1).1 (jqz HGD.out.1).2.1 HGD.out.2 (by have := HS1.1; omega) hg)
   rw [show (⟨r.clock, r.closed, r.field⟩ : RaceV) = r from rfl, hD] at HCC
   clear hD hle
   have U := nB wr (.cells #[le.command, le.reply] 69)
   have E := nP wr [le.command, le.reply] 69
   have zl := P.lt
   replace P := P.next U
   replace O := O.then_ U
   replace K := jaa K U
   have hze := nZ wr (.cells #[le.command, le.reply] 69)
   go_upto_region 8 with fail
   generalize wr.alloc _ = wz at *
   have pc := P.cell
   have ec := E.cell
   have hzw := U.size
   go_wp2_with fail
   refine (HCC.out wz U (hgl.next K)).mono ?_
   clear HCC X pc ec x0 x1 U
   rintro e5 w5 ⟨A2, c2, rfl, M2, b9⟩
   have U := nB w5 (.cells #[D.race.clock, D.race.closed, .slice A2 D.race.field.length c2, D.log.durable, D.log.pending, D.log.count] 35)
   have Y := nP w5 [D.race.clock, D.race.closed, .slice A2 D.race.field.length c2, D.log.durable, D.log.pending, D.log.count] 35
   have z5 := b9.size
   have zy := nZ w5 (.cells #[D.race.clock, D.race.closed, .slice A2 D.race.field.length c2, D.log.durable, D.log.pending, D.log.count] 35)
   replace b9 := jaa b9 U
   replace M2 := M2.next U
   replace P := P.next b9
   replace E := E.next b9
   replace O := O.then_ b9
   replace K := jaa K b9
   clear b9 U
   go_upto_region 9 with fail
   generalize w5.alloc _ = w6 at *
   generalize wr.heap.size = ge at *
   generalize w5.heap.size = gy at *
   have yc := Y.cell
   have pc := P.cell
   have pf := P.frozen
   have ec := E.cell
   by_cases hq : D.reply = le.reply
   ·have HE := Lib.hid (HHIT.out hq)
    have es : (D.reply.toList == le.reply.toList) = true := by rw [hq]; exact beq_self_eq_true _
    have HRN2 := Lib.hid (show jq1 (jr1 e0) emptyL L = jq1 D.race D.log (L.drop (k + 1)) + (k + 1) by rw [HRN.out, HE.out]; omega)
    clear HE hq HHIT HMISS
    go_upto_region 11 with fail
    obtain ⟨P2, F⟩ := jal P (.int .i64 D.race.clock) (.bool D.race.closed) (.slice A2 D.race.field.length c2) (.string D.log.durable) (.string D.log.pending) (.int .i64 D.log.count)
    have M3 := M2.only F (fun b h1 (h2 : b = gc) => by have := h1.1; omega)
    have O2 := O.trans (F.mono fun b hb => Or.inl hb)
    have K2 := K.trans (F.below (fun b hb => by omega) K.size)
    have zE := F.size
    go_upto_region 12 with fail
    clear yc pc pf ec P Y M2 O K F E
    generalize (((((w6.setCell _ _).setCell _ _).setCell _ _).setCell _ _).setCell _ _).setCell _ _ = wv at *
    go_wp2_with fail
    go_roundw
    case rel => exact ⟨k + 1, D.race, D.log, A2, c2, by omega, by go_num, HRN2, P2, jb5 M3 (fun b hb => Or.inr (by have := hb.1; omega)), HGD2, O2, K2⟩
    case measure => simp [intOf] <;> omega
   ·have HE := Lib.hid (HMISS.out hq)
    have es : (D.reply.toList == le.reply.toList) = false := by rw [jcc, decide_eq_false hq]
    have HF := Lib.hid (show jq2 e0 l = ((k : Int), true) from jq4 (by rw [HI.out, HV.out]; rfl) HL.out (by rw [HRN.out, HE.out]; exact Nat.zero_add _))
    clear HE hq HHIT HMISS
    go_wp2_with fail
    go_ret2
    rw [HF.out]
    exact ⟨rfl, K⟩
  ·obtain rfl : k = N := by omega
   have hlt1 : ¬ (k : Int) < (k : Int) := by omega
   have HF := Lib.hid (show jq2 e0 l = ((k : Int), true) from jq4 (by rw [HI.out, HV.out]; rfl) HL.out (by have h9 := HRN.out; rw [List.drop_of_length_le (by rw [HN.out]; exact Nat.le_refl _)] at h9; rw [h9]; exact Nat.zero_add _))
   go_wp2_with fail
   go_ret2
   rw [HF.out]
   exact ⟨rfl, K⟩
theorem jq7 (e0 : Int) (l : Log) (w : World) (hs : l.upto 1048576) :
  Calls Tryz.prog 24 #[.int .i64 e0, .agg #[l.durable, l.pending, l.count]] w (jr2 w (jq2 e0 l)) := by
 have K := nB w (.cells #[l.durable, l.pending, l.count] 33)
 have P := nP w [l.durable, l.pending, l.count] 33
 obtain ⟨L, hL⟩ : ∃ L, (jqx l).1 = L := ⟨_, rfl⟩
 have HL := Lib.hid hL
 have HSZ := Lib.hid (jrf hL)
 obtain ⟨N, hN⟩ : ∃ N, L.length = N := ⟨_, rfl⟩
 have HN := Lib.hid hN
 have hN60 : N ≤ 60 := by rw [← hN, ← hL]; exact jrq l
 obtain ⟨vb, hvb⟩ : ∃ b, ja9 l = b := ⟨_, rfl⟩
 have HV := Lib.hid hvb
 obtain ⟨ib, hib⟩ : ∃ b, inB e0 1 8 = b := ⟨_, rfl⟩
 have HI := Lib.hid hib
 have CL := Lib.hid (fun W => jq5 l W hs)
 unfold jrh at CL
 rw [hL, jrr, hvb, hN] at CL
 clear hL hN hvb hib
 go_enter Tryz.func24, Tryz.ntmps24
 go_upto_region 1 with fail
 generalize w.alloc _ = w0 at *
 have pc := P.cell
 go_wp2_with fail
 refine (jq6 e0 w0).mono ?_
 rw [HI.out]
 rintro e9 w1 ⟨A1, rfl, M, b9⟩
 replace P := P.next b9
 replace K := jaa K b9
 have hgw : w.heap.size ≤ w1.heap.size := K.size
 have U := nB w1 (.cells #[.int .i64 0, false, .slice A1 (jqw e0) (jqw e0), .string ⟨#[]⟩, .string ⟨#[]⟩, .int .i64 0] 35)
 have Y := nP w1 [.int .i64 0, false, .slice A1 (jqw e0) (jqw e0), .string ⟨#[]⟩, .string ⟨#[]⟩, .int .i64 0] 35
 have hzy := nZ w1 (.cells #[.int .i64 0, false, .slice A1 (jqw e0) (jqw e0), .string ⟨#[]⟩, .string ⟨#[]⟩, .int .i64 0] 35)
 replace P := P.next U
 replace M := M.next U
 replace K := jaa K U
 clear b9 U pc
 go_upto_region 2 with fail
 generalize w1.alloc _ = w2 at *
 generalize w1.heap.size = gc at *
 have pc := P.cell
 cases ib
 ·have HR := Lib.hid (show jq2 e0 l = (0, false) from jq9 (by rw [HI.out, HV.out]; rfl))
  go_wp2_with fail
  go_ret2
  rw [HR.out]
  exact ⟨rfl, K⟩
 go_wp2_with fail
 refine (jed l w2 hs).mono ?_
 rw [HV.out]
 rintro e9 w3 ⟨rfl, b9⟩
 have hgc0 : gc < w2.heap.size := Y.lt
 replace K := jaa K b9
 replace Y := Y.next b9
 replace P := P.next b9
 replace M := M.next b9
 clear b9 pc
 have hgc : gc < w3.heap.size := Y.lt
 have pc := P.cell
 cases vb
 ·have HR := Lib.hid (show jq2 e0 l = (0, false) from jq9 (by rw [HI.out, HV.out]; rfl))
  go_wp2_with fail
  go_ret2
  rw [HR.out]
  exact ⟨rfl, K⟩
 go_wp2_with fail
 refine (CL.out w3).mono ?_
 rintro e9 w4 ⟨AL, cL, rfl, oL, b9⟩
 replace K := jaa K b9
 replace Y := Y.next b9
 replace M := M.next b9
 have hW := Sees.of_own oL
 have hAL : ∀ b, jaj AL b → w3.heap.size ≤ b ∧ b < w4.heap.size := fun b hb => jai oL hb
 have hz4 := b9.size
 clear b9 pc P CL oL
 go_wp2_with fail
 have hlen0 : (jr1 e0).field.length = jqw e0 := List.length_replicate
 have HLE0 := Lib.hid hlen0
 clear hlen0
 go_loopw [10, 11] (fun sv iv wr => ∃ (k : Nat) (r : RaceV) (lg : Log) (A1 : Option Addr) (c1 : Nat) (qv : ByteArray), k ≤ N ∧ iv = .int .i64 (k : Int) ∧ sv = .string qv ∧ Hid (jq1 (jr1 e0) emptyL L = jq1 r lg (L.drop k) + k) ∧ Blk wr gc 35 [.int .i64 r.clock, .bool r.closed, .slice A1 r.field.length c1, .string lg.durable, .string lg.pending, .int .i64 lg.count] ∧ Stays wr gc (gc + 1) A1 r.field.length r.field ∧ Hid (ja0 r = true ∧ lg.upto 1048576) ∧ Only (fun b => b = gc ∨ w4.heap.size ≤ b) w4 wr ∧ Below w.heap.size w wr) (fun _ iv _ => N - (intOf iv).toNat)
 case atStart => exact ⟨0, jr1 e0, emptyL, A1, jqw e0, _, Nat.zero_le _, rfl, rfl, Lib.hid (by rw [List.drop_zero]; rfl), (by rw [HLE0.out]; exact Y), jb5 (M.at HLE0.out.symm) (fun b hb => by have h1 := hb.1; have h2 := hb.2; omega), Lib.hid ⟨jro HI.out, jrb⟩, Only.refl _ _, K⟩
 case round =>
  obtain ⟨k, r, lg, A1, c1, qv, hk, rfl, rfl, HRN, P, X, HGD, O, K⟩ := hrel
  by_cases hlt : k < N
  ·have hlt1 : (k : Int) < (N : Int) := by omega
   have hkr : k < L.length := by rw [HN.out]; exact hlt
   obtain ⟨bL, oL, hALe, hkx, x0, x1⟩ := (hW.only O (fun b off e _ hb => by
    have h1 := hAL b (by rw [e]; rfl)
    rcases hb with hb | hb <;> omega)).recd hlt
   subst hALe
   have hbL := hAL bL rfl
   obtain ⟨le, hle⟩ : ∃ le, L[k] = le := ⟨_, rfl⟩
   have HS1 := HSZ.out L[k] (List.getElem_mem hkr)
   obtain ⟨D, hD⟩ : ∃ D, exM r lg le.command = D := ⟨_, rfl⟩
   have HHIT := Lib.hid (fun (h : D.reply = le.reply) => (jrs (r := r) (l := lg) hkr (by rw [hle, hD]; exact h)))
   have HMISS := Lib.hid (fun (h : ¬ D.reply = le.reply) => (jrg (r := r) (l := lg) hkr (by rw [hle, hD]; exact h)))
   rw [hle, hD] at HHIT
   rw [hle] at x0 x1 HS1
   have HGD2 := Lib.hid (show ja0 D.race = true ∧ D.log.upto 1048576 by rw [← hD]; exact ⟨jrz HGD.out.1, jr4 HGD.out.2⟩)
   have HCC := Lib.hid (fun W (h : Below wr.heap.size wr W) => specExecuteCommand_any r.clock r.closed lg A1 r.field.length c1 r.field le.command W (X.below h).sees (jqz HGD.out.1).1 (jqz HGD.out.1).2.1 HGD.out.2 (by have := HS1.1; omega))
   rw [show (⟨r.clock, r.closed, r.field⟩ : RaceV) = r from rfl, hD] at HCC
   clear hD hle
   have zl := P.lt
   have b9 := (Quiet.one wr).below wr.heap.size
   have Kr := b9
   have Kq := K
   clear K X
   replace x0 := (b9.cell (p := ⟨bL, oL + k * 2, none⟩) (World.block_lt_of_cell? _ _ x0)).trans x0
   replace x1 := (b9.cell (p := ⟨bL, oL + k * 2 + 1, none⟩) (World.block_lt_of_cell? _ _ x1)).trans x1
   replace P := P.next b9
   replace O := O.then_ b9
   replace Kq := jaa Kq b9
   clear b9
   have pc := P.cell
   go_upto_region 9 with fail
   refine wp_region_held_drew (S := fun w' => w'.cell? ⟨bL, oL + k * 2, none⟩ = some (.string le.command)) (by kernel_rfl) (by (try dsimp only); exact x0) (fun hH => ?_)
   generalize wr.drew = wz at *
   refine wQ 1 ?_
   refine wQ 2 ?_
   refine wQ 3 ?_
   refine wQ 4 ?_
   refine wQ 5 ?_
   refine wR (rs := [0]) (by kernel_rfl) (by simp) ?_
   refine aC rfl (fun K hK => ?_) aN
   go_simp
   refine hK.out _ _ (by (try dsimp only); exact x0) (fun hH => ?_)
   clear hK K
   try simp only [Act.put, pX]
   refine wR (rs := [6]) (by kernel_rfl) (by simp) ?_
   refine aC rfl (fun K hK => ?_) aN
   go_simp
   have zwr := Kr.size
   go_must (refine (HCC.out wz Kr).mono ?_)
   rintro e9 w5 ⟨A2, c2, he9, M2, b9⟩
   replace he9 : e9 = .returned (.tuple #[.agg #[D.race.clock, D.race.closed, .slice A2 D.race.field.length c2, D.log.durable, D.log.pending, D.log.count], .string D.reply]) := he9
   subst he9
   replace x0 := (b9.cell (p := ⟨bL, oL + k * 2, none⟩) (World.block_lt_of_cell? _ _ x0)).trans x0
   replace x1 := (b9.cell (p := ⟨bL, oL + k * 2 + 1, none⟩) (World.block_lt_of_cell? _ _ x1)).trans x1
   replace P := P.next b9
   replace O := O.then_ b9
   replace Kq := jaa Kq b9
   obtain ⟨zlo, hzlo⟩ : ∃ z, wz.heap.size = z := ⟨_, rfl⟩
   rw [hzlo] at M2 zwr
   have zP5 := P.lt
   clear b9 pc hzlo Kr
   have pc := P.cell
   have pf := P.frozen
   generalize w5 = wz at *
   go_wp2_with fail
   refine hK.out _ _ (by (try dsimp only); exact x0) (fun hH => ?_)
   clear hK K
   refine wQ 7 ?_
   refine wQ 8 ?_
   refine wQ 9 ?_
   refine wR (rs := [10]) (by kernel_rfl) (by simp) ?_
   refine aC rfl (fun K hK => ?_) aN
   go_simp
   refine hK.out _ _ (by (try dsimp only); have E := (jal P (.int .i64 D.race.clock) (.bool D.race.closed) (.slice A2 D.race.field.length c2) (.string D.log.durable) (.string D.log.pending) (.int .i64 D.log.count)).2; exact (jc5 E (fun (h : bL = _) => by omega) (World.block_lt_of_cell? _ _ x0)).trans x0) (fun hH => ?_)
   clear hK K
   try simp only [Act.put, pX]
   refine wQ 11 ?_
   refine wD (by kernel_rfl) ?_ _
   obtain ⟨P2, E⟩ := jal P (.int .i64 D.race.clock) (.bool D.race.closed) (.slice A2 D.race.field.length c2) (.string D.log.durable) (.string D.log.pending) (.int .i64 D.log.count)
   have M3 := M2.only E (fun b h1 (h2 : b = gc) => by have := h1.1; omega)
   have O2 := O.trans (E.mono fun b hb => Or.inl hb)
   have K2 := Kq.trans (E.below (fun b hb => by omega) Kq.size)
   have y1 := (jc5 E (fun (h : bL = _) => by omega) (World.block_lt_of_cell? _ _ x1)).trans x1
   have zE := E.size
   clear pc pf P M2 O Kq E x0 x1
   generalize (((((wz.setCell _ _).setCell _ _).setCell _ _).setCell _ _).setCell _ _).setCell _ _ = wv at *
   by_cases hq : D.reply = le.reply
   ·have HE := Lib.hid (HHIT.out hq)
    have es : (D.reply.toList == le.reply.toList) = true := by rw [hq]; exact beq_self_eq_true _
    have HRN2 := Lib.hid (show jq1 (jr1 e0) emptyL L = jq1 D.race D.log (L.drop (k + 1)) + (k + 1) by rw [HRN.out, HE.out]; omega)
    clear HE hq HHIT HMISS
    go_wp2_with fail
    go_roundw
    case rel => exact ⟨k + 1, D.race, D.log, A2, c2, D.reply, by omega, by go_num, rfl, HRN2, P2, jb5 M3 (fun b hb => Or.inr (by have := hb.1; omega)), HGD2, O2, K2⟩
    case measure => simp [intOf] <;> omega
   ·have HE := Lib.hid (HMISS.out hq)
    have es : (D.reply.toList == le.reply.toList) = false := by rw [jcc, decide_eq_false hq]
    have HF := Lib.hid (show jq2 e0 l = ((k : Int), true) from jq4 (by rw [HI.out, HV.out]; rfl) HL.out (by rw [HRN.out, HE.out]; exact Nat.zero_add _))
    clear HE hq HHIT HMISS
    go_wp2_with fail
    go_ret2
    rw [HF.out]
    exact ⟨rfl, K2⟩
  ·obtain rfl : k = N := by omega
   have hlt1 : ¬ (k : Int) < (k : Int) := by omega
   have HF := Lib.hid (show jq2 e0 l = ((k : Int), true) from jq4 (by rw [HI.out, HV.out]; rfl) HL.out (by have h9 := HRN.out; rw [List.drop_of_length_le (by rw [HN.out]; exact Nat.le_refl _)] at h9; rw [h9]; exact Nat.zero_add _))
   go_wp2_with fail
   go_ret2
   rw [HF.out]
   exact ⟨rfl, K⟩
theorem jq0 (e0 : Int) (l : Log) (w : World) (hk : l.upto 9223372036854775807) (hg : GlE w) :
  Calls Tryz.prog 6 #[.int .i64 e0, .agg #[l.durable, l.pending, l.count]] w fun e w' => e = .returned (.bool true) ∧ Below w.heap.size w w' := by
 have K := nB w (.cells #[l.durable, l.pending, l.count] 26)
 have Bx := nP w [l.durable, l.pending, l.count] 26
 go_enter Tryz.func6, Tryz.ntmps6
 go_wp2_with fail
 generalize w.alloc _ = w0 at *
 have Cx := Bx.cell
 go_wp2_with fail
 refine (jr6 l _ _ hk (by omega) (by omega)).mono ?_
 rintro e w1 ⟨lx, rfl, b9, rfl | ⟨px, qx, hu⟩⟩
 ·go_wp2_with fail
  go_ret
  exact ⟨rfl, jaa K b9⟩
 replace K := jaa K b9
 clear Cx
 replace Bx := Bx.next b9
 clear b9
 have Cx := Bx.cell
 obtain ⟨R, hR⟩ : ∃ R, jq2 e0 l = R := ⟨_, rfl⟩
 have CS := Lib.hid (fun W => jq7 e0 l W hu)
 have CI := Lib.hid (fun W (h : Below w.heap.size w W) => jri e0 l W hu (hg.next h))
 rw [hR] at CS CI
 clear hR
 obtain ⟨r1, r2⟩ := R
 have f1 : (r1 != r1) = false := bne_self_eq_false r1
 have f2 : (r2 != r2) = false := bne_self_eq_false r2
 go_wp2_with fail
 refine (jrt _ _ _ _).mono ?_
 rintro e w2 ⟨rfl, b9⟩
 replace K := jaa K b9
 clear Cx
 replace Bx := Bx.next b9
 clear b9
 have Cx := Bx.cell
 go_wp2_with fail
 refine (CS.out w2).mono ?_
 rintro e w3 ⟨rfl, b9⟩
 replace K := jaa K b9
 clear Cx
 replace Bx := Bx.next b9
 clear b9
 have Cx := Bx.cell
 go_wp2_with fail
 refine (jrt _ _ _ _).mono ?_
 rintro e w4 ⟨rfl, b9⟩
 replace K := jaa K b9
 clear Cx
 replace Bx := Bx.next b9
 clear b9
 have Cx := Bx.cell
 go_wp2_with fail
 refine (CI.out w4 K).mono ?_
 rintro e w5 ⟨rfl, b9⟩
 replace K := jaa K b9
 clear Cx
 replace Bx := Bx.next b9
 clear b9
 have Cx := Bx.cell
 go_wp2_with fail
 go_ret
 exact ⟨rfl, K⟩
end Go.Proofs.YtflpcdffmpfdpaaGreatDoor
namespace Go.Proofs.YtflpcdffmpfdpaaGreatDoor
open Go.ChangeShapes Go.WideShapes Go.ChangeAt Go.RowKit Go.Deep

section
variable {H : Type} {enc : TypeId × Value → H} {P : Program} {w : World} {base : Nat} {spare : Nat → Bool} {held : Bool}

theorem jrk {t : TypeId} {fs : Array Field} {fuel : Nat} {cs : List Value} {x : DataW H × List MemPlace} (hs : P.underlying t = some (.struct fs)) (hone : oneCellFields P fs = true) (hC : P.cellsOf t = fs.size)
  (h : DataW.trod enc P w base spare held fuel t cs = some x) :
  cs.length = fs.size ∧ ∃ n, ∀ (i : Nat) (f : Field), fs[i]? = some f → ∃ (v : Value) (y : DataW H × List MemPlace), cs[i]? = some v ∧ DataW.trod enc P w base spare held n f.type [v] = some y := by
 obtain ⟨xs, m, _, _, hcl, hl, hf⟩ := DataW.trod_struct hs h
 rw [hC] at hcl
 refine ⟨hcl, m, fun i f hi => ?_⟩
 obtain ⟨ho, hk⟩ := hone_of hone i f hi
 have hil : i < fs.size := (Array.getElem?_eq_some_iff.1 hi).1
 have h1 := hf i f hi
 rw [ho, hk, List.getElem?_eq_getElem (by rw [hl]; exact hil)] at h1
 have hone' : (cs.drop i).take 1 = [cs[i]'(by omega)] := by
  rw [List.drop_eq_getElem_cons (by omega)]
  rfl
 rw [hone'] at h1
 exact ⟨_, _, List.getElem?_eq_getElem (by omega), h1⟩
theorem jr8 {t n : Nat} {v : Value} {y : DataW H × List MemPlace} (ht : P.underlying t = some (.int .i64)) (h : DataW.trod enc P w base spare held n t [v] = some y) : ∃ z : Int, v = .int .i64 z ∧ (Lit.int .i64 z).wf = true := by
 obtain ⟨z, hz, _, hw⟩ := DataW.trod_int ht h
 exact ⟨z, by simpa using hz, hw⟩
theorem jra {t n : Nat} {v : Value} {y : DataW H × List MemPlace} (ht : P.underlying t = some .string) (h : DataW.trod enc P w base spare held n t [v] = some y) : ∃ z : ByteArray, v = .string z ∧ z.size ≤ maxLen := by
 obtain ⟨z, hz, _, hw⟩ := DataW.trod_string ht h
 exact ⟨z, by simpa using hz, hw⟩
end
theorem list3 {α : Type} {l : List α} {a b c : α} (hl : l.length = 3) (h0 : l[0]? = some a) (h1 : l[1]? = some b) (h2 : l[2]? = some c) : l = [a, b, c] := by
 match l, hl with
 | [_, _, _], _ => simp_all
end Go.Proofs.YtflpcdffmpfdpaaGreatDoor
namespace Go.Proofs.YtflpcdffmpfdpaaGreatDoor
open Go.ChangeShapes Go.WideShapes Go.ChangeAt Go.RowKit Go.Deep

section
variable {H : Type} {enc : TypeId × Value → H} {P : Program} {w : World} {base : Nat} {spare : Nat → Bool} {held : Bool}
end

end Go.Proofs.YtflpcdffmpfdpaaGreatDoor
namespace Go.Proofs.YtflpcdffmpfdpaaGreatDoor
open Go.ChangeShapes Go.WideShapes Go.ChangeAt Go.RowKit Go.Deep
theorem jrp : ownKnob Tryz.prog.godebug = none := by kernel_rfl
theorem jq8 : laidOutB Tryz.prog = true := by kernel_rfl
section
variable {H : Type} {enc : TypeId × Value → H} {w : World} {base : Nat} {spare : Nat → Bool} {held : Bool}
end
end Go.Proofs.YtflpcdffmpfdpaaGreatDoor
namespace Go.Proofs.YtflpcdffmpfdpaaGreatDoor
open Go.ChangeShapes Go.WideShapes Go.ChangeAt Go.RowKit Go.Deep
section
variable {H : Type} {enc : TypeId × Value → H} {w : World} {base : Nat} {spare : Nat → Bool} {held : Bool}
theorem jsd (n : Nat) (cs : List Value) (x : DataW H × List MemPlace) (h : DataW.trod enc Tryz.prog w base spare held n 26 cs = some x) : ∃ d : Log, cs = d.enc ∧ d.upto 9223372036854775807 := by
 obtain ⟨hl, m, hf⟩ := jrk Tryz.underlying26 (by kernel_rfl) (by kernel_rfl) h
 obtain ⟨v0, _, h0, t0⟩ := hf 0 _ rfl
 obtain ⟨v1, _, h1, t1⟩ := hf 1 _ rfl
 obtain ⟨v2, _, h2, t2⟩ := hf 2 _ rfl
 obtain ⟨a0, rfl, u0⟩ := jra Tryz.underlying9 t0
 obtain ⟨a1, rfl, u1⟩ := jra Tryz.underlying9 t1
 obtain ⟨a2, rfl, u2⟩ := jr8 Tryz.underlying3 t2
 exact ⟨⟨a0, a1, a2⟩, list3 hl h0 h1 h2, ⟨u0, u1⟩⟩
end
end Go.Proofs.YtflpcdffmpfdpaaGreatDoor
namespace Go.Proofs.YtflpcdffmpfdpaaGreatDoor
open Go.ChangeShapes Go.WideShapes Go.ChangeAt Go.RowKit

theorem jr5 {α β γ : Type} {o : Option (α × List β × γ)} (h : (o.any fun x => x.2.1.isEmpty) = true) : ∃ a c, o = some (a, [], c) := by
 match o, h with
 | some (a, [], c), _ => exact ⟨a, c, rfl⟩
theorem tPowK : (Tryz.prog.globals[1]?).map (·.type) = some 237 := by kernel_rfl
theorem dPowK : (Rows.laid_internal_strconv_uint64pow10 : DataW Unit) = Lib.tabData .u64 Lib.pow10Tab := by kernel_rfl
theorem gESK : Tryz.prog.globalNamed "strconv.ErrSyntax" = some 2 := by kernel_rfl
theorem jsb : (Tryz.prog.globals[2]?).map (·.type) = some 169 := by kernel_rfl
theorem starK : "*" ++ "errors.errorString" = "*errors.errorString" := by decide
theorem rowESK (u : TypeId) (h : Tryz.prog.typeName? 3 u = some "*errors.errorString") : u = 261 :=
 typeName_ptr_named (nm := "errors.errorString") (by rw [starK]; kernel_rfl) (by kernel_rfl) (by decide) u (by rw [starK]; exact h)
theorem jr9 : Tryz.prog.cellsOf 263 = 1 := by kernel_rfl
theorem jr3 : Tryz.prog.cellsOf 9 = 1 := by kernel_rfl
theorem jrv {W : World} (hL : laidMetH Tryz.prog [("math/bits.deBruijn32tab", Rows.laid_math_bits_deBruijn32tab), ("math/bits.deBruijn64tab", Rows.laid_math_bits_deBruijn64tab), ("internal/strconv.uint64pow10", Rows.laid_internal_strconv_uint64pow10), ("unicode/utf8.acceptRanges", Rows.laid_unicode_utf8_acceptRanges), ("strconv.ErrRange", Rows.laid_strconv_ErrRange), ("strconv.ErrSyntax", Rows.laid_strconv_ErrSyntax), ("unicode/utf8.first", Rows.laid_unicode_utf8_first)] W) (hsh : W.ShapedOpen Tryz.prog) : GlE W := by
 have hml : ∃ m, W.cell? ⟨0, 0, none⟩ = some (.int .i64 m) := Go.Proofs.cell_of_shapedOpen_int (zero := #[.int .i64 0]) (t := 3) hsh (of_decide_eq_true (by kernel_rfl)) (by kernel_rfl) rfl (by kernel_rfl) (by kernel_rfl) Tryz.underlying3
 rw [MakeChecks.laidMetH_plain _ _ _ (by kernel_rfl)] at hL
 have hL2 := hL
 obtain ⟨ps, ⟨g0, t0, cs0, f0, p0, q0, hg0, ht0, hv0, hd0, ⟨g1, t1, cs1, f1, p1, q1, hg1, ht1, hv1, hd1, ⟨g2, t2, cs2, f2, p2, q2, hg2, ht2, hv2, hd2, _, _⟩, _⟩, _⟩, _, _⟩ := hL
 obtain ⟨a0, s0, hv9, -, -, -⟩ := laid_sentinel hL2.tail.tail.tail.tail.tail gESK jsb Tryz.underlying169 rowESK Tryz.underlying261 Tryz.underlying263 rfl rfl Tryz.underlying9 jr9 jr3
 refine ⟨⟨?_, hml⟩, ⟨_, by have h0 := World.var?_cell gESK hv9 0; simpa using h0, Or.inr ⟨_, _, rfl⟩⟩⟩
 obtain rfl := Option.some.inj (gPow.symm.trans hg2)
 obtain rfl := Option.some.inj (tPowK.symm.trans ht2)
 rw [dPowK] at hd2
 unfold Lib.TabIs
 rw [hv2, ← Lib.cells_of_tab Tryz.underlying237 Tryz.underlying86 (by kernel_rfl) (by kernel_rfl) hd2]

end Go.Proofs.YtflpcdffmpfdpaaGreatDoor
