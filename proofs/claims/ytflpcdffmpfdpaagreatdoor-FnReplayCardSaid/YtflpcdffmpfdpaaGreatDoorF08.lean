/- Joined texts of this proof: Repl, ReplQ, SplS, VCon, VBig. -/
import Derived.Deep.CutBlock
import Derived.Test.YtflpcdffmpfdpaaGreatDoorF03
import Derived.Test.YtflpcdffmpfdpaaGreatDoorF07
import Derived.Test.YtflpcdffmpfdpaaGreatDoorB13
import Derived.Test.YtflpcdffmpfdpaaGreatDoorB02
import Derived.Test.YtflpcdffmpfdpaaGreatDoorB01
import Derived.Test.YtflpcdffmpfdpaaGreatDoorV01
set_option maxRecDepth 100000
set_option maxHeartbeats 8000000
namespace Go.Proofs.YtflpcdffmpfdpaaGreatDoor
open Go.RowKit
theorem Sees.recd {w : World} {lo n k : Nat} {A : Option Addr} {xs : List LogRecord} (h : Sees w lo 2 A n (xs.flatMap LogRecord.enc)) (hk : k < n) :
  ∃ b off, A = some ⟨b, off, none⟩ ∧ ∃ hx : k < xs.length, w.cell? ⟨b, off + k * 2, none⟩ = some (.string xs[k].command) ∧ w.cell? ⟨b, off + k * 2 + 1, none⟩ = some (.string xs[k].reply) := h.elem2 (fun _ => rfl) hk
theorem jtm (l : Log) : (jq4 l).2 = ja9 l := by
 unfold jq4
 split
 ·rename_i h; exact h.symm
 ·rename_i h; exact (Bool.not_eq_true _ ▸ h : ja9 l = false).symm
theorem jru : emptyL.upto 1048576 := ⟨Nat.zero_le _, Nat.zero_le _⟩
def jva (w : World) (R : Int × Bool) (e : Ending) (w' : World) : Prop := e = .returned (.tuple #[.int .i64 R.1, .bool R.2]) ∧ Below w.heap.size w w'
theorem jsa {e0 : Int} {l : Log} (h : (inB e0 1 8 && ja9 l) = false) : jrd e0 l = (0, false) := by unfold jrd; rw [h]; rfl
theorem jry {e0 : Int} {l : Log} {L : List LogRecord} {n : Nat} (h : (inB e0 1 8 && ja9 l) = true) (hL : (jq4 l).1 = L) (hn : jrk (jsx e0) emptyL L = n) : jrd e0 l = ((n : Int), true) := by unfold jrd; rw [h, hL, hn]; rfl
theorem jt4 {s : ByteArray} : ∀ (f : Nat) {x : Recs}, (∀ e ∈ x.l, jgb e = true) → ∀ e ∈ (jjb s f x).l, jgb e = true
 | 0, _, h => h
 | f + 1, x, h => by
  cases g : jbn x.l.length (s.extract x.at_ s.size) with
  | none => rw [jbs g]; exact h
  | some r =>
   obtain ⟨e, n⟩ := r
   rw [jce g]
   obtain ⟨_, _, h1, _⟩ := jbv g
   exact jt4 f (fun y hy => by
    rcases List.mem_append.1 hy with hy | hy
    ·exact h y hy
    ·rw [List.mem_singleton.1 hy]; exact (jkt h1).1)
theorem jvm (s : ByteArray) : ∀ e ∈ (allR s).l, jgb e = true := by
 rw [← jdo]
 exact jt4 61 (by simp)
theorem jsq {l : Log} {L : List LogRecord} (h : (jq4 l).1 = L) : ∀ x ∈ L, x.command.size ≤ 160 ∧ x.reply.size ≤ 200 := by
 intro x hx
 rw [← h] at hx
 unfold jq4 at hx
 split at hx
 ·obtain ⟨h2, h3, _⟩ := jdn (jvm _ x hx)
  exact ⟨h2.2, h3⟩
 ·cases hx
theorem jrj (e0 : Int) (l : Log) (w : World) (hs : l.upto 1048576) (hgl : GlE w) :
  Calls Tryz.prog 23 #[.int .i64 e0, .agg #[l.durable, l.pending, l.count]] w (jva w (jrd e0 l)) := by
 have K := nB w (.cells #[l.durable, l.pending, l.count] 33)
 have P := nP w [l.durable, l.pending, l.count] 33
 obtain ⟨L, hL⟩ : ∃ L, (jq4 l).1 = L := ⟨_, rfl⟩
 have HL := Lib.hid hL
 have HSZ := Lib.hid (jsq hL)
 obtain ⟨N, hN⟩ : ∃ N, L.length = N := ⟨_, rfl⟩
 have HN := Lib.hid hN
 have hN60 : N ≤ 60 := by rw [← hN, ← hL]; exact js5 l
 obtain ⟨vb, hvb⟩ : ∃ b, ja9 l = b := ⟨_, rfl⟩
 have HV := Lib.hid hvb
 obtain ⟨ib, hib⟩ : ∃ b, inB e0 1 8 = b := ⟨_, rfl⟩
 have HI := Lib.hid hib
 have CL := Lib.hid (fun W => jsm l W hs)
 unfold js2 at CL
 rw [hL, jtm, hvb, hN] at CL
 clear hL hN hvb hib
 go_enter Tryz.func23, Tryz.ntmps23
 go_upto_region 1 with fail
 generalize w.alloc _ = w0 at *
 have pc := P.cell
 go_wp2_with fail
 refine (jrt e0 w0).mono ?_
 rw [HI.out]
 rintro e9 w1 ⟨A1, rfl, M, b9⟩
 replace P := P.next b9
 replace K := jaa K b9
 have hgw : w.heap.size ≤ w1.heap.size := K.size
 have U := nB w1 (.cells #[.int .i64 0, false, .slice A1 (jqz e0) (jqz e0), .string ⟨#[]⟩, .string ⟨#[]⟩, .int .i64 0] 35)
 have Y := nP w1 [.int .i64 0, false, .slice A1 (jqz e0) (jqz e0), .string ⟨#[]⟩, .string ⟨#[]⟩, .int .i64 0] 35
 have hzy := nZ w1 (.cells #[.int .i64 0, false, .slice A1 (jqz e0) (jqz e0), .string ⟨#[]⟩, .string ⟨#[]⟩, .int .i64 0] 35)
 replace P := P.next U
 replace M := M.next U
 replace K := jaa K U
 clear b9 U pc
 go_upto_region 2 with fail
 generalize w1.alloc _ = w2 at *
 generalize w1.heap.size = gc at *
 have pc := P.cell
 go_wp2_with fail
 refine (CL.out w2 (hgl.next K).gl).mono ?_
 rintro e9 w4 ⟨AL, cL, rfl, oL, b9⟩
 have hgc : gc < w2.heap.size := Y.lt
 replace K := jaa K b9
 replace Y := Y.next b9
 replace M := M.next b9
 have hW := Sees.of_own oL
 have hAL : ∀ b, jaj AL b → w2.heap.size ≤ b ∧ b < w4.heap.size := fun b hb => jai oL hb
 have hz4 := b9.size
 clear b9 pc P CL oL
 cases ib
 ·have HR := Lib.hid (show jrd e0 l = (0, false) from jsa (by rw [HI.out, HV.out]; rfl))
  go_wp2_with fail
  go_ret2
  rw [HR.out]
  exact ⟨rfl, K⟩
 cases vb
 ·have HR := Lib.hid (show jrd e0 l = (0, false) from jsa (by rw [HI.out, HV.out]; rfl))
  go_wp2_with fail
  go_ret2
  rw [HR.out]
  exact ⟨rfl, K⟩
 go_wp2_with fail
 have hlen0 : (jsx e0).field.length = jqz e0 := List.length_replicate
 have HLE0 := Lib.hid hlen0
 clear hlen0
 go_loopw [32] (fun iv wr => ∃ (k : Nat) (r : RaceV) (lg : Log) (A1 : Option Addr) (c1 : Nat), k ≤ N ∧ iv = .int .i64 (k : Int) ∧ Hid (jrk (jsx e0) emptyL L = jrk r lg (L.drop k) + k) ∧ Blk wr gc 35 [.int .i64 r.clock, .bool r.closed, .slice A1 r.field.length c1, .string lg.durable, .string lg.pending, .int .i64 lg.count] ∧ Stays wr gc (gc + 1) A1 r.field.length r.field ∧ Hid (ja0 r = true ∧ lg.upto 1048576) ∧ Only (fun b => b = gc ∨ w4.heap.size ≤ b) w4 wr ∧ Below w.heap.size w wr) (fun iv _ => N - (intOf iv).toNat)
 case atStart => exact ⟨0, jsx e0, emptyL, A1, jqz e0, Nat.zero_le _, rfl, Lib.hid (by rw [List.drop_zero]; rfl), (by rw [HLE0.out]; exact Y), jb5 (M.at HLE0.out.symm) (fun b hb => by have h1 := hb.1; have h2 := hb.2; omega), Lib.hid ⟨jrm HI.out, jru⟩, Only.refl _ _, K⟩
 case round =>
  obtain ⟨k, r, lg, A1, c1, hk, rfl, HRN, P, X, HGD, O, K⟩ := hrel
  by_cases hlt : k < N
  ·have hlt1 : (k : Int) < (N : Int) := by omega
   have hkr : k < L.length := by rw [HN.out]; exact hlt
   obtain ⟨bL, oL, rfl, hkx, x0, x1⟩ := (hW.only O (fun b off e _ hb => by
    have h1 := hAL b (by rw [e]; rfl)
    rcases hb with hb | hb <;> omega)).recd hlt
   obtain ⟨le, hle⟩ : ∃ le, L[k] = le := ⟨_, rfl⟩
   have HS1 := HSZ.out L[k] (List.getElem_mem hkr)
   obtain ⟨D, hD⟩ : ∃ D, exM r lg le.command = D := ⟨_, rfl⟩
   have HHIT := Lib.hid (fun (h : D.reply = le.reply) => (jtg (r := r) (l := lg) hkr (by rw [hle, hD]; exact h)))
   have HMISS := Lib.hid (fun (h : ¬ D.reply = le.reply) => (jsz (r := r) (l := lg) hkr (by rw [hle, hD]; exact h)))
   rw [hle, hD] at HHIT
   rw [hle] at x0 x1 HS1
   have HGD2 := Lib.hid (show ja0 D.race = true ∧ D.log.upto 1048576 by rw [← hD]; exact ⟨jt5 HGD.out.1, jrg HGD.out.2⟩)
   have HCC := Lib.hid (fun W (h : Below wr.heap.size wr W) (hg : GlE W) => ExecuteCommand_any r.clock r.closed lg A1 r.field.length c1 r.field le.command W (X.below h).sees (jra HGD.out.1).1 (jra HGD.out.1).2.1 HGD.out.2 (by have := HS1.1; omega) hg)
   rw [show (⟨r.clock, r.closed, r.field⟩ : RaceV) = r from rfl, hD] at HCC
   clear hD hle
   have U := nB wr (.cells #[le.command, le.reply] 69)
   have E := nP wr [le.command, le.reply] 69
   have zl := P.lt
   replace P := P.next U
   replace O := O.then_ U
   replace K := jaa K U
   have hze := nZ wr (.cells #[le.command, le.reply] 69)
   go_upto_region 8 with fail
   generalize wr.alloc _ = wz at *
   have pc := P.cell
   have ec := E.cell
   have hzw := U.size
   go_wp2_with fail
   refine (HCC.out wz U (hgl.next K)).mono ?_
   clear HCC X pc ec x0 x1 U
   rintro e5 w5 ⟨A2, c2, rfl, M2, b9⟩
   have U := nB w5 (.cells #[D.race.clock, D.race.closed, .slice A2 D.race.field.length c2, D.log.durable, D.log.pending, D.log.count] 35)
   have Y := nP w5 [D.race.clock, D.race.closed, .slice A2 D.race.field.length c2, D.log.durable, D.log.pending, D.log.count] 35
   have z5 := b9.size
   have zy := nZ w5 (.cells #[D.race.clock, D.race.closed, .slice A2 D.race.field.length c2, D.log.durable, D.log.pending, D.log.count] 35)
   replace b9 := jaa b9 U
   replace M2 := M2.next U
   replace P := P.next b9
   replace E := E.next b9
   replace O := O.then_ b9
   replace K := jaa K b9
   clear b9 U
   go_upto_region 9 with fail
   generalize w5.alloc _ = w6 at *
   generalize wr.heap.size = ge at *
   generalize w5.heap.size = gy at *
   have yc := Y.cell
   have pc := P.cell
   have pf := P.frozen
   have ec := E.cell
   by_cases hq : D.reply = le.reply
   ·have HE := Lib.hid (HHIT.out hq)
    have es : (D.reply.toList == le.reply.toList) = true := by rw [hq]; exact beq_self_eq_true _
    have HRN2 := Lib.hid (show jrk (jsx e0) emptyL L = jrk D.race D.log (L.drop (k + 1)) + (k + 1) by rw [HRN.out, HE.out]; omega)
    clear HE hq HHIT HMISS
    go_upto_region 11 with fail
    obtain ⟨P2, F⟩ := jal P (.int .i64 D.race.clock) (.bool D.race.closed) (.slice A2 D.race.field.length c2) (.string D.log.durable) (.string D.log.pending) (.int .i64 D.log.count)
    have M3 := M2.only F (fun b h1 (h2 : b = gc) => by have := h1.1; omega)
    have O2 := O.trans (F.mono fun b hb => Or.inl hb)
    have K2 := K.trans (F.below (fun b hb => by omega) K.size)
    have zE := F.size
    go_upto_region 12 with fail
    clear yc pc pf ec P Y M2 O K F E
    generalize (((((w6.setCell _ _).setCell _ _).setCell _ _).setCell _ _).setCell _ _).setCell _ _ = wv at *
    go_wp2_with fail
    go_roundw
    case rel => exact ⟨k + 1, D.race, D.log, A2, c2, by omega, by go_num, HRN2, P2, jb5 M3 (fun b hb => Or.inr (by have := hb.1; omega)), HGD2, O2, K2⟩
    case measure => simp [intOf] <;> omega
   ·have HE := Lib.hid (HMISS.out hq)
    have es : (D.reply.toList == le.reply.toList) = false := by rw [jcc, decide_eq_false hq]
    have HF := Lib.hid (show jrd e0 l = ((k : Int), true) from jry (by rw [HI.out, HV.out]; rfl) HL.out (by rw [HRN.out, HE.out]; exact Nat.zero_add _))
    clear HE hq HHIT HMISS
    go_wp2_with fail
    go_ret2
    rw [HF.out]
    exact ⟨rfl, K⟩
  ·obtain rfl : k = N := by omega
   have hlt1 : ¬ (k : Int) < (k : Int) := by omega
   have HF := Lib.hid (show jrd e0 l = ((k : Int), true) from jry (by rw [HI.out, HV.out]; rfl) HL.out (by have h9 := HRN.out; rw [List.drop_of_length_le (by rw [HN.out]; exact Nat.le_refl _)] at h9; rw [h9]; exact Nat.zero_add _))
   go_wp2_with fail
   go_ret2
   rw [HF.out]
   exact ⟨rfl, K⟩
theorem jr4 (e0 : Int) (l : Log) (w : World) (hs : l.upto 1048576) :
  Calls Tryz.prog 24 #[.int .i64 e0, .agg #[l.durable, l.pending, l.count]] w (jva w (jrd e0 l)) := by
 have K := nB w (.cells #[l.durable, l.pending, l.count] 33)
 have P := nP w [l.durable, l.pending, l.count] 33
 obtain ⟨L, hL⟩ : ∃ L, (jq4 l).1 = L := ⟨_, rfl⟩
 have HL := Lib.hid hL
 have HSZ := Lib.hid (jsq hL)
 obtain ⟨N, hN⟩ : ∃ N, L.length = N := ⟨_, rfl⟩
 have HN := Lib.hid hN
 have hN60 : N ≤ 60 := by rw [← hN, ← hL]; exact js5 l
 obtain ⟨vb, hvb⟩ : ∃ b, ja9 l = b := ⟨_, rfl⟩
 have HV := Lib.hid hvb
 obtain ⟨ib, hib⟩ : ∃ b, inB e0 1 8 = b := ⟨_, rfl⟩
 have HI := Lib.hid hib
 have CL := Lib.hid (fun W => jrx l W hs)
 unfold js2 at CL
 rw [hL, jtm, hvb, hN] at CL
 clear hL hN hvb hib
 go_enter Tryz.func24, Tryz.ntmps24
 go_upto_region 1 with fail
 generalize w.alloc _ = w0 at *
 have pc := P.cell
 go_wp2_with fail
 refine (jq5 e0 w0).mono ?_
 rw [HI.out]
 rintro e9 w1 ⟨A1, rfl, M, b9⟩
 replace P := P.next b9
 replace K := jaa K b9
 have hgw : w.heap.size ≤ w1.heap.size := K.size
 have U := nB w1 (.cells #[.int .i64 0, false, .slice A1 (jqz e0) (jqz e0), .string ⟨#[]⟩, .string ⟨#[]⟩, .int .i64 0] 35)
 have Y := nP w1 [.int .i64 0, false, .slice A1 (jqz e0) (jqz e0), .string ⟨#[]⟩, .string ⟨#[]⟩, .int .i64 0] 35
 have hzy := nZ w1 (.cells #[.int .i64 0, false, .slice A1 (jqz e0) (jqz e0), .string ⟨#[]⟩, .string ⟨#[]⟩, .int .i64 0] 35)
 replace P := P.next U
 replace M := M.next U
 replace K := jaa K U
 clear b9 U pc
 go_upto_region 2 with fail
 generalize w1.alloc _ = w2 at *
 generalize w1.heap.size = gc at *
 have pc := P.cell
 cases ib
 ·have HR := Lib.hid (show jrd e0 l = (0, false) from jsa (by rw [HI.out, HV.out]; rfl))
  go_wp2_with fail
  go_ret2
  rw [HR.out]
  exact ⟨rfl, K⟩
 go_wp2_with fail
 refine (jed l w2 hs).mono ?_
 rw [HV.out]
 rintro e9 w3 ⟨rfl, b9⟩
 have hgc0 : gc < w2.heap.size := Y.lt
 replace K := jaa K b9
 replace Y := Y.next b9
 replace P := P.next b9
 replace M := M.next b9
 clear b9 pc
 have hgc : gc < w3.heap.size := Y.lt
 have pc := P.cell
 cases vb
 ·have HR := Lib.hid (show jrd e0 l = (0, false) from jsa (by rw [HI.out, HV.out]; rfl))
  go_wp2_with fail
  go_ret2
  rw [HR.out]
  exact ⟨rfl, K⟩
 go_wp2_with fail
 refine (CL.out w3).mono ?_
 rintro e9 w4 ⟨AL, cL, rfl, oL, b9⟩
 replace K := jaa K b9
 replace Y := Y.next b9
 replace M := M.next b9
 have hW := Sees.of_own oL
 have hAL : ∀ b, jaj AL b → w3.heap.size ≤ b ∧ b < w4.heap.size := fun b hb => jai oL hb
 have hz4 := b9.size
 clear b9 pc P CL oL
 go_wp2_with fail
 have hlen0 : (jsx e0).field.length = jqz e0 := List.length_replicate
 have HLE0 := Lib.hid hlen0
 clear hlen0
 go_loopw [10, 11] (fun sv iv wr => ∃ (k : Nat) (r : RaceV) (lg : Log) (A1 : Option Addr) (c1 : Nat) (qv : ByteArray), k ≤ N ∧ iv = .int .i64 (k : Int) ∧ sv = .string qv ∧ Hid (jrk (jsx e0) emptyL L = jrk r lg (L.drop k) + k) ∧ Blk wr gc 35 [.int .i64 r.clock, .bool r.closed, .slice A1 r.field.length c1, .string lg.durable, .string lg.pending, .int .i64 lg.count] ∧ Stays wr gc (gc + 1) A1 r.field.length r.field ∧ Hid (ja0 r = true ∧ lg.upto 1048576) ∧ Only (fun b => b = gc ∨ w4.heap.size ≤ b) w4 wr ∧ Below w.heap.size w wr) (fun _ iv _ => N - (intOf iv).toNat)
 case atStart => exact ⟨0, jsx e0, emptyL, A1, jqz e0, _, Nat.zero_le _, rfl, rfl, Lib.hid (by rw [List.drop_zero]; rfl), (by rw [HLE0.out]; exact Y), jb5 (M.at HLE0.out.symm) (fun b hb => by have h1 := hb.1; have h2 := hb.2; omega), Lib.hid ⟨jrm HI.out, jru⟩, Only.refl _ _, K⟩
 case round =>
  obtain ⟨k, r, lg, A1, c1, qv, hk, rfl, rfl, HRN, P, X, HGD, O, K⟩ := hrel
  by_cases hlt : k < N
  ·have hlt1 : (k : Int) < (N : Int) := by omega
   have hkr : k < L.length := by rw [HN.out]; exact hlt
   obtain ⟨bL, oL, hALe, hkx, x0, x1⟩ := (hW.only O (fun b off e _ hb => by
    have h1 := hAL b (by rw [e]; rfl)
    rcases hb with hb | hb <;> omega)).recd hlt
   subst hALe
   have hbL := hAL bL rfl
   obtain ⟨le, hle⟩ : ∃ le, L[k] = le := ⟨_, rfl⟩
   have HS1 := HSZ.out L[k] (List.getElem_mem hkr)
   obtain ⟨D, hD⟩ : ∃ D, exM r lg le.command = D := ⟨_, rfl⟩
   have HHIT := Lib.hid (fun (h : D.reply = le.reply) => (jtg (r := r) (l := lg) hkr (by rw [hle, hD]; exact h)))
   have HMISS := Lib.hid (fun (h : ¬ D.reply = le.reply) => (jsz (r := r) (l := lg) hkr (by rw [hle, hD]; exact h)))
   rw [hle, hD] at HHIT
   rw [hle] at x0 x1 HS1
   have HGD2 := Lib.hid (show ja0 D.race = true ∧ D.log.upto 1048576 by rw [← hD]; exact ⟨jt5 HGD.out.1, jrg HGD.out.2⟩)
   have HCC := Lib.hid (fun W (h : Below wr.heap.size wr W) => specExecuteCommand_any r.clock r.closed lg A1 r.field.length c1 r.field le.command W (X.below h).sees (jra HGD.out.1).1 (jra HGD.out.1).2.1 HGD.out.2 (by have := HS1.1; omega))
   rw [show (⟨r.clock, r.closed, r.field⟩ : RaceV) = r from rfl, hD] at HCC
   clear hD hle
   have zl := P.lt
   have b9 := (Quiet.one wr).below wr.heap.size
   have Kr := b9
   have Kq := K
   clear K X
   replace x0 := (b9.cell (p := ⟨bL, oL + k * 2, none⟩) (World.block_lt_of_cell? _ _ x0)).trans x0
   replace x1 := (b9.cell (p := ⟨bL, oL + k * 2 + 1, none⟩) (World.block_lt_of_cell? _ _ x1)).trans x1
   replace P := P.next b9
   replace O := O.then_ b9
   replace Kq := jaa Kq b9
   clear b9
   have pc := P.cell
   go_upto_region 9 with fail
   refine wp_region_held_drew (S := fun w' => w'.cell? ⟨bL, oL + k * 2, none⟩ = some (.string le.command)) (by kernel_rfl) (by (try dsimp only); exact x0) (fun hH => ?_)
   generalize wr.drew = wz at *
   refine wQ 1 ?_
   refine wQ 2 ?_
   refine wQ 3 ?_
   refine wQ 4 ?_
   refine wQ 5 ?_
   refine wR (rs := [0]) (by kernel_rfl) (by simp) ?_
   refine aC rfl (fun K hK => ?_) aN
   go_simp
   refine hK.out _ _ (by (try dsimp only); exact x0) (fun hH => ?_)
   clear hK K
   try simp only [Act.put, pX]
   refine wR (rs := [6]) (by kernel_rfl) (by simp) ?_
   refine aC rfl (fun K hK => ?_) aN
   go_simp
   have zwr := Kr.size
   go_must (refine (HCC.out wz Kr).mono ?_)
   rintro e9 w5 ⟨A2, c2, he9, M2, b9⟩
   replace he9 : e9 = .returned (.tuple #[.agg #[D.race.clock, D.race.closed, .slice A2 D.race.field.length c2, D.log.durable, D.log.pending, D.log.count], .string D.reply]) := he9
   subst he9
   replace x0 := (b9.cell (p := ⟨bL, oL + k * 2, none⟩) (World.block_lt_of_cell? _ _ x0)).trans x0
   replace x1 := (b9.cell (p := ⟨bL, oL + k * 2 + 1, none⟩) (World.block_lt_of_cell? _ _ x1)).trans x1
   replace P := P.next b9
   replace O := O.then_ b9
   replace Kq := jaa Kq b9
   obtain ⟨zlo, hzlo⟩ : ∃ z, wz.heap.size = z := ⟨_, rfl⟩
   rw [hzlo] at M2 zwr
   have zP5 := P.lt
   clear b9 pc hzlo Kr
   have pc := P.cell
   have pf := P.frozen
   generalize w5 = wz at *
   go_wp2_with fail
   refine hK.out _ _ (by (try dsimp only); exact x0) (fun hH => ?_)
   clear hK K
   refine wQ 7 ?_
   refine wQ 8 ?_
   refine wQ 9 ?_
   refine wR (rs := [10]) (by kernel_rfl) (by simp) ?_
   refine aC rfl (fun K hK => ?_) aN
   go_simp
   refine hK.out _ _ (by (try dsimp only); have E := (jal P (.int .i64 D.race.clock) (.bool D.race.closed) (.slice A2 D.race.field.length c2) (.string D.log.durable) (.string D.log.pending) (.int .i64 D.log.count)).2; exact (jc5 E (fun (h : bL = _) => by omega) (World.block_lt_of_cell? _ _ x0)).trans x0) (fun hH => ?_)
   clear hK K
   try simp only [Act.put, pX]
   refine wQ 11 ?_
   refine wD (by kernel_rfl) ?_ _
   obtain ⟨P2, E⟩ := jal P (.int .i64 D.race.clock) (.bool D.race.closed) (.slice A2 D.race.field.length c2) (.string D.log.durable) (.string D.log.pending) (.int .i64 D.log.count)
   have M3 := M2.only E (fun b h1 (h2 : b = gc) => by have := h1.1; omega)
   have O2 := O.trans (E.mono fun b hb => Or.inl hb)
   have K2 := Kq.trans (E.below (fun b hb => by omega) Kq.size)
   have y1 := (jc5 E (fun (h : bL = _) => by omega) (World.block_lt_of_cell? _ _ x1)).trans x1
   have zE := E.size
   clear pc pf P M2 O Kq E x0 x1
   generalize (((((wz.setCell _ _).setCell _ _).setCell _ _).setCell _ _).setCell _ _).setCell _ _ = wv at *
   by_cases hq : D.reply = le.reply
   ·have HE := Lib.hid (HHIT.out hq)
    have es : (D.reply.toList == le.reply.toList) = true := by rw [hq]; exact beq_self_eq_true _
    have HRN2 := Lib.hid (show jrk (jsx e0) emptyL L = jrk D.race D.log (L.drop (k + 1)) + (k + 1) by rw [HRN.out, HE.out]; omega)
    clear HE hq HHIT HMISS
    go_wp2_with fail
    go_roundw
    case rel => exact ⟨k + 1, D.race, D.log, A2, c2, D.reply, by omega, by go_num, rfl, HRN2, P2, jb5 M3 (fun b hb => Or.inr (by have := hb.1; omega)), HGD2, O2, K2⟩
    case measure => simp [intOf] <;> omega
   ·have HE := Lib.hid (HMISS.out hq)
    have es : (D.reply.toList == le.reply.toList) = false := by rw [jcc, decide_eq_false hq]
    have HF := Lib.hid (show jrd e0 l = ((k : Int), true) from jry (by rw [HI.out, HV.out]; rfl) HL.out (by rw [HRN.out, HE.out]; exact Nat.zero_add _))
    clear HE hq HHIT HMISS
    go_wp2_with fail
    go_ret2
    rw [HF.out]
    exact ⟨rfl, K2⟩
  ·obtain rfl : k = N := by omega
   have hlt1 : ¬ (k : Int) < (k : Int) := by omega
   have HF := Lib.hid (show jrd e0 l = ((k : Int), true) from jry (by rw [HI.out, HV.out]; rfl) HL.out (by have h9 := HRN.out; rw [List.drop_of_length_le (by rw [HN.out]; exact Nat.le_refl _)] at h9; rw [h9]; exact Nat.zero_add _))
   go_wp2_with fail
   go_ret2
   rw [HF.out]
   exact ⟨rfl, K⟩
def jsk (r : RaceV) (l : Log) : List LogRecord → Option (RaceV × Log)
 | [] => some (r, l)
 | e :: es => if (exM r l e.command).reply = e.reply then jsk (exM r l e.command).race (exM r l e.command).log es else none
theorem jr7 (xs ys : List LogRecord) : ∀ (r : RaceV) (l : Log), jsk r l (xs ++ ys) = (jsk r l xs).bind fun p => jsk p.1 p.2 ys := by
 induction xs with
 | nil => intro r l; rfl
 | cons e es ih =>
  intro r l
  rw [List.cons_append, jsk, jsk]
  split
  ·exact ih _ _
  ·rfl
theorem jtx {xs : List LogRecord} : ∀ {r : RaceV} {l : Log} {p : RaceV × Log}, jsk r l xs = some p → jrk r l xs = xs.length := by
 induction xs with
 | nil => intro r l p _; rfl
 | cons e es ih =>
  intro r l p h
  rw [jsk] at h
  rw [jrk]
  split at h
  ·rename_i h1
   rw [if_pos h1, ih h, List.length_cons]
  ·cases h
theorem jtl {xs ys : List LogRecord} {r : RaceV} {l : Log} {p : RaceV × Log} (h : jsk r l (xs ++ ys) = some p) : jrk r l xs = xs.length := by
 rw [jr7] at h
 cases hx : jsk r l xs with
 | none => rw [hx] at h; cases h
 | some q => exact jtx hx
def jrw (e0 : Int) (r : RaceV) (l : Log) : Prop := ja0 r = true ∧ ja9 l = true ∧ jsk (jsx e0) emptyL (jq4 l).1 = some (r, l)
theorem jsb : ja9 emptyL = true ∧ (jq4 emptyL).1 = [] := by
 have h0 : (emptyL.durable ++ emptyL.pending) = ⟨#[]⟩ := rfl
 have h1 : ja9 emptyL = true := jsh (by rw [h0, jrs]; rfl) (by show (allR ⟨#[]⟩).at_ = _; rw [jrs]; rfl) (by rw [h0, jrs]; rfl)
 refine ⟨h1, ?_⟩
 unfold jq4
 rw [h1]
 show (allR (emptyL.durable ++ emptyL.pending)).l = []
 rw [h0, jrs]
theorem jts {e0 : Int} (h : inB e0 1 8 = true) : jrw e0 (jsx e0) emptyL := by
 refine ⟨jrm h, jsb.1, ?_⟩
 rw [jsb.2]
 rfl
theorem jte {e0 : Int} {r : RaceV} {l : Log} (h : jrw e0 r l) (line : ByteArray) : jrw e0 (exM r l line).race (exM r l line).log := by
 obtain ⟨h1, h2, h3⟩ := h
 rcases jvo r l line with ⟨a1, a2, -⟩ | ⟨-, -, -, b2, b3, -, b5, -⟩
 ·rw [a1, a2]
  exact ⟨h1, h2, h3⟩
 ·refine ⟨b2, b3, ?_⟩
  rw [b5, jr7, h3]
  show (if (exM r l line).reply = (exM r l line).reply then some ((exM r l line).race, (exM r l line).log) else none) = _
  rw [if_pos rfl]
theorem juf {l : Log} (h : ja9 l = true) : ((jq4 l).1.length : Int) = l.count := by
 have h1 := (jrv h).2.2
 unfold jq4
 rw [h]
 exact h1
theorem js3 {e0 : Int} {r : RaceV} {l : Log} (hi : inB e0 1 8 = true) (h : jrw e0 r l) : jrd e0 l = (l.count, true) := by
 unfold jrd
 rw [hi, h.2.1, jtx h.2.2, juf h.2.1]
 rfl
theorem js9 {e0 : Int} {r : RaceV} {l : Log} {k : Int} {s : ByteArray} (hi : inB e0 1 8 = true) (h : jrw e0 r l) (hc : jrc l k false = (s, true)) :
  (jr1 s).2.2 = true ∧ jrd e0 (jr1 s).1 = ((jr1 s).1.count, true) ∧ (jr1 s).1.upto 1048576 := by
 obtain ⟨h1, h2, h3⟩ := h
 obtain ⟨-, c2, -, t, c4⟩ := jtt hc
 have hv := jtq s
 have hr : jr1 s = (⟨s.extract 0 (allR s).at_, ⟨#[]⟩, ((allR s).l.length : Int)⟩, ((allR s).at_ : Int), true) := if_pos c2
 have hl : (jq4 l).1 = (allR s).l ++ t := by unfold jq4; rw [h2]; exact c4
 have hp : (jq4 ⟨s.extract 0 (allR s).at_, ⟨#[]⟩, ((allR s).l.length : Int)⟩).1 = (allR s).l := by
  unfold jq4
  rw [hv]
  show (allR (s.extract 0 (allR s).at_ ++ ⟨#[]⟩)).l = _
  rw [show s.extract 0 (allR s).at_ ++ (⟨#[]⟩ : ByteArray) = s.extract 0 (allR s).at_ from ByteArray.append_empty, jt2]
 rw [hr]
 refine ⟨rfl, ?_, ?_, Nat.zero_le _⟩
 ·show jrd e0 ⟨s.extract 0 (allR s).at_, ⟨#[]⟩, ((allR s).l.length : Int)⟩ = (((allR s).l.length : Int), true)
  unfold jrd
  rw [hi, hv, hp]
  rw [hl] at h3
  rw [jtl h3]
  rfl
 ·show (s.extract 0 (allR s).at_).size ≤ 1048576
  have := (jkd s).at_
  simp
  omega
theorem jus {l : Log} (h : ja9 l = true) (n : Nat) (hn : n ≤ l.pending.size) : ∃ s, jrc l (n : Int) false = (s, true) ∧ s.size ≤ 30000 := by
 have hi : inB (n : Int) 0 l.pending.size = true := by unfold inB; simp; omega
 unfold jrc
 rw [h, hi]
 refine ⟨_, rfl, ?_⟩
 obtain ⟨-, -, h6⟩ := jg4 h
 show (l.durable ++ l.pending.extract 0 n).size ≤ 30000
 rw [ByteArray.size_append]
 have : (l.pending.extract 0 n).size ≤ l.pending.size := by simp; omega
 omega
def jsv (w : World) (L : List ByteArray) (e : Ending) (w' : World) : Prop :=
 ∃ (A : Option Addr) (c : Nat), e = .returned (.tuple #[.slice A L.length c, .bool true]) ∧ w'.ownsRow w.heap.size 9 1 (.slice A L.length c) L.length (jkz L) ∧ Below w.heap.size w w'
theorem jsd (s : ByteArray) (w : World) (hs : s.size ≤ 4000) : Calls Tryz.prog 29 #[.string s, .string ⟨#[10]⟩] w (jsv w (jbb 10 s)) := by
 have h1 : ¬ (4000 : Int) < (s.size : Int) := by omega
 go_enter Tryz.func29, Tryz.ntmps29
 go_wp2_with fail
 refine (jlg s 10 10 w rfl (by omega)).mono ?_
 rintro e w1 ⟨A, c, rfl, h2, h3⟩
 go_wp2_with fail
 go_ret2
 exact ⟨A, c, rfl, h2, h3⟩
theorem jup (A A' : Option Addr) (n n' c c' lo lo' : Nat) (xs ys : List Punch) (w : World) (hx : Sees w lo 2 A n (xs.flatMap Punch.enc)) (hy : Sees w lo' 2 A' n' (ys.flatMap Punch.enc)) (he : xs = ys) (hn : n ≤ 140737488355328) :
  Calls Tryz.prog 150 #[.slice A n c, .slice A' n' c'] w fun e w' => e = .returned (.bool true) ∧ Quiet w w' := by
 subst he
 have hl := hx.count (by decide) (fun _ => rfl)
 have hl' := hy.count (by decide) (fun _ => rfl)
 obtain rfl : n = n' := by omega
 go_enter Tryz.func150, Tryz.ntmps150
 go_wp2
 go_loopw [5] (fun v wr => ∃ k : Nat, k ≤ n ∧ v = .int .i64 k ∧ Quiet w wr) (fun v _ => n - (intOf v).toNat)
 case atStart => exact ⟨0, Nat.zero_le _, rfl, Quiet.refl _⟩
 case round =>
  obtain ⟨k, hk, rfl, hq⟩ := hrel
  by_cases hlt : k < n
  ·obtain ⟨b, off, rfl, hkx, hcx⟩ := (hx.quiet hq).elem (by decide) (fun _ => rfl) hlt
   obtain ⟨b', off', rfl, hky, hcy⟩ := (hy.quiet hq).elem (by decide) (fun _ => rfl) hlt
   have x0 : wr.cell? ⟨b, off + k * 2, none⟩ = some (.int .i64 xs[k].code) := hcx 0 _ rfl
   have y0 : wr.cell? ⟨b', off' + k * 2, none⟩ = some (.int .i64 xs[k].code) := hcy 0 _ rfl
   have x1 : wr.cell? ⟨b, off + k * 2 + 1, none⟩ = some (.int .i64 xs[k].time) := hcx 1 _ rfl
   have y1 : wr.cell? ⟨b', off' + k * 2 + 1, none⟩ = some (.int .i64 xs[k].time) := hcy 1 _ rfl
   clear hcx hcy
   go_wp2
   go_quiet (fail)
   go_wp2
   go_roundw
   case rel => exact ⟨k + 1, by omega, by go_num, hq.more _⟩
   case measure => simp [intOf] <;> omega
  ·go_wp2
   go_ret
   exact ⟨rfl, hq⟩
theorem jum (A B : Option Addr) (n n' c c' lo lo' : Nat) (x y : Card) (w : World) (hx : Sees w lo 2 A n (x.punches.flatMap Punch.enc)) (hy : Sees w lo' 2 B n' (y.punches.flatMap Punch.enc)) (he : x = y) (hn : n ≤ 1048576) :
  Calls Tryz.prog 112 #[.agg #[(.int .i64 x.number), (.int .i64 x.start), (.int .i64 x.finish), (.slice A n c)], .agg #[(.int .i64 y.number), (.int .i64 y.start), (.int .i64 y.finish), (.slice B n' c')]] w fun e w' => e = .returned (.bool true) ∧ Below w.heap.size w w' := by
 subst he
 have K0 := nB2 w (.cells #[x.number, x.start, x.finish, .slice A n c] 106) (.cells #[x.number, x.start, x.finish, .slice B n' c'] 106)
 have hx0 := hx.next K0
 have hy0 := hy.next K0
 go_enter Tryz.func112, Tryz.ntmps112
 go_wp2_with (go_at_call 150; refine (jup _ _ _ _ _ _ _ _ x.punches x.punches _ hx0 hy0 rfl (by omega)).mono ?_; rintro e w1 ⟨rfl, q1⟩; have K1 := ja3 K0 q1)
 go_ret
 exact ⟨rfl, K1⟩
theorem juy (t : Int) (cl : Bool) (A A' : Option Addr) (n c c' : Nat) (xs : List Entrant) (w : World) (hx : SeesN entrantSh w 0 A n xs) (hy : SeesN entrantSh w 0 A' n xs) (hn : n ≤ 1048576) (hi : ∀ x ∈ xs, x.cnt ≤ 1048576) :
  Calls Tryz.prog 68 #[.agg #[t, cl, .slice A n c], .agg #[t, cl, .slice A' n c']] w fun e w' => e = .returned (.bool true) ∧ Below w.heap.size w w' := by
 have K0 := nB2 w (.cells #[t, cl, .slice A n c] 32) (.cells #[t, cl, .slice A' n c'] 32)
 have P := nPa w [t, cl, .slice A n c] 32 (.cells #[t, cl, .slice A' n c'] 32)
 have Q := nQ w (.cells #[t, cl, .slice A n c] 32) [t, cl, .slice A' n c'] 32
 have hx0 := hx.next K0
 have hy0 := hy.next K0
 go_enter Tryz.func68, Tryz.ntmps68
 go_upto_region 1 with fail
 generalize (w.alloc _).alloc _ = w0 at *
 generalize hga : w.heap.size = ga at *
 have pc := P.cell
 have qc := Q.cell
 go_wp2_with fail
 go_loopw [5] (fun v wr => ∃ k : Nat, k ≤ n ∧ v = .int .i64 k ∧ Below w0.heap.size w0 wr) (fun v _ => n - (intOf v).toNat)
 case atStart => exact ⟨0, Nat.zero_le _, rfl, Below.refl _ _⟩
 case round =>
  obtain ⟨k, hk, rfl, hb⟩ := hrel
  clear pc qc
  by_cases hlt : k < n
  ·have hlt1 : (k : Int) < (n : Int) := by omega
   have hi1 : (0 : Int) ≤ (k : Int) := by omega
   have hb' := jaa hb ((Quiet.one wr).below _)
   have pc0 := (P.next hb).cell
   go_wp2_with fail
   clear pc0
   obtain ⟨b, off, B0, m, cc0, rfl, hkx, c0, c1, c2, c3, c4, hxi⟩ := SeesEntrant.elem (hx0.next hb') hlt
   obtain ⟨b', off', B0', m', cc1, rfl, hky, d0, d1, d2, d3, d4, hyi⟩ := SeesEntrant.elem (hy0.next hb') hlt
   have hm : m ≤ 1048576 := by
    have h1 := hi xs[k] (List.getElem_mem hkx)
    have h2 := hxi.count (by decide) (fun _ => rfl)
    unfold Entrant.cnt at h1
    omega
   have hz := hb'.size
   have pc := (P.next hb').cell
   have qc := (Q.next hb').cell
   have e0 : (xs[k].state != xs[k].state) = false := bne_self_eq_false _
   go_region_held3 (fun w' => w'.cell? ⟨ga, 2, none⟩ = some (.slice (some ⟨b, off, none⟩) n c) ∧ w'.cell? ⟨ga + 1, 2, none⟩ = some (.slice (some ⟨b', off', none⟩) n c') ∧ w'.cell? ⟨b, off + k * 5, none⟩ = some (.int .i64 xs[k].state) ∧ w'.cell? ⟨b, off + k * 5 + 1, none⟩ = some (.int .i64 xs[k].number) ∧ w'.cell? ⟨b, off + k * 5 + 2, none⟩ = some (.int .i64 xs[k].start) ∧ w'.cell? ⟨b, off + k * 5 + 3, none⟩ = some (.int .i64 xs[k].finish) ∧ w'.cell? ⟨b, off + k * 5 + 4, none⟩ = some (.slice B0 m cc0) ∧ w'.cell? ⟨b', off' + k * 5, none⟩ = some (.int .i64 xs[k].state) ∧ w'.cell? ⟨b', off' + k * 5 + 1, none⟩ = some (.int .i64 xs[k].number) ∧ w'.cell? ⟨b', off' + k * 5 + 2, none⟩ = some (.int .i64 xs[k].start) ∧ w'.cell? ⟨b', off' + k * 5 + 3, none⟩ = some (.int .i64 xs[k].finish) ∧ w'.cell? ⟨b', off' + k * 5 + 4, none⟩ = some (.slice B0' m' cc1)) (go_keep)
    ((go_at_call 112
      refine (jum _ _ _ _ _ _ _ _ ⟨xs[k].number, xs[k].start, xs[k].finish, xs[k].punches⟩ ⟨xs[k].number, xs[k].start, xs[k].finish, xs[k].punches⟩ _ hxi hyi rfl hm).mono ?_
      rintro e w1 ⟨rfl, b9⟩
      have hb2 := jaa hb' b9
      clear pc qc
      obtain ⟨-, c0⟩ : True ∧ w1.cell? ⟨b, off + k * 5, none⟩ = _ := ⟨trivial, (b9.cell (p := ⟨b, off + k * 5, none⟩) (World.block_lt_of_cell? _ _ c0)).trans c0⟩
      obtain ⟨-, c1⟩ : True ∧ w1.cell? ⟨b, off + k * 5 + 1, none⟩ = _ := ⟨trivial, (b9.cell (p := ⟨b, off + k * 5 + 1, none⟩) (World.block_lt_of_cell? _ _ c1)).trans c1⟩
      obtain ⟨-, c2⟩ : True ∧ w1.cell? ⟨b, off + k * 5 + 2, none⟩ = _ := ⟨trivial, (b9.cell (p := ⟨b, off + k * 5 + 2, none⟩) (World.block_lt_of_cell? _ _ c2)).trans c2⟩
      obtain ⟨-, c3⟩ : True ∧ w1.cell? ⟨b, off + k * 5 + 3, none⟩ = _ := ⟨trivial, (b9.cell (p := ⟨b, off + k * 5 + 3, none⟩) (World.block_lt_of_cell? _ _ c3)).trans c3⟩
      obtain ⟨-, c4⟩ : True ∧ w1.cell? ⟨b, off + k * 5 + 4, none⟩ = _ := ⟨trivial, (b9.cell (p := ⟨b, off + k * 5 + 4, none⟩) (World.block_lt_of_cell? _ _ c4)).trans c4⟩
      obtain ⟨-, d0⟩ : True ∧ w1.cell? ⟨b', off' + k * 5, none⟩ = _ := ⟨trivial, (b9.cell (p := ⟨b', off' + k * 5, none⟩) (World.block_lt_of_cell? _ _ d0)).trans d0⟩
      obtain ⟨-, d1⟩ : True ∧ w1.cell? ⟨b', off' + k * 5 + 1, none⟩ = _ := ⟨trivial, (b9.cell (p := ⟨b', off' + k * 5 + 1, none⟩) (World.block_lt_of_cell? _ _ d1)).trans d1⟩
      obtain ⟨-, d2⟩ : True ∧ w1.cell? ⟨b', off' + k * 5 + 2, none⟩ = _ := ⟨trivial, (b9.cell (p := ⟨b', off' + k * 5 + 2, none⟩) (World.block_lt_of_cell? _ _ d2)).trans d2⟩
      obtain ⟨-, d3⟩ : True ∧ w1.cell? ⟨b', off' + k * 5 + 3, none⟩ = _ := ⟨trivial, (b9.cell (p := ⟨b', off' + k * 5 + 3, none⟩) (World.block_lt_of_cell? _ _ d3)).trans d3⟩
      obtain ⟨-, d4⟩ : True ∧ w1.cell? ⟨b', off' + k * 5 + 4, none⟩ = _ := ⟨trivial, (b9.cell (p := ⟨b', off' + k * 5 + 4, none⟩) (World.block_lt_of_cell? _ _ d4)).trans d4⟩
      have pc := (P.next hb2).cell
      have qc := (Q.next hb2).cell))
   go_wp2_with fail
   go_roundw
   case rel => exact ⟨k + 1, by omega, by go_num, hb2⟩
   case measure => simp [intOf] <;> omega
  ·obtain rfl : k = n := by omega
   have hlt1 : ¬ (k : Int) < (k : Int) := by omega
   have pc := (P.next hb).cell
   go_wp2_with fail
   go_ret
   exact ⟨rfl, by rw [← hga] at K0 ⊢; exact jaa K0 hb⟩
theorem jtf (t : Int) (cl : Bool) (l : Log) (A A' : Option Addr) (n c c' : Nat) (xs : List Entrant) (w : World) (hx : SeesN entrantSh w 0 A n xs) (hy : SeesN entrantSh w 0 A' n xs) (hn : n ≤ 1048576) (hi : ∀ x ∈ xs, x.cnt ≤ 1048576) :
  Calls Tryz.prog 28 #[.agg #[t, cl, .slice A n c, l.durable, l.pending, l.count], .agg #[t, cl, .slice A' n c', l.durable, l.pending, l.count]] w fun e w' => e = .returned (.bool true) ∧ Below w.heap.size w w' := by
 have K0 := nB2 w (.cells #[t, cl, .slice A n c, l.durable, l.pending, l.count] 35) (.cells #[t, cl, .slice A' n c', l.durable, l.pending, l.count] 35)
 have P := nPa w [t, cl, .slice A n c, l.durable, l.pending, l.count] 35 (.cells #[t, cl, .slice A' n c', l.durable, l.pending, l.count] 35)
 have Q := nQ w (.cells #[t, cl, .slice A n c, l.durable, l.pending, l.count] 35) [t, cl, .slice A' n c', l.durable, l.pending, l.count] 35
 have hx0 := hx.next K0
 have hy0 := hy.next K0
 have e1 : (l.durable.toList == l.durable.toList) = true := beq_self_eq_true _
 have e2 : (l.pending.toList == l.pending.toList) = true := beq_self_eq_true _
 go_enter Tryz.func28, Tryz.ntmps28
 go_upto_region 1 with fail
 generalize (w.alloc _).alloc _ = w0 at *
 have pc := P.cell
 have qc := Q.cell
 go_wp2_with fail
 refine (juy t cl A A' n c c' xs w0 hx0 hy0 hn hi).mono ?_
 rintro e w1 ⟨rfl, b9⟩
 replace P := P.next b9
 replace Q := Q.next b9
 clear pc qc
 have pc := P.cell
 have qc := Q.cell
 go_wp2_with fail
 go_ret
 exact ⟨rfl, jaa K0 b9⟩
theorem jt7 (A : Option Addr) (m c : Nat) (w : World) (hm : m ≤ 9223372036854775807) : Calls Tryz.prog 21 #[.slice A m c] w fun e w' => e = .returned (.bool (decide (65536 < m))) ∧ w = w' := by
 by_cases h : 65536 < m
 ·have h' : (65536 : Int) < (m : Int) := by omega
  have hd := Lib.hid (decide_eq_true h)
  go_enter Tryz.func21, Tryz.ntmps21
  go_wp2_with fail
  go_ret
  exact ⟨jab (a := true) hd.out.symm, rfl⟩
 ·have h' : ¬ (65536 : Int) < (m : Int) := by omega
  go_enter Tryz.func21, Tryz.ntmps21
  go_wp2_with fail
  go_ret
  exact ⟨rfl, rfl⟩
end Go.Proofs.YtflpcdffmpfdpaaGreatDoor
