/- Joined texts of this proof: Script, ConN, NewCon, ReplP. -/
import Derived.Test.YtflpcdffmpfdpaaGreatDoorG02
import Derived.Test.YtflpcdffmpfdpaaGreatDoorB02
import Derived.Test.YtflpcdffmpfdpaaGreatDoorB01
import Derived.Test.YtflpcdffmpfdpaaGreatDoorG01
import Derived.Test.YtflpcdffmpfdpaaGreatDoorW01
set_option maxRecDepth 100000
set_option maxHeartbeats 8000000
namespace Go.Proofs.YtflpcdffmpfdpaaGreatDoor
open Go.RowKit
def jqy (r : RaceV) (l : Log) : List ByteArray → RaceV × Log × List ByteArray
 | [] => (r, l, [])
 | x :: xs => ((jqy (exM r l x).race (exM r l x).log xs).1, (jqy (exM r l x).race (exM r l x).log xs).2.1, (exM r l x).reply :: (jqy (exM r l x).race (exM r l x).log xs).2.2)
theorem jro (x : ByteArray) : ∀ (xs : List ByteArray) (r : RaceV) (l : Log), jqy r l (xs ++ [x]) = ((exM (jqy r l xs).1 (jqy r l xs).2.1 x).race, (exM (jqy r l xs).1 (jqy r l xs).2.1 x).log, (jqy r l xs).2.2 ++ [(exM (jqy r l xs).1 (jqy r l xs).2.1 x).reply])
 | [], r, l => rfl
 | y :: ys, r, l => by
  rw [List.cons_append]
  unfold jqy
  rw [jro x ys]
  rfl
theorem jrb : ∀ (xs : List ByteArray) (r : RaceV) (l : Log), (jqy r l xs).2.2.length = xs.length
 | [], _, _ => rfl
 | y :: ys, r, l => by
  unfold jqy
  show (_ :: (jqy _ _ ys).2.2).length = _
  rw [List.length_cons, List.length_cons, jrb ys]
def jq1 (r : RaceV) (l : Log) (text : ByteArray) : Option (List ByteArray) :=
 if (ja0 r && ja9 l) = true ∧ text.size ≤ 4000 ∧ (jbb 10 text).length ≤ 30 then some (jqy r l (jbb 10 text)).2.2 else none
def jrc (w : World) (R : Option (List ByteArray)) (e : Ending) (w' : World) : Prop :=
 ∃ A c, e = .returned (.tuple #[.slice A (R.getD []).length c, .bool R.isSome]) ∧ w'.ownsRow w.heap.size 9 1 (.slice A (R.getD []).length c) (R.getD []).length (jkz (R.getD [])) ∧ Below w.heap.size w w'
theorem jq4 {r : RaceV} {l : Log} {text : ByteArray} (h : ¬ ((ja0 r && ja9 l) = true ∧ text.size ≤ 4000 ∧ (jbb 10 text).length ≤ 30)) : jq1 r l text = none := by unfold jq1; rw [if_neg h]
theorem jq9 {w w' : World} (h : Below w.heap.size w w') : jrc w none (.returned (.tuple #[.slice none 0 0, .bool false])) w' := ⟨none, 0, rfl, World.ownsRow_nil _ _ _ _, h⟩
theorem jrn {r r2 : RaceV} {l l2 : Log} {L reps : List ByteArray} {k : Nat} (h : jqy r l (L.take k) = (r2, l2, reps)) (hk : k < L.length) : jqy r l (L.take (k + 1)) = ((exM r2 l2 L[k]).race, (exM r2 l2 L[k]).log, reps ++ [(exM r2 l2 L[k]).reply]) := by
 rw [List.take_succ_eq_append_getElem hk, jro, h]
theorem jsu {r : RaceV} {l : Log} {line : ByteArray} (h : ja0 r = true) : ja0 (exM r l line).race = true := by
 rcases jsv (r := r) (l := l) (line := line) with h1 | h1
 ·rw [h1]; exact h
 ·exact h1
theorem jsc (k : Nat) (e : LogRecord) (hk : k < 100) (he : jgb e = true) : (jck k e).size ≤ 800 := by
 obtain ⟨⟨h0, h2⟩, h3, _⟩ := jdn he
 have hn := jcg k 2 (by omega) (by decide)
 have hs := jgr (jd9 k e)
 have hb : (jd9 k e).size ≤ 764 := by
  unfold jd9
  simp only [ByteArray.size_append]
  have z1 : (⟨#[32]⟩ : ByteArray).size = 1 := rfl
  have z2 : (⟨#[64]⟩ : ByteArray).size = 1 := rfl
  omega
 unfold jck
 rw [ByteArray.size_append]
 have z1 : (⟨#[10]⟩ : ByteArray).size = 1 := rfl
 omega
theorem jrv {r : RaceV} {l : Log} {line : ByteArray} (h : l.upto 1048576) : (exM r l line).log.upto 1048576 := by
 unfold exM
 by_cases h1 : (ja0 r && ja9 l) = false
 ·rw [if_pos h1]
  exact h
 rw [if_neg h1]
 by_cases h2 : jgb ⟨line, ⟨#[]⟩⟩ = false
 ·rw [if_pos h2]
  exact h
 rw [if_neg h2]
 by_cases h3 : l.count = 60
 ·rw [if_pos h3]
  exact h
 rw [if_neg h3]
 have hv : ja9 l = true := by
  cases hv : ja9 l with
  | true => rfl
  | false => exact absurd (by rw [hv, Bool.and_false]) h1
 have h9 := jg4 hv
 unfold jgg
 split
 ·rename_i he
  ·simp only [Bool.and_eq_true] at he
   have hl := jsc l.count.toNat _ (by omega) he.2
   refine ⟨by show l.durable.size ≤ 1048576; omega, ?_⟩
   show (l.pending ++ jck _ _).size ≤ 1048576
   rw [ByteArray.size_append]
   omega
 ·exact h
theorem jsa (t : Int) (cl : Bool) (l : Log) (A : Option Addr) (n c : Nat) (xs : List Entrant) (text : ByteArray) (w : World) (hx : SeesN entrantSh w 0 A n xs) (hn : n ≤ 1048576) (hi : ∀ x ∈ xs, x.cnt ≤ 1048576) (hs : l.upto 1048576) (hts : text.size ≤ 1048576) (hgl : GlE w) :
  Calls Tryz.prog 17 #[.agg #[t, cl, .slice A n c, l.durable, l.pending, l.count], .string text] w (jrc w (jq1 ⟨t, cl, xs⟩ l text)) := by
 have K := nB w (.cells #[t, cl, .slice A n c, l.durable, l.pending, l.count] 35)
 have P := nP w [t, cl, .slice A n c, l.durable, l.pending, l.count] 35
 have hlp := jjr 10 text
 have HPC0 := Lib.hid (fun x (hx : x ∈ jbb 10 text) => jg5 10 text hx)
 obtain ⟨L, hL⟩ : ∃ L, jbb 10 text = L := ⟨_, rfl⟩
 have HL := Lib.hid hL
 have hst0 := hx
 obtain ⟨N, hN⟩ : ∃ N, L.length = N := ⟨_, rfl⟩
 have HN := Lib.hid hN
 have HSP := Lib.hid (fun W h => jpq text 10 W (by omega) h)
 rw [hL] at HSP HPC0
 unfold jgf at HSP
 rw [hN] at HSP
 have hNp : 0 < N := by rw [← hN, ← hL]; omega
 clear hL hN hlp
 go_enter Tryz.func17, Tryz.ntmps17
 go_upto_region 1 with fail
 generalize w.alloc _ = w1 at *
 have z1 := P.lt
 have pc := P.cell
 replace hx := hx.next K
 go_wp2_with fail
 refine (IsValidConsole_any t cl l A n c xs w1 hx hn hi hs (hgl.next K).gl).mono ?_
 obtain ⟨vb, hvb⟩ : ∃ b, (jbf t cl xs && ja9 l) = b := ⟨_, rfl⟩
 rw [hvb]
 have HV := Lib.hid hvb
 clear hvb
 rintro e9 w2 ⟨rfl, b9⟩
 replace P := P.next b9
 replace K := jaa K b9
 clear b9 pc hx
 cases vb
 ·have HR := Lib.hid (show jq1 ⟨t, cl, xs⟩ l text = none from jq4 (fun h => by have h1 : (jbf t cl xs && ja9 l) = true := h.1; rw [HV.out] at h1; cases h1))
  go_wp2_with fail
  go_ret2
  rw [HR.out]
  exact jq9 K
 have hgood : ja0 ⟨t, cl, xs⟩ = true := by have := HV.out; simp only [Bool.and_eq_true] at this; exact this.1
 by_cases h4 : 4000 < text.size
 ·have h5 : (4000 : Int) < (text.size : Int) := by omega
  have HR := Lib.hid (show jq1 ⟨t, cl, xs⟩ l text = none from jq4 (fun h => by omega))
  go_wp2_with fail
  go_ret2
  rw [HR.out]
  exact jq9 K
 have h5 : ¬ (4000 : Int) < (text.size : Int) := by omega
 go_wp2_with fail
 refine (HSP.out w2 (hgl.next K).gl).mono ?_
 rintro e9 w4 ⟨AW, cw, rfl, oW, b9⟩
 clear HSP
 rcases jby oW with ⟨-, hz, -, -⟩ | ⟨gw, cur, rfl, hgb, hB, hcl, hnc, hcm, htk⟩
 ·omega
 have hgw := hB.lt
 have hW := Sees.of_own oW
 clear hB hcl htk hcm hnc
 have z2 := P.lt
 replace P := P.next b9
 replace K := jaa K b9
 by_cases h30 : 30 < N
 ·have h31 : (30 : Int) < (N : Int) := by omega
  have HR := Lib.hid (show jq1 ⟨t, cl, xs⟩ l text = none from jq4 (fun h => by have := h.2.2; rw [HL.out, HN.out] at this; omega))
  go_wp2_with fail
  go_ret2
  rw [HR.out]
  exact jq9 K
 have h31 : ¬ (30 : Int) < (N : Int) := by omega
 have HR := Lib.hid (show jq1 ⟨t, cl, xs⟩ l text = some (jqy ⟨t, cl, xs⟩ l L).2.2 by unfold jq1; rw [if_pos ⟨HV.out, by omega, by rw [HL.out, HN.out]; omega⟩, HL.out])
 have own0 := ja4 w4 9 1
 have U := nB w4 (.cells #[] 9)
 have hzu := nZ w4 (.cells #[] 9)
 have hz3 := P.lt
 replace P := P.next U
 replace K := jaa K U
 replace hW := hW.next U
 have hwb : w.heap.size + 1 ≤ w2.heap.size := z2
 go_wp2_with fail
 clear b9 U oW
 generalize w4.alloc _ = w3 at *
 have hxl := hst0.count
 subst hxl
 go_loopw [7, 28] (fun v iv wr => ∃ (k : Nat) (A' : Option Addr) (c' : Nat) (r : RaceV) (lg : Log) (reps : List ByteArray) (A1 : Option Addr) (c1 : Nat), k ≤ N ∧ iv = .int .i64 (k : Int) ∧ v = .slice A' k c' ∧ wr.ownsRow w4.heap.size 9 1 (.slice A' k c') k (jkz reps) ∧ Hid (jqy ⟨t, cl, xs⟩ l (L.take k) = (r, lg, reps)) ∧ Blk wr w.heap.size 35 [.int .i64 r.clock, .bool r.closed, .slice A1 r.field.length c1, .string lg.durable, .string lg.pending, .int .i64 lg.count] ∧ Stays wr w.heap.size (w.heap.size + 1) A1 r.field.length r.field ∧ Hid (ja0 r = true ∧ lg.upto 1048576) ∧ Only (fun b => b = w.heap.size ∨ w4.heap.size ≤ b) w3 wr ∧ Below w.heap.size w wr) (fun _ iv _ => N - (intOf iv).toNat)
 case atStart => exact ⟨0, _, 0, ⟨t, cl, xs⟩, l, [], A, c, Nat.zero_le _, rfl, rfl, own0, Lib.hid rfl, P, jky hst0 K, Lib.hid ⟨hgood, hs⟩, Only.refl _ _, K⟩
 case round =>
  obtain ⟨k, A', c', r, lg, reps, A1, c1, hk, rfl, rfl, own, HRL, P, X, HGD, O, K⟩ := hrel
  clear own0
  have hap : ∀ b, jaj A' b → w4.heap.size ≤ b ∧ b < wr.heap.size := fun b hb => jai own hb
  by_cases hlt : k < N
  ·have hlt1 : (k : Int) < (N : Int) := by omega
   have hkr : k < L.length := by rw [HN.out]; exact hlt
   obtain ⟨hx1, x1⟩ := jiw (hW.only O (fun b off e _ hb => by
    injection e with e
    injection e with e1 _ _
    subst e1
    rcases hb with hb | hb <;> omega)) hlt
   have HLN := Lib.hid (jrn HRL.out hkr)
   have HSZ := HPC0.out L[k] (List.getElem_mem hkr)
   obtain ⟨ln, hln⟩ : ∃ ln, L[k] = ln := ⟨_, rfl⟩
   rw [hln] at x1 HLN HSZ
   obtain ⟨D, hD⟩ : ∃ D, exM r lg ln = D := ⟨_, rfl⟩
   have CC := ExecuteCommand_any r.clock r.closed lg A1 r.field.length c1 r.field ln wr X.sees (jrk HGD.out.1).1 (jrk HGD.out.1).2.1 HGD.out.2 (by omega) (hgl.next K)
   rw [show (⟨r.clock, r.closed, r.field⟩ : RaceV) = r from rfl, hD] at CC
   have HGD2 := Lib.hid (show ja0 D.race = true ∧ D.log.upto 1048576 by rw [← hD]; exact ⟨jsu HGD.out.1, jrv HGD.out.2⟩)
   rw [hD] at HLN
   have HCC := Lib.hid CC
   clear hD CC hln HSZ
   have pc := P.cell
   have zl := P.lt
   go_wp2_with fail
   refine HCC.out.mono ?_
   clear HCC X pc x1
   rintro e9 w5 ⟨A2, c2, rfl, M2, b9⟩
   have U := nB w5 (.cells #[D.race.clock, D.race.closed, .slice A2 D.race.field.length c2, D.log.durable, D.log.pending, D.log.count] 35)
   have Y := nP w5 [D.race.clock, D.race.closed, .slice A2 D.race.field.length c2, D.log.durable, D.log.pending, D.log.count] 35
   have z5 := b9.size
   have zy := nZ w5 (.cells #[D.race.clock, D.race.closed, .slice A2 D.race.field.length c2, D.log.durable, D.log.pending, D.log.count] 35)
   replace b9 := jaa b9 U
   replace M2 := M2.next U
   replace P := P.next b9
   replace own := jad own b9
   replace O := O.then_ b9
   replace K := jaa K b9
   clear b9 U
   go_upto_region 11 with fail
   generalize w5.alloc _ = w6 at *
   generalize w5.heap.size = gy at *
   have yc := Y.cell
   have pc := P.cell
   have pf := P.frozen
   obtain ⟨P2, E⟩ := jal P (.int .i64 D.race.clock) (.bool D.race.closed) (.slice A2 D.race.field.length c2) (.string D.log.durable) (.string D.log.pending) (.int .i64 D.log.count)
   have M3 := M2.only E (fun b h1 (h2 : b = w.heap.size) => by have := h1.1; omega)
   have own2 := jbc own E (fun b hb (h2 : b = w.heap.size) => by have := (jai own hb).1; omega)
   have O2 := O.trans (E.mono fun b hb => Or.inl hb)
   have K2 := K.trans (E.below (fun b hb => by omega) K.size)
   have zE := E.size
   go_upto_region 12 with fail
   clear yc pc pf P Y own M2 O K E
   generalize (((((w6.setCell _ _).setCell _ _).setCell _ _).setCell _ _).setCell _ _).setCell _ _ = wv at *
   have own := own2
   have hzO := O2.size
   clear own2
   go_wp2_with (at_builtin; go_loud (refine jac rfl _ _ _ rfl Tryz.underlying42 jdq rfl (by decide) rfl own rfl (by simp) (by rfl) (by rfl) (by omega) (by decide) (by omega) ?_); intro A9 c9 w9 o9 h9 b9 q9)
   go_roundw
   case rel => exact ⟨k + 1, A9, c9, D.race, D.log, reps ++ [D.reply], A2, c2, by omega, by go_num, rfl, by simpa [jkz] using o9, HLN, P2.only h9 (fun h => by have := (hap _ h).1; omega), jb5 (M3.only h9 (fun b h1 h2 => by have := (hap b h2).2; have := h1.1; omega)) (fun b hb => Or.inr (by have := hb.1; omega)), HGD2, O2.trans (h9.mono fun b hb => Or.inr (hap b hb).1), K2.trans (b9.mono (by omega))⟩
   case measure => simp [intOf]; omega
  ·obtain rfl : k = N := by omega
   have hlt1 : ¬ (k : Int) < (k : Int) := by omega
   have HF := Lib.hid (show (jqy ⟨t, cl, xs⟩ l L).2.2 = reps by have h9 := HRL.out; rw [List.take_of_length_le (by rw [HN.out]; exact Nat.le_refl _)] at h9; rw [h9])
   have hrl : reps.length = k := by rw [← HF.out, jrb]; exact HN.out
   go_wp2_with fail
   go_ret2
   rw [HR.out, HF.out]
   subst hrl
   exact ⟨A', c', rfl, jax own (by omega), K⟩
theorem jrr (t : Int) (cl : Bool) (l : Log) (A : Option Addr) (n c : Nat) (xs : List Entrant) (text : ByteArray) (w : World) (hx : SeesN entrantSh w 0 A n xs) (hn : n ≤ 1048576) (hi : ∀ x ∈ xs, x.cnt ≤ 1048576) (hs : l.upto 1048576) (hts : text.size ≤ 1048576) :
  Calls Tryz.prog 16 #[.agg #[t, cl, .slice A n c, l.durable, l.pending, l.count], .string text] w (jrc w (jq1 ⟨t, cl, xs⟩ l text)) := by
 have K := nB w (.cells #[t, cl, .slice A n c, l.durable, l.pending, l.count] 35)
 have P := nP w [t, cl, .slice A n c, l.durable, l.pending, l.count] 35
 have hlp := jjr 10 text
 have HPC0 := Lib.hid (fun x (hx : x ∈ jbb 10 text) => jg5 10 text hx)
 obtain ⟨L, hL⟩ : ∃ L, jbb 10 text = L := ⟨_, rfl⟩
 have HL := Lib.hid hL
 have hst0 := hx
 obtain ⟨N, hN⟩ : ∃ N, L.length = N := ⟨_, rfl⟩
 have HN := Lib.hid hN
 have HSP := Lib.hid (fun W => jlg text 10 10 W rfl (by omega))
 rw [hL] at HSP HPC0
 unfold jgf at HSP
 rw [hN] at HSP
 have hNp : 0 < N := by rw [← hN, ← hL]; omega
 clear hL hN hlp
 go_enter Tryz.func16, Tryz.ntmps16
 go_upto_region 1 with fail
 generalize w.alloc _ = w1 at *
 have z1 := P.lt
 have own0 := ja4 w1 9 1
 have U := nB w1 (.cells #[] 9)
 have hzu := nZ w1 (.cells #[] 9)
 replace P := P.next U
 replace K := jaa K U
 replace hx := hx.next K
 clear U
 go_upto_region 2 with fail
 generalize w1.alloc _ = w3 at *
 generalize w1.heap.size = ow at *
 go_wp2_with fail
 refine (HSP.out w3).mono ?_
 rintro e9 w2 ⟨AW, cw, rfl, oW, b9⟩
 clear HSP
 rcases jby oW with ⟨-, hz, -, -⟩ | ⟨gw, cur, rfl, hgb, hB, hcl, hnc, hcm, htk⟩
 ·omega
 have hW := Sees.of_own oW
 have z2 := b9.size
 have hgw := hB.lt
 replace P := P.next b9
 replace K := jaa K b9
 replace hx := hx.next b9
 replace own0 := jad own0 b9
 have pc := P.cell
 clear b9 hB hcl htk hcm hnc oW
 go_wp2_with fail
 refine (l28Good_any t cl l A n c xs w2 hx hn hi hs).mono ?_
 obtain ⟨vb, hvb⟩ : ∃ b, (jbf t cl xs && ja9 l) = b := ⟨_, rfl⟩
 rw [hvb]
 have HV := Lib.hid hvb
 clear hvb
 rintro e9 w4 ⟨rfl, b9⟩
 replace P := P.next b9
 replace K := jaa K b9
 replace own0 := jad own0 b9
 replace hW := hW.next b9
 have z4 := b9.size
 clear b9 pc hx
 cases vb
 ·have HR := Lib.hid (show jq1 ⟨t, cl, xs⟩ l text = none from jq4 (fun h => by have h1 : (jbf t cl xs && ja9 l) = true := h.1; rw [HV.out] at h1; cases h1))
  go_wp2_with fail
  go_ret2
  rw [HR.out]
  exact ⟨_, _, rfl, jax own0 (by omega), K⟩
 have hgood : ja0 ⟨t, cl, xs⟩ = true := by have := HV.out; simp only [Bool.and_eq_true] at this; exact this.1
 by_cases h4 : 4000 < text.size
 ·have h5 : (4000 : Int) < (text.size : Int) := by omega
  have HR := Lib.hid (show jq1 ⟨t, cl, xs⟩ l text = none from jq4 (fun h => by omega))
  go_wp2_with fail
  go_ret2
  rw [HR.out]
  exact ⟨_, _, rfl, jax own0 (by omega), K⟩
 have h5 : ¬ (4000 : Int) < (text.size : Int) := by omega
 by_cases h30 : 30 < N
 ·have h31 : (30 : Int) < (N : Int) := by omega
  have HR := Lib.hid (show jq1 ⟨t, cl, xs⟩ l text = none from jq4 (fun h => by have := h.2.2; rw [HL.out, HN.out] at this; omega))
  go_wp2_with fail
  go_ret2
  rw [HR.out]
  exact ⟨_, _, rfl, jax own0 (by omega), K⟩
 have h31 : ¬ (30 : Int) < (N : Int) := by omega
 have HR := Lib.hid (show jq1 ⟨t, cl, xs⟩ l text = some (jqy ⟨t, cl, xs⟩ l L).2.2 by unfold jq1; rw [if_pos ⟨HV.out, by omega, by rw [HL.out, HN.out]; omega⟩, HL.out])
 go_wp2_with fail
 have hxl := hst0.count
 subst hxl
 go_loopw [6, 8, 9] (fun v sv iv wr => ∃ (k : Nat) (A' : Option Addr) (c' : Nat) (r : RaceV) (lg : Log) (reps : List ByteArray) (A1 : Option Addr) (c1 : Nat) (q : ByteArray), k ≤ N ∧ iv = .int .i64 (k : Int) ∧ v = .slice A' k c' ∧ sv = .string q ∧ wr.ownsRow ow 9 1 (.slice A' k c') k (jkz reps) ∧ (∀ b, jaj A' b → b = ow ∨ w4.heap.size ≤ b) ∧ Hid (jqy ⟨t, cl, xs⟩ l (L.take k) = (r, lg, reps)) ∧ Blk wr w.heap.size 35 [.int .i64 r.clock, .bool r.closed, .slice A1 r.field.length c1, .string lg.durable, .string lg.pending, .int .i64 lg.count] ∧ Stays wr w.heap.size (w.heap.size + 1) A1 r.field.length r.field ∧ Hid (ja0 r = true ∧ lg.upto 1048576) ∧ Only (fun b => b = w.heap.size ∨ b = ow ∨ w4.heap.size ≤ b) w4 wr ∧ Below w.heap.size w wr) (fun _ _ iv _ => N - (intOf iv).toNat)
 case atStart => exact ⟨0, _, 0, ⟨t, cl, xs⟩, l, [], A, c, _, Nat.zero_le _, rfl, rfl, rfl, own0, fun b hb => Or.inl (by simpa [jaj, Value.ownBlock] using hb.symm), Lib.hid rfl, P, jky hst0 K, Lib.hid ⟨hgood, hs⟩, Only.refl _ _, K⟩
 case round =>
  obtain ⟨k, A', c', r, lg, reps, A1, c1, q, hk, rfl, rfl, rfl, own, hao, HRL, P, X, HGD, O, K⟩ := hrel
  clear own0
  have hap : ∀ b, jaj A' b → ow ≤ b ∧ b < wr.heap.size := fun b hb => jai own hb
  by_cases hlt : k < N
  ·have hlt1 : (k : Int) < (N : Int) := by omega
   have hkr : k < L.length := by rw [HN.out]; exact hlt
   obtain ⟨hx1, x1⟩ := jiw (hW.only O (fun b off e _ hb => by
    injection e with e
    injection e with e1 _ _
    subst e1
    rcases hb with hb | hb | hb <;> omega)) hlt
   have HLN := Lib.hid (jrn HRL.out hkr)
   have HSZ := HPC0.out L[k] (List.getElem_mem hkr)
   obtain ⟨ln, hln⟩ : ∃ ln, L[k] = ln := ⟨_, rfl⟩
   rw [hln] at x1 HLN HSZ
   obtain ⟨D, hD⟩ : ∃ D, exM r lg ln = D := ⟨_, rfl⟩
   have HCC := Lib.hid (fun W (h : Below wr.heap.size wr W) => specExecuteCommand_any r.clock r.closed lg A1 r.field.length c1 r.field ln W (X.below h).sees (jrk HGD.out.1).1 (jrk HGD.out.1).2.1 HGD.out.2 (by omega))
   rw [show (⟨r.clock, r.closed, r.field⟩ : RaceV) = r from rfl, hD] at HCC
   have HGD2 := Lib.hid (show ja0 D.race = true ∧ D.log.upto 1048576 by rw [← hD]; exact ⟨jsu HGD.out.1, jrv HGD.out.2⟩)
   rw [hD] at HLN
   clear hD hln HSZ
   have zl := P.lt
   have b9 := (Quiet.one wr).below wr.heap.size
   have Kr := b9
   have Kq := K
   clear K X
   replace x1 := (b9.cell (p := ⟨gw, k, none⟩) (World.block_lt_of_cell? _ _ x1)).trans x1
   replace P := P.next b9
   replace own := jad own b9
   replace O := O.then_ b9
   replace Kq := jaa Kq b9
   clear b9
   have pc := P.cell
   go_upto_region 9 with fail
   refine wp_region_held_drew (S := fun w' => w'.cell? ⟨gw, k, none⟩ = some (.string ln)) (by kernel_rfl) (by (try dsimp only); exact x1) (fun hH => ?_)
   generalize wr.drew = wz at *
   refine wQ 1 ?_
   refine wQ 2 ?_
   refine wQ 3 ?_
   refine wQ 4 ?_
   refine wR (rs := [0]) (by kernel_rfl) (by simp) ?_
   refine aC rfl (fun K hK => ?_) aN
   go_simp
   refine hK.out _ _ (by (try dsimp only); exact x1) (fun hH => ?_)
   clear hK K
   try simp only [Act.put, pX]
   refine wR (rs := [5]) (by kernel_rfl) (by simp) ?_
   refine aC rfl (fun K hK => ?_) aN
   go_simp
   have zwr := Kr.size
   go_must (refine (HCC.out wz Kr).mono ?_)
   rintro e9 w5 ⟨A2, c2, he9, M2, b9⟩
   replace he9 : e9 = .returned (.tuple #[.agg #[D.race.clock, D.race.closed, .slice A2 D.race.field.length c2, D.log.durable, D.log.pending, D.log.count], .string D.reply]) := he9
   subst he9
   replace x1 := (b9.cell (p := ⟨gw, k, none⟩) (World.block_lt_of_cell? _ _ x1)).trans x1
   replace P := P.next b9
   replace own := jad own b9
   replace O := O.then_ b9
   replace Kq := jaa Kq b9
   obtain ⟨zlo, hzlo⟩ : ∃ z, wz.heap.size = z := ⟨_, rfl⟩
   rw [hzlo] at M2 zwr
   have zP5 := P.lt
   clear b9 pc hzlo Kr
   have pc := P.cell
   have pf := P.frozen
   generalize w5 = wz at *
   go_wp2_with fail
   refine hK.out _ _ (by (try dsimp only); exact x1) (fun hH => ?_)
   clear hK K
   refine wQ 6 ?_
   refine wQ 7 ?_
   refine wQ 8 ?_
   refine wR (rs := [9]) (by kernel_rfl) (by simp) ?_
   refine aC rfl (fun K hK => ?_) aN
   go_simp
   refine hK.out _ _ (by (try dsimp only); have E := (jal P (.int .i64 D.race.clock) (.bool D.race.closed) (.slice A2 D.race.field.length c2) (.string D.log.durable) (.string D.log.pending) (.int .i64 D.log.count)).2; exact (jc5 E (fun (h : gw = _) => by omega) (World.block_lt_of_cell? _ _ x1)).trans x1) (fun hH => ?_)
   clear hK K
   try simp only [Act.put, pX]
   refine wQ 10 ?_
   refine wD (by kernel_rfl) ?_ _
   obtain ⟨P2, E⟩ := jal P (.int .i64 D.race.clock) (.bool D.race.closed) (.slice A2 D.race.field.length c2) (.string D.log.durable) (.string D.log.pending) (.int .i64 D.log.count)
   have M3 := M2.only E (fun b h1 (h2 : b = w.heap.size) => by have := h1.1; omega)
   have own2 := jbc own E (fun b hb (h2 : b = w.heap.size) => by have := (jai own hb).1; omega)
   have O2 := O.trans (E.mono fun b hb => Or.inl hb)
   have K2 := Kq.trans (E.below (fun b hb => by omega) Kq.size)
   have zE := E.size
   clear pc pf P own M2 O Kq E x1
   generalize (((((wz.setCell _ _).setCell _ _).setCell _ _).setCell _ _).setCell _ _).setCell _ _ = wv at *
   have own := own2
   have hzO := O2.size
   clear own2
   go_wp2_with (at_builtin; go_loud (refine jac rfl _ _ _ rfl Tryz.underlying42 jdq rfl (by decide) rfl own rfl (by simp) (by rfl) (by rfl) (by omega) (by decide) (by omega) ?_); intro A9 c9 w9 o9 h9 b9 q9)
   go_roundw
   case rel => exact ⟨k + 1, A9, c9, D.race, D.log, reps ++ [D.reply], A2, c2, D.reply, by omega, by go_num, rfl, rfl, by simpa [jkz] using o9, fun b hb => (q9 b hb).elim (hao b) (fun h => Or.inr (by omega)), HLN, P2.only h9 (fun h => by have := (hap _ h).1; omega), jb5 (M3.only h9 (fun b h1 h2 => by have := (hap b h2).2; have := h1.1; omega)) (fun b hb => Or.inr (by have := hb.1; omega)), HGD2, O2.trans (h9.mono fun b hb => Or.inr (hao b hb)), K2.trans (b9.mono (by omega))⟩
   case measure => simp [intOf]; omega
  ·obtain rfl : k = N := by omega
   have hlt1 : ¬ (k : Int) < (k : Int) := by omega
   have HF := Lib.hid (show (jqy ⟨t, cl, xs⟩ l L).2.2 = reps by have h9 := HRL.out; rw [List.take_of_length_le (by rw [HN.out]; exact Nat.le_refl _)] at h9; rw [h9])
   have hrl : reps.length = k := by rw [← HF.out, jrb]; exact HN.out
   go_wp2_with fail
   go_ret2
   rw [HR.out, HF.out]
   subst hrl
   exact ⟨A', c', rfl, jax own (by omega), K⟩
def js5 : Entrant := ⟨0, 0, 0, 0, []⟩
def jrt (n : Nat) : List (Hd Entrant) := List.replicate n ⟨js5, none, 0, 0⟩
theorem jss (n : Nat) (hn : n ≤ 8) : madeCells (Value.cells (.agg #[.int .i64 0, .int .i64 0, .int .i64 0, .int .i64 0, .slice none 0 0])) (n * 5) = ((jrt n).flatMap entrantSh.enc).toArray := by
 have hc : Value.cells (.agg #[.int .i64 0, .int .i64 0, .int .i64 0, .int .i64 0, .slice none 0 0]) = #[.int .i64 0, .int .i64 0, .int .i64 0, .int .i64 0, .slice none 0 0] := by first | rfl | simp [Value.cells] | kernel_rfl
 rw [hc]
 refine Array.ext' ?_
 simp only [madeCells, Array.toList_map, Array.toList_range]
 have h : n = 0 ∨ n = 1 ∨ n = 2 ∨ n = 3 ∨ n = 4 ∨ n = 5 ∨ n = 6 ∨ n = 7 ∨ n = 8 := by omega
 rcases h with rfl | rfl | rfl | rfl | rfl | rfl | rfl | rfl | rfl <;> rfl
theorem jtd (n : Nat) (hn : n ≤ 8) (w : World) : (Instr.makeSlice 30 (.int .i64 (n : Int)) (.int .i64 (n : Int))).run Tryz.prog w = .ok (.slice (some ⟨w.heap.size, 0, none⟩) n n) (w.alloc (.cells ((jrt n).flatMap entrantSh.enc).toArray 108)) := by
 obtain ⟨i0, hi, hz0, hz1, hz2⟩ := info_parts jbd
 have h := run_make (P := Tryz.prog) w 30 108 i0 (.agg #[.int .i64 0, .int .i64 0, .int .i64 0, .int .i64 0, .slice none 0 0]) Tryz.underlying30 hi hz0 .i64 .i64 n n (by omega) (by omega) (by rw [hz2]; omega) (by omega)
 rw [hz1, Int.toNat_natCast, jss n hn] at h
 exact h
theorem jte (n : Nat) (hn : n ≤ 8) (w : World) : MineN entrantSh (w.alloc (.cells ((jrt n).flatMap entrantSh.enc).toArray 108)) (In w.heap.size (w.heap.size + 1)) 108 188 (some ⟨w.heap.size, 0, none⟩) n n (List.replicate n js5) := by
 have hl : ((jrt n).flatMap entrantSh.enc).length = n * 5 := by rw [jpl]; simp [jrt, entrantSh]
 have hr : ∀ r ∈ jrt n, r = ⟨js5, none, 0, 0⟩ := fun r h => (List.mem_replicate.1 h).2
 have hno : ∀ r ∈ jrt n, ∀ b, ¬ jaj r.A b := fun r h b hb => by rw [hr r h] at hb; simp [jaj, Value.ownBlock] at hb
 refine ⟨jrt n, by simp [jrt], ⟨⟨jci (Nat.zero_le _) (Blk.at_ rfl) hl (Nat.le_refl _) (by simp only [maxLen]; omega) (by show List.take (n * 5) _ = _; rw [← hl]; exact List.take_length), fun b hb => ?_⟩, ⟨fun r h => ?_, ?_⟩, fun r h b hb => absurd hb (hno r h b)⟩⟩
 ·simp only [jaj, Value.ownBlock, Option.some.injEq] at hb
  exact ⟨by omega, by omega⟩
 ·rw [hr r h]
  exact ⟨World.ownsRow_nil _ _ _ _, fun b hb => by simp [jaj, Value.ownBlock] at hb⟩
 ·exact List.Pairwise.imp_of_mem (fun h _ _ b hb => absurd hb (hno _ h b)) (List.pairwise_of_forall (fun _ _ => trivial) (R := fun _ _ => True))
def jru (e0 : Int) : Nat := if inB e0 1 8 then e0.toNat else 0
theorem jtu (e0 : Int) : jru e0 ≤ 8 := by
 unfold jru
 split
 ·rename_i h
  have := jaq h
  omega
 ·omega
def jsf (w : World) (e0 : Int) (e : Ending) (w' : World) : Prop := ∃ A, e = .returned (.tuple #[.agg #[.int .i64 0, false, .slice A (jru e0) (jru e0)], .bool (inB e0 1 8)]) ∧ MineN entrantSh w' (In w.heap.size w'.heap.size) 108 188 A (jru e0) (jru e0) (List.replicate (jru e0) js5) ∧ Below w.heap.size w w'
theorem jtf (w : World) (S : Nat → Prop) : MineN entrantSh w (S) 108 188 none 0 0 (List.replicate 0 js5) := MineN.nil _ _ _ _
theorem jr2 (e0 : Int) (w : World) : Calls Tryz.prog 67 #[.int .i64 e0] w (jsf w e0) := by
 go_enter Tryz.func67, Tryz.ntmps67
 go_wp2_with fail
 have U := nB w (.cells #[.int .i64 0, false, .slice none 0 0] 32)
 have R := nP w [.int .i64 0, false, .slice none 0 0] 32
 refine (jae e0 1 8 _).mono ?_
 rintro e w' ⟨rfl, rfl⟩
 by_cases h : inB e0 1 8 = true
 ·have hb := jaq h
  obtain ⟨n, rfl⟩ := Int.eq_ofNat_of_zero_le (show 0 ≤ e0 by omega)
  have hn : n ≤ 8 := by omega
  have hmk := jtd n hn (w.alloc (.cells #[.int .i64 0, false, .slice none 0 0] 32))
  have hen : jru (n : Int) = n := by unfold jru; rw [if_pos h]; omega
  have M := jte n hn (w.alloc (.cells #[.int .i64 0, false, .slice (some ⟨w.heap.size + 1, 0, none⟩) n n] 32))
  have hsz : (w.alloc (.cells #[.int .i64 0, false, .slice none 0 0] 32)).heap.size = w.heap.size + 1 := by simp
  have hsz6 : (w.alloc (.cells #[.int .i64 0, false, .slice (some ⟨w.heap.size + 1, 0, none⟩) n n] 32)).heap.size = w.heap.size + 1 := by simp
  rw [hsz6] at M
  rw [hsz] at hmk
  have K3 := nB2 w (.cells #[.int .i64 0, false, .slice (some ⟨w.heap.size + 1, 0, none⟩) n n] 32) (.cells ((jrt n).flatMap entrantSh.enc).toArray 108)
  have cm := (show Blk ((w.alloc (.cells #[.int .i64 0, false, .slice (some ⟨w.heap.size + 1, 0, none⟩) n n] 32)).alloc (.cells ((jrt n).flatMap entrantSh.enc).toArray 108)) w.heap.size 32 [.int .i64 0, .bool false, .slice (some ⟨w.heap.size + 1, 0, none⟩) n n] from (Blk.at_ rfl).alloc _).cell
  have hz2 := nZ2 w (.cells #[.int .i64 0, false, .slice (some ⟨w.heap.size + 1, 0, none⟩) n n] 32) (.cells ((jrt n).flatMap entrantSh.enc).toArray 108)
  have M4 := M.wide (T := In w.heap.size ((w.alloc (.cells #[.int .i64 0, false, .slice (some ⟨w.heap.size + 1, 0, none⟩) n n] 32)).alloc (.cells ((jrt n).flatMap entrantSh.enc).toArray 108)).heap.size) (fun b hb => ⟨by have := hb.1; omega, by have := hb.2; omega⟩)
  rw [h]
  clear hsz R hsz6 M hz2 U
  go_wp2_with fail
  refine bodyPost_ret (v := .tuple #[.agg #[.int .i64 0, false, .slice (some ⟨w.heap.size + 1, 0, none⟩) n n], .bool true]) (by simp [results, Tryz.results67, go_sem, cm]) rfl ?_
  clear cm hmk
  generalize (w.alloc _).alloc _ = w3 at *
  exact ⟨some ⟨w.heap.size + 1, 0, none⟩, by rw [hen, h], by rw [hen]; exact M4, K3⟩
 ·have hb : inB e0 1 8 = false := by simpa using h
  have hen : jru e0 = 0 := by unfold jru; rw [if_neg h]
  have cr := R.cell
  have fr := R.frozen
  rw [hb]
  go_wp2_with fail
  have cm := R.cell
  refine bodyPost_ret (v := .tuple #[.agg #[.int .i64 0, false, .slice none 0 0], .bool false]) (by simp [results, Tryz.results67, go_sem, cm]) rfl ?_
  clear cm cr fr R
  generalize w.alloc _ = w3 at *
  exact ⟨none, by rw [hen, hb], by rw [hen]; exact jtf _ _, U⟩
def newR (e0 : Int) : RaceV := ⟨0, false, List.replicate (jru e0) js5⟩
theorem jtg {e0 : Int} (h : inB e0 1 8 = true) : ja0 (newR e0) = true := by
 have h1 := jaq h
 unfold newR
 obtain ⟨n, hn⟩ : ∃ n : Nat, jru e0 = n ∧ 1 ≤ n ∧ n ≤ 8 := ⟨_, rfl, by unfold jru; rw [h]; simp only [↓reduceIte]; omega, jtu e0⟩
 rw [hn.1]
 rcases (show n = 1 ∨ n = 2 ∨ n = 3 ∨ n = 4 ∨ n = 5 ∨ n = 6 ∨ n = 7 ∨ n = 8 by omega) with rfl | rfl | rfl | rfl | rfl | rfl | rfl | rfl <;> decide +kernel
end Go.Proofs.YtflpcdffmpfdpaaGreatDoor
