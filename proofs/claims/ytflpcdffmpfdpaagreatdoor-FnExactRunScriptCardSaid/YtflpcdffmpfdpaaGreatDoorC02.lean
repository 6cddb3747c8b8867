/- Joined texts of this proof: Script, StrS. -/
import Derived.Test.YtflpcdffmpfdpaaGreatDoorC01
import Derived.Test.YtflpcdffmpfdpaaGreatDoorB02
import Derived.Test.YtflpcdffmpfdpaaGreatDoorB11
import Derived.Test.YtflpcdffmpfdpaaGreatDoorB23
import Derived.Test.YtflpcdffmpfdpaaGreatDoorX01
set_option maxRecDepth 100000
set_option maxHeartbeats 8000000
namespace Go.Proofs.YtflpcdffmpfdpaaGreatDoor
open Go.RowKit
def jqw (r : RaceV) (l : Log) : List ByteArray → RaceV × Log × List ByteArray
 | [] => (r, l, [])
 | x :: xs => ((jqw (exM r l x).race (exM r l x).log xs).1, (jqw (exM r l x).race (exM r l x).log xs).2.1, (exM r l x).reply :: (jqw (exM r l x).race (exM r l x).log xs).2.2)
theorem jrh (x : ByteArray) : ∀ (xs : List ByteArray) (r : RaceV) (l : Log), jqw r l (xs ++ [x]) = ((exM (jqw r l xs).1 (jqw r l xs).2.1 x).race, (exM (jqw r l xs).1 (jqw r l xs).2.1 x).log, (jqw r l xs).2.2 ++ [(exM (jqw r l xs).1 (jqw r l xs).2.1 x).reply])
 | [], r, l => rfl
 | y :: ys, r, l => by
  rw [List.cons_append]
  unfold jqw
  rw [jrh x ys]
  rfl
theorem jq6 : ∀ (xs : List ByteArray) (r : RaceV) (l : Log), (jqw r l xs).2.2.length = xs.length
 | [], _, _ => rfl
 | y :: ys, r, l => by
  unfold jqw
  show (_ :: (jqw _ _ ys).2.2).length = _
  rw [List.length_cons, List.length_cons, jq6 ys]
def jqx (r : RaceV) (l : Log) (text : ByteArray) : Option (List ByteArray) :=
 if (ja0 r && ja9 l) = true ∧ text.size ≤ 4000 ∧ (jbb 10 text).length ≤ 30 then some (jqw r l (jbb 10 text)).2.2 else none
def jra (w : World) (R : Option (List ByteArray)) (e : Ending) (w' : World) : Prop :=
 ∃ A c, e = .returned (.tuple #[.slice A (R.getD []).length c, .bool R.isSome]) ∧ w'.ownsRow w.heap.size 9 1 (.slice A (R.getD []).length c) (R.getD []).length (jkz (R.getD [])) ∧ Below w.heap.size w w'
theorem jq0 {r : RaceV} {l : Log} {text : ByteArray} (h : ¬ ((ja0 r && ja9 l) = true ∧ text.size ≤ 4000 ∧ (jbb 10 text).length ≤ 30)) : jqx r l text = none := by unfold jqx; rw [if_neg h]
theorem jq4 {w w' : World} (h : Below w.heap.size w w') : jra w none (.returned (.tuple #[.slice none 0 0, .bool false])) w' := ⟨none, 0, rfl, World.ownsRow_nil _ _ _ _, h⟩
theorem jrg {r r2 : RaceV} {l l2 : Log} {L reps : List ByteArray} {k : Nat} (h : jqw r l (L.take k) = (r2, l2, reps)) (hk : k < L.length) : jqw r l (L.take (k + 1)) = ((exM r2 l2 L[k]).race, (exM r2 l2 L[k]).log, reps ++ [(exM r2 l2 L[k]).reply]) := by
 rw [List.take_succ_eq_append_getElem hk, jrh, h]
theorem jss {r : RaceV} {l : Log} {line : ByteArray} (h : ja0 r = true) : ja0 (exM r l line).race = true := by
 rcases jtf (r := r) (l := l) (line := line) with h1 | h1
 ·rw [h1]; exact h
 ·exact h1
theorem jr6 (k : Nat) (e : LogRecord) (hk : k < 100) (he : jgb e = true) : (jck k e).size ≤ 800 := by
 obtain ⟨⟨h0, h2⟩, h3, _⟩ := jdn he
 have hn := jcg k 2 (by omega) (by decide)
 have hs := jgr (jd9 k e)
 have hb : (jd9 k e).size ≤ 764 := by
  unfold jd9
  simp only [ByteArray.size_append]
  have z1 : (⟨#[32]⟩ : ByteArray).size = 1 := rfl
  have z2 : (⟨#[64]⟩ : ByteArray).size = 1 := rfl
  omega
 unfold jck
 rw [ByteArray.size_append]
 have z1 : (⟨#[10]⟩ : ByteArray).size = 1 := rfl
 omega
theorem js5 {r : RaceV} {l : Log} {line : ByteArray} (h : l.upto 1048576) : (exM r l line).log.upto 1048576 := by
 unfold exM
 by_cases h1 : (ja0 r && ja9 l) = false
 ·rw [if_pos h1]
  exact h
 rw [if_neg h1]
 by_cases h2 : jgb ⟨line, ⟨#[]⟩⟩ = false
 ·rw [if_pos h2]
  exact h
 rw [if_neg h2]
 by_cases h3 : l.count = 60
 ·rw [if_pos h3]
  exact h
 rw [if_neg h3]
 have hv : ja9 l = true := by
  cases hv : ja9 l with
  | true => rfl
  | false => exact absurd (by rw [hv, Bool.and_false]) h1
 have h9 := jg4 hv
 unfold jgg
 split
 ·rename_i he
  ·simp only [Bool.and_eq_true] at he
   have hl := jr6 l.count.toNat _ (by omega) he.2
   refine ⟨by show l.durable.size ≤ 1048576; omega, ?_⟩
   show (l.pending ++ jck _ _).size ≤ 1048576
   rw [ByteArray.size_append]
   omega
 ·exact h
theorem jr0 (t : Int) (cl : Bool) (l : Log) (A : Option Addr) (n c : Nat) (xs : List Entrant) (text : ByteArray) (w : World) (hx : SeesN entrantSh w 0 A n xs) (hn : n ≤ 1048576) (hi : ∀ x ∈ xs, x.cnt ≤ 1048576) (hs : l.upto 1048576) (hts : text.size ≤ 1048576) (hgl : GlE w) :
  Calls Tryz.prog 17 #[.agg #[t, cl, .slice A n c, l.durable, l.pending, l.count], .string text] w (jra w (jqx ⟨t, cl, xs⟩ l text)) := by
 have K := nB w (.cells #[t, cl, .slice A n c, l.durable, l.pending, l.count] 35)
 have P := nP w [t, cl, .slice A n c, l.durable, l.pending, l.count] 35
 have hlp := jjr 10 text
 have HPC0 := Lib.hid (fun x (hx : x ∈ jbb 10 text) => jg5 10 text hx)
 obtain ⟨L, hL⟩ : ∃ L, jbb 10 text = L := ⟨_, rfl⟩
 have HL := Lib.hid hL
 have hst0 := hx
 obtain ⟨N, hN⟩ : ∃ N, L.length = N := ⟨_, rfl⟩
 have HN := Lib.hid hN
 have HSP := Lib.hid (fun W h => jpq text 10 W (by omega) h)
 rw [hL] at HSP HPC0
 unfold jgf at HSP
 rw [hN] at HSP
 have hNp : 0 < N := by rw [← hN, ← hL]; omega
 clear hL hN hlp
 go_enter Tryz.func17, Tryz.ntmps17
 go_upto_region 1 with fail
 generalize w.alloc _ = w1 at *
 have z1 := P.lt
 have pc := P.cell
 replace hx := hx.next K
 go_wp2_with fail
 refine (IsValidConsole_any t cl l A n c xs w1 hx hn hi hs (hgl.next K).gl).mono ?_
 obtain ⟨vb, hvb⟩ : ∃ b, (jbf t cl xs && ja9 l) = b := ⟨_, rfl⟩
 rw [hvb]
 have HV := Lib.hid hvb
 clear hvb
 rintro e9 w2 ⟨rfl, b9⟩
 replace P := P.next b9
 replace K := jaa K b9
 clear b9 pc hx
 cases vb
 ·have HR := Lib.hid (show jqx ⟨t, cl, xs⟩ l text = none from jq0 (fun h => by have h1 : (jbf t cl xs && ja9 l) = true := h.1; rw [HV.out] at h1; cases h1))
  go_wp2_with fail
  go_ret2
  rw [HR.out]
  exact jq4 K
 have hgood : ja0 ⟨t, cl, xs⟩ = true := by have := HV.out; simp only [Bool.and_eq_true] at this; exact this.1
 by_cases h4 : 4000 < text.size
 ·have h5 : (4000 : Int) < (text.size : Int) := by omega
  have HR := Lib.hid (show jqx ⟨t, cl, xs⟩ l text = none from jq0 (fun h => by omega))
  go_wp2_with fail
  go_ret2
  rw [HR.out]
  exact jq4 K
 have h5 : ¬ (4000 : Int) < (text.size : Int) := by omega
 go_wp2_with fail
 refine (HSP.out w2 (hgl.next K).gl).mono ?_
 rintro e9 w4 ⟨AW, cw, rfl, oW, b9⟩
 clear HSP
 rcases jby oW with ⟨-, hz, -, -⟩ | ⟨gw, cur, rfl, hgb, hB, hcl, hnc, hcm, htk⟩
 ·omega
 have hgw := hB.lt
 have hW := Sees.of_own oW
 clear hB hcl htk hcm hnc
 have z2 := P.lt
 replace P := P.next b9
 replace K := jaa K b9
 by_cases h30 : 30 < N
 ·have h31 : (30 : Int) < (N : Int) := by omega
  have HR := Lib.hid (show jqx ⟨t, cl, xs⟩ l text = none from jq0 (fun h => by have := h.2.2; rw [HL.out, HN.out] at this; omega))
  go_wp2_with fail
  go_ret2
  rw [HR.out]
  exact jq4 K
 have h31 : ¬ (30 : Int) < (N : Int) := by omega
 have HR := Lib.hid (show jqx ⟨t, cl, xs⟩ l text = some (jqw ⟨t, cl, xs⟩ l L).2.2 by unfold jqx; rw [if_pos ⟨HV.out, by omega, by rw [HL.out, HN.out]; omega⟩, HL.out])
 have own0 := ja4 w4 9 1
 have U := nB w4 (.cells #[] 9)
 have hzu := nZ w4 (.cells #[] 9)
 have hz3 := P.lt
 replace P := P.next U
 replace K := jaa K U
 replace hW := hW.next U
 have hwb : w.heap.size + 1 ≤ w2.heap.size := z2
 go_wp2_with fail
 clear b9 U oW
 generalize w4.alloc _ = w3 at *
 have hxl := hst0.count
 subst hxl
 go_loopw [7, 28] (fun v iv wr => ∃ (k : Nat) (A' : Option Addr) (c' : Nat) (r : RaceV) (lg : Log) (reps : List ByteArray) (A1 : Option Addr) (c1 : Nat), k ≤ N ∧ iv = .int .i64 (k : Int) ∧ v = .slice A' k c' ∧ wr.ownsRow w4.heap.size 9 1 (.slice A' k c') k (jkz reps) ∧ Hid (jqw ⟨t, cl, xs⟩ l (L.take k) = (r, lg, reps)) ∧ Blk wr w.heap.size 35 [.int .i64 r.clock, .bool r.closed, .slice A1 r.field.length c1, .string lg.durable, .string lg.pending, .int .i64 lg.count] ∧ Stays wr w.heap.size (w.heap.size + 1) A1 r.field.length r.field ∧ Hid (ja0 r = true ∧ lg.upto 1048576) ∧ Only (fun b => b = w.heap.size ∨ w4.heap.size ≤ b) w3 wr ∧ Below w.heap.size w wr) (fun _ iv _ => N - (intOf iv).toNat)
 case atStart => exact ⟨0, _, 0, ⟨t, cl, xs⟩, l, [], A, c, Nat.zero_le _, rfl, rfl, own0, Lib.hid rfl, P, jky hst0 K, Lib.hid ⟨hgood, hs⟩, Only.refl _ _, K⟩
 case round =>
  obtain ⟨k, A', c', r, lg, reps, A1, c1, hk, rfl, rfl, own, HRL, P, X, HGD, O, K⟩ := hrel
  clear own0
  have hap : ∀ b, jaj A' b → w4.heap.size ≤ b ∧ b < wr.heap.size := fun b hb => jai own hb
  by_cases hlt : k < N
  ·have hlt1 : (k : Int) < (N : Int) := by omega
   have hkr : k < L.length := by rw [HN.out]; exact hlt
   obtain ⟨hx1, x1⟩ := jiw (hW.only O (fun b off e _ hb => by
    injection e with e
    injection e with e1 _ _
    subst e1
    rcases hb with hb | hb <;> omega)) hlt
   have HLN := Lib.hid (jrg HRL.out hkr)
   have HSZ := HPC0.out L[k] (List.getElem_mem hkr)
   obtain ⟨ln, hln⟩ : ∃ ln, L[k] = ln := ⟨_, rfl⟩
   rw [hln] at x1 HLN HSZ
   obtain ⟨D, hD⟩ : ∃ D, exM r lg ln = D := ⟨_, rfl⟩
   have CC := ExecuteCommand_any r.clock r.closed lg A1 r.field.length c1 r.field ln wr X.sees (jrb HGD.out.1).1 (jrb HGD.out.1).2.1 HGD.out.2 (by omega) (hgl.next K)
   rw [show (⟨r.clock, r.closed, r.field⟩ : RaceV) = r from rfl, hD] at CC
   have HGD2 := Lib.hid (show ja0 D.race = true ∧ D.log.upto 1048576 by rw [← hD]; exact ⟨jss HGD.out.1, js5 HGD.out.2⟩)
   rw [hD] at HLN
   have HCC := Lib.hid CC
   clear hD CC hln HSZ
   have pc := P.cell
   have zl := P.lt
   go_wp2_with fail
   refine HCC.out.mono ?_
   clear HCC X pc x1
   rintro e9 w5 ⟨A2, c2, rfl, M2, b9⟩
   have U := nB w5 (.cells #[D.race.clock, D.race.closed, .slice A2 D.race.field.length c2, D.log.durable, D.log.pending, D.log.count] 35)
   have Y := nP w5 [D.race.clock, D.race.closed, .slice A2 D.race.field.length c2, D.log.durable, D.log.pending, D.log.count] 35
   have z5 := b9.size
   have zy := nZ w5 (.cells #[D.race.clock, D.race.closed, .slice A2 D.race.field.length c2, D.log.durable, D.log.pending, D.log.count] 35)
   replace b9 := jaa b9 U
   replace M2 := M2.next U
   replace P := P.next b9
   replace own := jad own b9
   replace O := O.then_ b9
   replace K := jaa K b9
   clear b9 U
   go_upto_region 11 with fail
   generalize w5.alloc _ = w6 at *
   generalize w5.heap.size = gy at *
   have yc := Y.cell
   have pc := P.cell
   have pf := P.frozen
   obtain ⟨P2, E⟩ := jal P (.int .i64 D.race.clock) (.bool D.race.closed) (.slice A2 D.race.field.length c2) (.string D.log.durable) (.string D.log.pending) (.int .i64 D.log.count)
   have M3 := M2.only E (fun b h1 (h2 : b = w.heap.size) => by have := h1.1; omega)
   have own2 := jbc own E (fun b hb (h2 : b = w.heap.size) => by have := (jai own hb).1; omega)
   have O2 := O.trans (E.mono fun b hb => Or.inl hb)
   have K2 := K.trans (E.below (fun b hb => by omega) K.size)
   have zE := E.size
   go_upto_region 12 with fail
   clear yc pc pf P Y own M2 O K E
   generalize (((((w6.setCell _ _).setCell _ _).setCell _ _).setCell _ _).setCell _ _).setCell _ _ = wv at *
   have own := own2
   have hzO := O2.size
   clear own2
   go_wp2_with (at_builtin; go_loud (refine jac rfl _ _ _ rfl Tryz.underlying42 jdq rfl (by decide) rfl own rfl (by simp) (by rfl) (by rfl) (by omega) (by decide) (by omega) ?_); intro A9 c9 w9 o9 h9 b9 q9)
   go_roundw
   case rel => exact ⟨k + 1, A9, c9, D.race, D.log, reps ++ [D.reply], A2, c2, by omega, by go_num, rfl, by simpa [jkz] using o9, HLN, P2.only h9 (fun h => by have := (hap _ h).1; omega), jb5 (M3.only h9 (fun b h1 h2 => by have := (hap b h2).2; have := h1.1; omega)) (fun b hb => Or.inr (by have := hb.1; omega)), HGD2, O2.trans (h9.mono fun b hb => Or.inr (hap b hb).1), K2.trans (b9.mono (by omega))⟩
   case measure => simp [intOf]; omega
  ·obtain rfl : k = N := by omega
   have hlt1 : ¬ (k : Int) < (k : Int) := by omega
   have HF := Lib.hid (show (jqw ⟨t, cl, xs⟩ l L).2.2 = reps by have h9 := HRL.out; rw [List.take_of_length_le (by rw [HN.out]; exact Nat.le_refl _)] at h9; rw [h9])
   have hrl : reps.length = k := by rw [← HF.out, jq6]; exact HN.out
   go_wp2_with fail
   go_ret2
   rw [HR.out, HF.out]
   subst hrl
   exact ⟨A', c', rfl, jax own (by omega), K⟩
theorem jri (t : Int) (cl : Bool) (l : Log) (A : Option Addr) (n c : Nat) (xs : List Entrant) (text : ByteArray) (w : World) (hx : SeesN entrantSh w 0 A n xs) (hn : n ≤ 1048576) (hi : ∀ x ∈ xs, x.cnt ≤ 1048576) (hs : l.upto 1048576) (hts : text.size ≤ 1048576) :
  Calls Tryz.prog 16 #[.agg #[t, cl, .slice A n c, l.durable, l.pending, l.count], .string text] w (jra w (jqx ⟨t, cl, xs⟩ l text)) := by
 have K := nB w (.cells #[t, cl, .slice A n c, l.durable, l.pending, l.count] 35)
 have P := nP w [t, cl, .slice A n c, l.durable, l.pending, l.count] 35
 have hlp := jjr 10 text
 have HPC0 := Lib.hid (fun x (hx : x ∈ jbb 10 text) => jg5 10 text hx)
 obtain ⟨L, hL⟩ : ∃ L, jbb 10 text = L := ⟨_, rfl⟩
 have HL := Lib.hid hL
 have hst0 := hx
 obtain ⟨N, hN⟩ : ∃ N, L.length = N := ⟨_, rfl⟩
 have HN := Lib.hid hN
 have HSP := Lib.hid (fun W => jlg text 10 10 W rfl (by omega))
 rw [hL] at HSP HPC0
 unfold jgf at HSP
 rw [hN] at HSP
 have hNp : 0 < N := by rw [← hN, ← hL]; omega
 clear hL hN hlp
 go_enter Tryz.func16, Tryz.ntmps16
 go_upto_region 1 with fail
 generalize w.alloc _ = w1 at *
 have z1 := P.lt
 have own0 := ja4 w1 9 1
 have U := nB w1 (.cells #[] 9)
 have hzu := nZ w1 (.cells #[] 9)
 replace P := P.next U
 replace K := jaa K U
 replace hx := hx.next K
 clear U
 go_upto_region 2 with fail
 generalize w1.alloc _ = w3 at *
 generalize w1.heap.size = ow at *
 go_wp2_with fail
 refine (HSP.out w3).mono ?_
 rintro e9 w2 ⟨AW, cw, rfl, oW, b9⟩
 clear HSP
 rcases jby oW with ⟨-, hz, -, -⟩ | ⟨gw, cur, rfl, hgb, hB, hcl, hnc, hcm, htk⟩
 ·omega
 have hW := Sees.of_own oW
 have z2 := b9.size
 have hgw := hB.lt
 replace P := P.next b9
 replace K := jaa K b9
 replace hx := hx.next b9
 replace own0 := jad own0 b9
 have pc := P.cell
 clear b9 hB hcl htk hcm hnc oW
 go_wp2_with fail
 refine (l28Good_any t cl l A n c xs w2 hx hn hi hs).mono ?_
 obtain ⟨vb, hvb⟩ : ∃ b, (jbf t cl xs && ja9 l) = b := ⟨_, rfl⟩
 rw [hvb]
 have HV := Lib.hid hvb
 clear hvb
 rintro e9 w4 ⟨rfl, b9⟩
 replace P := P.next b9
 replace K := jaa K b9
 replace own0 := jad own0 b9
 replace hW := hW.next b9
 have z4 := b9.size
 clear b9 pc hx
 cases vb
 ·have HR := Lib.hid (show jqx ⟨t, cl, xs⟩ l text = none from jq0 (fun h => by have h1 : (jbf t cl xs && ja9 l) = true := h.1; rw [HV.out] at h1; cases h1))
  go_wp2_with fail
  go_ret2
  rw [HR.out]
  exact ⟨_, _, rfl, jax own0 (by omega), K⟩
 have hgood : ja0 ⟨t, cl, xs⟩ = true := by have := HV.out; simp only [Bool.and_eq_true] at this; exact this.1
 by_cases h4 : 4000 < text.size
 ·have h5 : (4000 : Int) < (text.size : Int) := by omega
  have HR := Lib.hid (show jqx ⟨t, cl, xs⟩ l text = none from jq0 (fun h => by omega))
  go_wp2_with fail
  go_ret2
  rw [HR.out]
  exact ⟨_, _, rfl, jax own0 (by omega), K⟩
 have h5 : ¬ (4000 : Int) < (text.size : Int) := by omega
 by_cases h30 : 30 < N
 ·have h31 : (30 : Int) < (N : Int) := by omega
  have HR := Lib.hid (show jqx ⟨t, cl, xs⟩ l text = none from jq0 (fun h => by have := h.2.2; rw [HL.out, HN.out] at this; omega))
  go_wp2_with fail
  go_ret2
  rw [HR.out]
  exact ⟨_, _, rfl, jax own0 (by omega), K⟩
 have h31 : ¬ (30 : Int) < (N : Int) := by omega
 have HR := Lib.hid (show jqx ⟨t, cl, xs⟩ l text = some (jqw ⟨t, cl, xs⟩ l L).2.2 by unfold jqx; rw [if_pos ⟨HV.out, by omega, by rw [HL.out, HN.out]; omega⟩, HL.out])
 go_wp2_with fail
 have hxl := hst0.count
 subst hxl
 go_loopw [6, 8, 9] (fun v sv iv wr => ∃ (k : Nat) (A' : Option Addr) (c' : Nat) (r : RaceV) (lg : Log) (reps : List ByteArray) (A1 : Option Addr) (c1 : Nat) (q : ByteArray), k ≤ N ∧ iv = .int .i64 (k : Int) ∧ v = .slice A' k c' ∧ sv = .string q ∧ wr.ownsRow ow 9 1 (.slice A' k c') k (jkz reps) ∧ (∀ b, jaj A' b → b = ow ∨ w4.heap.size ≤ b) ∧ Hid (jqw ⟨t, cl, xs⟩ l (L.take k) = (r, lg, reps)) ∧ Blk wr w.heap.size 35 [.int .i64 r.clock, .bool r.closed, .slice A1 r.field.length c1, .string lg.durable, .string lg.pending, .int .i64 lg.count] ∧ Stays wr w.heap.size (w.heap.size + 1) A1 r.field.length r.field ∧ Hid (ja0 r = true ∧ lg.upto 1048576) ∧ Only (fun b => b = w.heap.size ∨ b = ow ∨ w4.heap.size ≤ b) w4 wr ∧ Below w.heap.size w wr) (fun _ _ iv _ => N - (intOf iv).toNat)
 case atStart => exact ⟨0, _, 0, ⟨t, cl, xs⟩, l, [], A, c, _, Nat.zero_le _, rfl, rfl, rfl, own0, fun b hb => Or.inl (by simpa [jaj, Value.ownBlock] using hb.symm), Lib.hid rfl, P, jky hst0 K, Lib.hid ⟨hgood, hs⟩, Only.refl _ _, K⟩
 case round =>
  obtain ⟨k, A', c', r, lg, reps, A1, c1, q, hk, rfl, rfl, rfl, own, hao, HRL, P, X, HGD, O, K⟩ := hrel
  clear own0
  have hap : ∀ b, jaj A' b → ow ≤ b ∧ b < wr.heap.size := fun b hb => jai own hb
  by_cases hlt : k < N
  ·have hlt1 : (k : Int) < (N : Int) := by omega
   have hkr : k < L.length := by rw [HN.out]; exact hlt
   obtain ⟨hx1, x1⟩ := jiw (hW.only O (fun b off e _ hb => by
    injection e with e
    injection e with e1 _ _
    subst e1
    rcases hb with hb | hb | hb <;> omega)) hlt
   have HLN := Lib.hid (jrg HRL.out hkr)
   have HSZ := HPC0.out L[k] (List.getElem_mem hkr)
   obtain ⟨ln, hln⟩ : ∃ ln, L[k] = ln := ⟨_, rfl⟩
   rw [hln] at x1 HLN HSZ
   obtain ⟨D, hD⟩ : ∃ D, exM r lg ln = D := ⟨_, rfl⟩
   have HCC := Lib.hid (fun W (h : Below wr.heap.size wr W) => specExecuteCommand_any r.clock r.closed lg A1 r.field.length c1 r.field ln W (X.below h).sees (jrb HGD.out.1).1 (jrb HGD.out.1).2.1 HGD.out.2 (by omega))
   rw [show (⟨r.clock, r.closed, r.field⟩ : RaceV) = r from rfl, hD] at HCC
   have HGD2 := Lib.hid (show ja0 D.race = true ∧ D.log.upto 1048576 by rw [← hD]; exact ⟨jss HGD.out.1, js5 HGD.out.2⟩)
   rw [hD] at HLN
   clear hD hln HSZ
   have zl := P.lt
   have b9 := (Quiet.one wr).below wr.heap.size
   have Kr := b9
   have Kq := K
   clear K X
   replace x1 := (b9.cell (p := ⟨gw, k, none⟩) (World.block_lt_of_cell? _ _ x1)).trans x1
   replace P := P.next b9
   replace own := jad own b9
   replace O := O.then_ b9
   replace Kq := jaa Kq b9
   clear b9
   have pc := P.cell
   go_upto_region 9 with fail
   refine wp_region_held_drew (S := fun w' => w'.cell? ⟨gw, k, none⟩ = some (.string ln)) (by kernel_rfl) (by (try dsimp only); exact x1) (fun hH => ?_)
   generalize wr.drew = wz at *
   refine wQ 1 ?_
   refine wQ 2 ?_
   refine wQ 3 ?_
   refine wQ 4 ?_
   refine wR (rs := [0]) (by kernel_rfl) (by simp) ?_
   refine aC rfl (fun K hK => ?_) aN
   go_simp
   refine hK.out _ _ (by (try dsimp only); exact x1) (fun hH => ?_)
   clear hK K
   try simp only [Act.put, pX]
   refine wR (rs := [5]) (by kernel_rfl) (by simp) ?_
   refine aC rfl (fun K hK => ?_) aN
   go_simp
   have zwr := Kr.size
   go_must (refine (HCC.out wz Kr).mono ?_)
   rintro e9 w5 ⟨A2, c2, he9, M2, b9⟩
   replace he9 : e9 = .returned (.tuple #[.agg #[D.race.clock, D.race.closed, .slice A2 D.race.field.length c2, D.log.durable, D.log.pending, D.log.count], .string D.reply]) := he9
   subst he9
   replace x1 := (b9.cell (p := ⟨gw, k, none⟩) (World.block_lt_of_cell? _ _ x1)).trans x1
   replace P := P.next b9
   replace own := jad own b9
   replace O := O.then_ b9
   replace Kq := jaa Kq b9
   obtain ⟨zlo, hzlo⟩ : ∃ z, wz.heap.size = z := ⟨_, rfl⟩
   rw [hzlo] at M2 zwr
   have zP5 := P.lt
   clear b9 pc hzlo Kr
   have pc := P.cell
   have pf := P.frozen
   generalize w5 = wz at *
   go_wp2_with fail
   refine hK.out _ _ (by (try dsimp only); exact x1) (fun hH => ?_)
   clear hK K
   refine wQ 6 ?_
   refine wQ 7 ?_
   refine wQ 8 ?_
   refine wR (rs := [9]) (by kernel_rfl) (by simp) ?_
   refine aC rfl (fun K hK => ?_) aN
   go_simp
   refine hK.out _ _ (by (try dsimp only); have E := (jal P (.int .i64 D.race.clock) (.bool D.race.closed) (.slice A2 D.race.field.length c2) (.string D.log.durable) (.string D.log.pending) (.int .i64 D.log.count)).2; exact (jc5 E (fun (h : gw = _) => by omega) (World.block_lt_of_cell? _ _ x1)).trans x1) (fun hH => ?_)
   clear hK K
   try simp only [Act.put, pX]
   refine wQ 10 ?_
   refine wD (by kernel_rfl) ?_ _
   obtain ⟨P2, E⟩ := jal P (.int .i64 D.race.clock) (.bool D.race.closed) (.slice A2 D.race.field.length c2) (.string D.log.durable) (.string D.log.pending) (.int .i64 D.log.count)
   have M3 := M2.only E (fun b h1 (h2 : b = w.heap.size) => by have := h1.1; omega)
   have own2 := jbc own E (fun b hb (h2 : b = w.heap.size) => by have := (jai own hb).1; omega)
   have O2 := O.trans (E.mono fun b hb => Or.inl hb)
   have K2 := Kq.trans (E.below (fun b hb => by omega) Kq.size)
   have zE := E.size
   clear pc pf P own M2 O Kq E x1
   generalize (((((wz.setCell _ _).setCell _ _).setCell _ _).setCell _ _).setCell _ _).setCell _ _ = wv at *
   have own := own2
   have hzO := O2.size
   clear own2
   go_wp2_with (at_builtin; go_loud (refine jac rfl _ _ _ rfl Tryz.underlying42 jdq rfl (by decide) rfl own rfl (by simp) (by rfl) (by rfl) (by omega) (by decide) (by omega) ?_); intro A9 c9 w9 o9 h9 b9 q9)
   go_roundw
   case rel => exact ⟨k + 1, A9, c9, D.race, D.log, reps ++ [D.reply], A2, c2, D.reply, by omega, by go_num, rfl, rfl, by simpa [jkz] using o9, fun b hb => (q9 b hb).elim (hao b) (fun h => Or.inr (by omega)), HLN, P2.only h9 (fun h => by have := (hap _ h).1; omega), jb5 (M3.only h9 (fun b h1 h2 => by have := (hap b h2).2; have := h1.1; omega)) (fun b hb => Or.inr (by have := hb.1; omega)), HGD2, O2.trans (h9.mono fun b hb => Or.inr (hao b hb)), K2.trans (b9.mono (by omega))⟩
   case measure => simp [intOf]; omega
  ·obtain rfl : k = N := by omega
   have hlt1 : ¬ (k : Int) < (k : Int) := by omega
   have HF := Lib.hid (show (jqw ⟨t, cl, xs⟩ l L).2.2 = reps by have h9 := HRL.out; rw [List.take_of_length_le (by rw [HN.out]; exact Nat.le_refl _)] at h9; rw [h9])
   have hrl : reps.length = k := by rw [← HF.out, jq6]; exact HN.out
   go_wp2_with fail
   go_ret2
   rw [HR.out, HF.out]
   subst hrl
   exact ⟨A', c', rfl, jax own (by omega), K⟩
def jqy (k0 : Int) (n : Nat) : List ByteArray := (List.range n).map fun i : Nat => jp7 (k0 + i)
theorem jrc (k0 : Int) (n : Nat) : (jqy k0 n).length = n := by simp [jqy]
theorem jsv (k0 : Int) {n k : Nat} (h : k < (jqy k0 n).length) : (jqy k0 n)[k] = jp7 (k0 + k) := by simp [jqy]
theorem jsq (k0 : Int) (n : Nat) : jqy k0 (n + 1) = jqy k0 n ++ [jp7 (k0 + n)] := by simp [jqy, List.range_succ]
theorem jr5 (g g' n c c' lo lo' : Nat) (xs : List ByteArray) (w : World) (hx : Sees w lo 1 (some ⟨g, 0, none⟩) n (jkz xs)) (hy : Sees w lo' 1 (some ⟨g', 0, none⟩) n (jkz xs)) (hn : n ≤ 1000) :
  Calls Tryz.prog 18 #[.slice (some ⟨g, 0, none⟩) n c, .slice (some ⟨g', 0, none⟩) n c'] w fun e w' => e = .returned (.bool true) ∧ Quiet w w' := by
 go_enter Tryz.func18, Tryz.ntmps18
 go_wp2_with fail
 go_loopw [5] (fun iv wr => ∃ k : Nat, k ≤ n ∧ iv = .int .i64 (k : Int) ∧ Quiet w wr) (fun iv _ => n - (intOf iv).toNat)
 case atStart => exact ⟨0, Nat.zero_le _, rfl, Quiet.refl _⟩
 case round =>
  obtain ⟨k, hk, rfl, q⟩ := hrel
  by_cases hlt : k < n
  ·have hlt1 : (k : Int) < (n : Int) := by omega
   have hi1 : (0 : Int) ≤ (k : Int) := by omega
   obtain ⟨hk1, x0⟩ := jiw (hx.quiet q) hlt
   obtain ⟨hk2, y0⟩ := jiw (hy.quiet q) hlt
   have es : (xs[k].toList != xs[k].toList) = false := bne_self_eq_false _
   go_wp2_with fail
   go_quiet (fail)
   go_wp2_with fail
   go_roundw
   case rel => exact ⟨k + 1, by omega, by go_num, q.trans ⟨nq, rfl⟩⟩
   case measure => simp [intOf]; omega
  ·have hlt1 : ¬ (k : Int) < (n : Int) := by omega
   go_wp2_with fail
   go_ret
   exact ⟨rfl, q⟩
theorem jro (g n c lo : Nat) (k0 : Int) (w : World) (hx : Sees w lo 1 (some ⟨g, 0, none⟩) n (jkz (jqy k0 n))) (hn : n ≤ 1000) (h0 : 0 ≤ k0) (h1 : k0 ≤ 1000) :
  Calls Tryz.prog 20 #[.slice (some ⟨g, 0, none⟩) n c, .int .i64 k0] w fun e w' => e = .returned (.int .i64 (k0 + n)) ∧ Below w.heap.size w w' := by
 go_enter Tryz.func20, Tryz.ntmps20
 go_wp2_with fail
 go_loopw [1, 5] (fun qv iv wr => ∃ k : Nat, k ≤ n ∧ qv = .int .i64 (k0 + k) ∧ iv = .int .i64 (k : Int) ∧ Below w.heap.size w wr) (fun _ iv _ => n - (intOf iv).toNat)
 case atStart => exact ⟨0, Nat.zero_le _, by simp, rfl, Below.refl _ _⟩
 case round =>
  obtain ⟨k, hk, rfl, rfl, hb⟩ := hrel
  by_cases hlt : k < n
  ·have hlt1 : (k : Int) < (n : Int) := by omega
   have hi1 : (0 : Int) ≤ (k : Int) := by omega
   obtain ⟨hk1, x0⟩ := jiw (hx.next hb) hlt
   rw [jsv] at x0
   have es : ((jp7 (k0 + k)).toList != (jp7 (k0 + k)).toList) = false := bne_self_eq_false _
   go_wp2_with fail
   have q1 := (Quiet.one wr).below wr.heap.size
   have K1 := jaa hb q1
   go_region_held3 (fun w' => w'.cell? ⟨g, k, none⟩ = some (.string (jp7 (k0 + k)))) (go_keep)
    ((go_at_call 57; refine (jrk _ _ (by omega) (by omega)).mono ?_; rintro e w1 ⟨rfl, b1⟩; replace K1 := jaa K1 b1; replace x0 := (b1.cell (p := ⟨g, k, none⟩) (World.block_lt_of_cell? _ _ x0)).trans x0; clear b1))
   go_wp2_with fail
   go_roundw
   case rel => exact ⟨k + 1, by omega, by go_num, by go_num, K1⟩
   case measure => simp [intOf]; omega
  ·have hlt1 : ¬ (k : Int) < (n : Int) := by omega
   obtain rfl : k = n := by omega
   go_wp2_with fail
   go_ret
   exact ⟨rfl, hb⟩
theorem js6 {cur : List Value} {k0 : Int} {k : Nat} (hk : k < cur.length) : (jkz (jqy k0 k) ++ cur.drop k).set k (.string (jp7 (k0 + k))) = jkz (jqy k0 (k + 1)) ++ cur.drop (k + 1) := by
 have hl : (jkz (jqy k0 k)).length = k := by simp [jkz, jrc]
 rw [List.drop_eq_getElem_cons hk, List.set_append_right _ _ (by omega), hl, Nat.sub_self, List.set_cons_zero, jsq]
 simp [jkz]
theorem jtl {cur : List Value} {k0 : Int} {k : Nat} (hk : k < cur.length) : (jkz (jqy k0 k) ++ cur.drop k)[k]? = some cur[k] := by
 have hl : (jkz (jqy k0 k)).length = k := by simp [jkz, jrc]
 rw [List.getElem?_append_right (by omega), hl, Nat.sub_self, List.getElem?_drop, Nat.add_zero, List.getElem?_eq_getElem hk]
theorem jrq (base g n c : Nat) (xs : List ByteArray) (k0 : Int) (w : World) (hx : w.ownsRow base 9 1 (.slice (some ⟨g, 0, none⟩) n c) n (jkz xs)) (hn : n ≤ 1000) (h0 : 0 ≤ k0) (h1 : k0 ≤ 1000) :
  Calls Tryz.prog 19 #[.slice (some ⟨g, 0, none⟩) n c, .int .i64 k0] w fun e w' => e = .returned (.int .i64 (k0 + n)) ∧ w'.ownsRow base 9 1 (.slice (some ⟨g, 0, none⟩) n c) n (jkz (jqy k0 n)) ∧ Only (fun b => b = g) w w' := by
 rcases jby hx with ⟨h, _⟩ | ⟨g', cur, he, hgb, hB, hcl, hnc, hcm, htk⟩
 ·cases h
 injection he with he
 injection he with he _ _
 subst he
 have hcl2 : cur.length = c := by omega
 clear hx htk hcl
 go_enter Tryz.func19, Tryz.ntmps19
 go_wp2_with fail
 go_loopw [1, 5] (fun qv iv wr => ∃ k : Nat, k ≤ n ∧ qv = .int .i64 (k0 + k) ∧ iv = .int .i64 (k : Int) ∧ Blk wr g 9 (jkz (jqy k0 k) ++ cur.drop k) ∧ Only (fun b => b = g) w wr) (fun _ iv _ => n - (intOf iv).toNat)
 case atStart => exact ⟨0, Nat.zero_le _, by simp, rfl, by simpa [jkz, jqy] using hB, Only.refl _ _⟩
 case round =>
  obtain ⟨k, hk, rfl, rfl, P, O⟩ := hrel
  by_cases hlt : k < n
  ·have hlt1 : (k : Int) < (n : Int) := by omega
   have hi1 : (0 : Int) ≤ (k : Int) := by omega
   have hkc : k < cur.length := by omega
   go_wp2_with fail
   refine (jrk _ _ (by omega) (by omega)).mono ?_
   rintro e w1 ⟨rfl, b1⟩
   replace P := P.next b1
   replace O := O.then_ b1
   have x0 : w1.cell? ⟨g, k, none⟩ = some cur[k] := (P.cell k).trans (jtl hkc)
   have f0 := P.frozen k
   have P2 := P.set_ k (.string (jp7 (k0 + k)))
   rw [js6 hkc] at P2
   have O2 := O.setCell (p := ⟨g, k, none⟩) rfl (.string (jp7 (k0 + k)))
   clear P O b1 hB
   go_wp2_with fail
   go_roundw
   case rel => exact ⟨k + 1, by omega, by go_num, by go_num, P2, O2⟩
   case measure => simp [intOf]; omega
  ·have hlt1 : ¬ (k : Int) < (n : Int) := by omega
   obtain rfl : k = n := by omega
   go_wp2_with fail
   go_ret
   refine ⟨rfl, jci hgb P ?_ hnc hcm ?_, O⟩
   ·simp [jkz, jrc]; omega
   ·rw [Nat.mul_one]
    exact List.take_left' (by simp [jkz, jrc])
theorem jq7 (A A' : Option Addr) (n c c' b b' : Nat) (xs : List ByteArray) (w : World) (hx : w.ownsRow b 9 1 (.slice A n c) n (jkz xs)) (hy : w.ownsRow b' 9 1 (.slice A' n c') n (jkz xs)) (hn : n ≤ 1000) :
  Calls Tryz.prog 18 #[.slice A n c, .slice A' n c'] w fun e w' => e = .returned (.bool true) ∧ Quiet w w' := by
 by_cases h0 : n = 0
 ·subst h0
  go_enter Tryz.func18, Tryz.ntmps18
  go_wp2_with fail
  go_loopw [5] (fun iv wr => iv = .int .i64 0 ∧ Quiet w wr) (fun _ _ => 0)
  case atStart => exact ⟨rfl, Quiet.refl _⟩
  case round =>
   obtain ⟨rfl, q⟩ := hrel
   go_wp2_with fail
   go_ret
   exact ⟨rfl, q⟩
 ·rcases jby hx with ⟨rfl, h, _⟩ | ⟨g, cur, rfl, hgb, hB, hcl, hnc, hcm, htk⟩
  ·exact absurd h h0
  rcases jby hy with ⟨rfl, h, _⟩ | ⟨g', cur', rfl, hgb', hB', hcl', hnc', hcm', htk'⟩
  ·exact absurd h h0
  exact jr5 g g' n c c' b b' xs w (Sees.of_own hx) (Sees.of_own hy) hn
theorem jq9 (A : Option Addr) (n c b : Nat) (k0 : Int) (w : World) (hx : w.ownsRow b 9 1 (.slice A n c) n (jkz (jqy k0 n))) (hn : n ≤ 1000) (h0 : 0 ≤ k0) (h1 : k0 ≤ 1000) :
  Calls Tryz.prog 20 #[.slice A n c, .int .i64 k0] w fun e w' => e = .returned (.int .i64 (k0 + n)) ∧ Below w.heap.size w w' := by
 rcases jby hx with ⟨rfl, rfl, rfl, _⟩ | ⟨g, cur, rfl, hgb, hB, hcl, hnc, hcm, htk⟩
 ·go_enter Tryz.func20, Tryz.ntmps20
  go_wp2_with fail
  go_loopw [1, 5] (fun qv iv wr => qv = .int .i64 k0 ∧ iv = .int .i64 0 ∧ Below w.heap.size w wr) (fun _ _ _ => 0)
  case atStart => exact ⟨rfl, rfl, Below.refl _ _⟩
  case round =>
   obtain ⟨rfl, rfl, q⟩ := hrel
   go_wp2_with fail
   go_ret
   exact ⟨by simp, q⟩
 ·exact jro g n c b k0 w (Sees.of_own hx) hn h0 h1
theorem jrr (base : Nat) (A : Option Addr) (n c : Nat) (xs : List ByteArray) (k0 : Int) (w : World) (hx : w.ownsRow base 9 1 (.slice A n c) n (jkz xs)) (hn : n ≤ 1000) (h0 : 0 ≤ k0) (h1 : k0 ≤ 1000) :
  Calls Tryz.prog 19 #[.slice A n c, .int .i64 k0] w fun e w' => e = .returned (.int .i64 (k0 + n)) ∧ w'.ownsRow base 9 1 (.slice A n c) n (jkz (jqy k0 n)) ∧ Only (fun b => base ≤ b) w w' := by
 rcases jby hx with ⟨rfl, rfl, rfl, _⟩ | ⟨g, cur, rfl, hgb, hB, hcl, hnc, hcm, htk⟩
 ·go_enter Tryz.func19, Tryz.ntmps19
  go_wp2_with fail
  go_loopw [1, 5] (fun qv iv wr => qv = .int .i64 k0 ∧ iv = .int .i64 0 ∧ Only (fun b => base ≤ b) w wr) (fun _ _ _ => 0)
  case atStart => exact ⟨rfl, rfl, Only.refl _ _⟩
  case round =>
   obtain ⟨rfl, rfl, q⟩ := hrel
   go_wp2_with fail
   go_ret
   exact ⟨by simp, World.ownsRow_nil _ _ _ _, q⟩
 ·refine (jrq base g n c xs k0 w hx hn h0 h1).mono ?_
  rintro e w1 ⟨h2, h3, h4⟩
  exact ⟨h2, h3, h4.mono (fun b hb => by rw [hb]; exact hgb)⟩
end Go.Proofs.YtflpcdffmpfdpaaGreatDoor
