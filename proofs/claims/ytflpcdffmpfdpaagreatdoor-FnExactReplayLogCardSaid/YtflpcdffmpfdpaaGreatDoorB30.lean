/- Joined texts of this proof: CmdI. -/
import Derived.Test.YtflpcdffmpfdpaaGreatDoorB29
set_option maxRecDepth 100000
set_option maxHeartbeats 8000000
namespace Go.Proofs.YtflpcdffmpfdpaaGreatDoor
open Go.RowKit
theorem jo6 {a : ByteArray} {l : List UInt8} (h : a = ⟨l.toArray⟩) : (a.toList == l) = true := by
 have h1 := jcc a ⟨l.toArray⟩
 rw [decide_eq_true h, ByteArray.toList_eq ⟨l.toArray⟩] at h1
 exact h1
theorem cmK_12 {s : ByteArray} (h : cmK s = 12) : s = ⟨#[99, 111, 117, 114, 115, 101]⟩ := by
 rcases jcd s with ⟨hk, he⟩ | ⟨hk, he⟩ | ⟨hk, he⟩ | ⟨hk, he⟩ | ⟨hk, he⟩ | ⟨hk, he⟩ | ⟨hk, he⟩ | ⟨hk, he⟩ | ⟨hk, he⟩ | ⟨hk, he⟩ | ⟨hk, he⟩ | ⟨hk, he⟩ | ⟨hk, -⟩
 ·omega
 ·omega
 ·omega
 ·omega
 ·omega
 ·omega
 ·omega
 ·omega
 ·omega
 ·omega
 ·omega
 ·exact he
 ·omega
theorem cmK_11 {s : ByteArray} (h : cmK s = 11) : s = ⟨#[112, 117, 110, 99, 104]⟩ := by
 rcases jcd s with ⟨hk, he⟩ | ⟨hk, he⟩ | ⟨hk, he⟩ | ⟨hk, he⟩ | ⟨hk, he⟩ | ⟨hk, he⟩ | ⟨hk, he⟩ | ⟨hk, he⟩ | ⟨hk, he⟩ | ⟨hk, he⟩ | ⟨hk, he⟩ | ⟨hk, he⟩ | ⟨hk, -⟩
 ·omega
 ·omega
 ·omega
 ·omega
 ·omega
 ·omega
 ·omega
 ·omega
 ·omega
 ·omega
 ·exact he
 ·omega
 ·omega
theorem jod (lo : Nat) (t : Int) (cl : Bool) (l : Log) (A : Option Addr) (n c : Nat) (xs : List Entrant) (line : ByteArray) (w : World) (hlo : lo ≤ w.heap.size) (hx : Stays w lo w.heap.size A n xs) (hg : ja0 ⟨t, cl, xs⟩ = true) (hs : line.size ≤ 1000) :
  Calls Tryz.prog 44 #[.agg #[t, cl, .slice A n c, l.durable, l.pending, l.count], .string line] w (jkq w lo (jd0 ⟨t, cl, xs⟩ line) l) := by
 have P := nPa w [t, cl, .slice A n c, l.durable, l.pending, l.count] 35 (.cells #[.int .i64 0, false, .slice none 0 0, .string ⟨#[]⟩, .string ⟨#[]⟩, .int .i64 0] 35)
 have Z := nQ w (.cells #[t, cl, .slice A n c, l.durable, l.pending, l.count] 35) [.int .i64 0, false, .slice none 0 0, .string ⟨#[]⟩, .string ⟨#[]⟩, .int .i64 0] 35
 have Kq := nB2 w (.cells #[t, cl, .slice A n c, l.durable, l.pending, l.count] 35) (.cells #[.int .i64 0, false, .slice none 0 0, .string ⟨#[]⟩, .string ⟨#[]⟩, .int .i64 0] 35)
 have hzw := nZ2 w (.cells #[t, cl, .slice A n c, l.durable, l.pending, l.count] 35) (.cells #[.int .i64 0, false, .slice none 0 0, .string ⟨#[]⟩, .string ⟨#[]⟩, .int .i64 0] 35)
 have hxl := hx.sees.count
 subst hxl
 have hst := hx
 replace hx := hx.sees.next Kq
 have hst1 := hst.next Kq
 obtain ⟨hc0, hc1, hn1, hn8, -⟩ := jam hg
 replace hn8 : xs.length ≤ 8 := hn8
 replace hc0 : 0 ≤ t := hc0
 replace hc1 : t ≤ 36000 := hc1
 have HSP := Lib.hid (fun W => jlg line 32 32 W rfl (by omega))
 have hlp := jjr 32 line
 have hll := jgt 32 line
 obtain ⟨L, hL⟩ : ∃ L, jbb 32 line = L := ⟨_, rfl⟩
 rw [hL] at hlp hll HSP
 have HPC := Lib.hid (show ∀ x ∈ L, x.size ≤ 1000 from fun x hx => by have := jg5 32 line (x := x) (by rw [hL]; exact hx); omega)
 obtain ⟨h0, rest, rfl⟩ : ∃ h0 rest, L = h0 :: rest := by
  cases L with
  | nil => simp at hlp
  | cons a r => exact ⟨a, r, rfl⟩
 have HL := Lib.hid hL
 obtain ⟨N, hN⟩ : ∃ N, (h0 :: rest).length = N := ⟨_, rfl⟩
 obtain ⟨q, hq⟩ : ∃ q, rest.length = q := ⟨_, rfl⟩
 have hqN : q + 1 = N := by rw [← hN, ← hq]; rfl
 have HQ := Lib.hid hq
 have HQN := Lib.hid hqN
 have hN2 : N ≤ 1001 := by rw [← hN]; omega
 unfold jgf at HSP
 rw [hN] at HSP
 clear hN hq hL hlp hll
 have hNn : 0 < N := by omega
 have hNz : (0 : Int) < (N : Int) := by omega
 clear hqN
 go_enter Tryz.func44, Tryz.ntmps44
 go_upto_region 1 with fail
 generalize (w.alloc _).alloc _ = w1 at *
 have z1 := Kq.size
 go_wp2_with fail
 refine (HSP.out w1).mono ?_
 rintro e9 w2 ⟨A1, c1, rfl, o1, b9⟩
 clear HSP
 rcases jby o1 with ⟨-, hz, -, -⟩ | ⟨gw, cur, rfl, hgb, hB, hcl, hnc, hcm, htk⟩
 ·omega
 have hW := Sees.of_own o1
 have hgw : w.heap.size + 2 ≤ gw := by omega
 replace P := P.next b9
 replace Z := Z.next b9
 replace Kq := jaa Kq b9
 replace hx := hx.next b9
 have z2 := b9.size
 have hzl := Z.lt
 clear hB hcl htk o1 b9 hst1
 have u2 := ja4 w2 3 1
 have U := nB w2 (.cells #[] 3)
 have hz2 := nZ w2 (.cells #[] 3)
 go_wp2_with fail
 generalize w2.alloc _ = w3 at *
 go_loopw [7, 8] (fun v iv wr => ∃ (j k : Nat) (A' : Option Addr) (c' : Nat) (ys : List Int), j ≤ k + 1 ∧ k + 1 ≤ j ∧ k ≤ q ∧ iv = .int .i64 (j : Int) ∧ v = .slice A' k c' ∧ wr.ownsRow w2.heap.size 3 1 (.slice A' k c') k (jb4 ys) ∧ Hid (jao (rest.take k) = some ys) ∧ Below w2.heap.size w2 wr) (fun _ iv _ => N - (intOf iv).toNat)
 case atStart => exact ⟨1, 0, _, 0, [], Nat.le_refl _, Nat.le_refl _, Nat.zero_le _, rfl, rfl, u2, Lib.hid rfl, U⟩
 case round =>
  obtain ⟨j, k, A', c', ys, hj1, hj2, hk, rfl, rfl, own, HY, KB⟩ := hrel
  clear u2 U
  have hzr := KB.size
  have hqq := HQN.out
  by_cases hlt : k < q
  ·have hlt1 : (j : Int) < (N : Int) := by omega
   have hkr : k < rest.length := by rw [HQ.out]; exact hlt
   obtain ⟨hx1, x1⟩ := jiw (hW.next KB) (show j < N by omega)
   have hjk : (h0 :: rest)[j] = rest[k] := by
    have e : j = k + 1 := by omega
    subst e
    rfl
   rw [hjk] at x1
   have HSZ := HPC.out rest[k] (List.mem_cons_of_mem _ (List.getElem_mem hkr))
   have HTK := Lib.hid (show rest.take (k + 1) = rest.take k ++ [rest[k]] from List.take_succ_eq_append_getElem hkr)
   have HMM := Lib.hid (List.getElem_mem hkr)
   obtain ⟨wd, hwd⟩ : ∃ wd, rest[k] = wd := ⟨_, rfl⟩
   rw [hwd] at x1 HSZ HTK HMM
   clear hwd hx1 hjk
   obtain ⟨R, hR⟩ : ∃ R, ja1 wd = R := ⟨_, rfl⟩
   have CC := Lib.hid (jhb wd wr (by omega))
   rw [hR] at CC
   have HRP := Lib.hid hR
   clear hR HSZ hqq
   go_wp2_with fail
   refine CC.out.mono ?_
   clear CC x1
   cases R with
   | none =>
    rintro e9 w9 ⟨rfl, b9⟩
    have HR := Lib.hid (show jd0 ⟨t, cl, xs⟩ line = (⟨t, cl, xs⟩, ⟨#[63]⟩) from jqs HL.out (jg0 HRP.out HMM.out))
    replace b9 := jaa KB b9
    replace P := P.next b9
    replace Z := Z.next b9
    replace Kq := jaa Kq b9
    have pc := P.cell
    have zc := Z.cell
    have zf := Z.frozen
    go_wp2_with fail
    obtain ⟨Z3, E⟩ := jal Z (.int .i64 t) (.bool cl) (.slice A xs.length c) (.string l.durable) (.string l.pending) (.int .i64 l.count)
    have K5 := Kq.trans (E.below (fun b hb => by omega) Kq.size)
    clear zc zf
    have zc := Z3.cell
    refine bodyPost_ret (v := .tuple #[.agg #[t, cl, .slice A xs.length c, l.durable, l.pending, l.count], .string ⟨#[63]⟩]) (by simp [results, Tryz.results44, go_sem, zc]) rfl ?_
    rw [HR.out]
    exact ⟨A, c, rfl, hst.below K5, K5⟩
   | some z =>
    rintro e9 w9 ⟨rfl, b9⟩
    replace own := jad own b9
    have zz := b9.size
    replace KB := jaa KB b9
    have HY2 := Lib.hid (show jao (rest.take (k + 1)) = some (ys ++ [z]) by rw [HTK.out]; exact jge HY.out HRP.out)
    clear b9 HTK HMM HRP
    go_wp2_with (at_builtin; go_loud (refine jac rfl _ _ _ rfl Tryz.underlying90 ja8 rfl (by decide) rfl own rfl (by simp) (by rfl) (by rfl) (by omega) (by decide) (by omega) ?_); intro A9 c9 w9 o9 h9 b9 q9)
    go_roundw
    case rel => exact ⟨j + 1, k + 1, A9, c9, ys ++ [z], by omega, by omega, by omega, by go_num, rfl, by simpa [jb4] using o9, HY2, KB.trans b9⟩
    case measure => simp [intOf]; omega
  ·obtain rfl : k = q := by omega
   have hlt1 : ¬ (j : Int) < (N : Int) := by omega
   have HPA := Lib.hid (show jao rest = some ys by have h9 := HY.out; rwa [List.take_of_length_le (by rw [HQ.out]; exact Nat.le_refl _)] at h9)
   have hk1000 : k ≤ 1000 := by omega
   have hyl : ys.length = k := (jgv HPA.out).trans HQ.out
   obtain ⟨hx1, x0⟩ := jiw (hW.next KB) (show 0 < N by omega)
   replace x0 : wr.cell? ⟨gw, 0, none⟩ = some (.string h0) := x0
   have hy := (Sees.of_own own).less (Nat.zero_le _)
   have hyb : ∀ b, jaj A' b → w2.heap.size ≤ b := fun b hb => (jai own hb).1
   have b9 := KB
   replace P := P.next b9
   replace Z := Z.next b9
   replace Kq := jaa Kq b9
   replace hx := hx.next b9
   have hzl2 := Z.lt
   clear HY hk hlt own KB hx1 b9 hW hj1 hj2 hqq
   go_upto_region 10 with fail
   by_cases q0 : k = 0
   ·subst q0
    have hy0 : ys = [] := List.eq_nil_of_length_eq_zero hyl
    have hr0 : rest = [] := List.eq_nil_of_length_eq_zero HQ.out
    have hh0 : h0 = line := jon (by have := HL.out; rw [hr0] at this; exact this)
    have HRW := Lib.hid (show jd0 ⟨t, cl, xs⟩ line = jep ⟨t, cl, xs⟩ (cmK line) by rw [jqd HL.out (by rw [← hy0]; exact HPA.out), hh0])
    clear hy0 hr0 hh0 x0 hyl
    obtain ⟨⟨r2, rep⟩, hR⟩ : ∃ R, jep ⟨t, cl, xs⟩ (cmK line) = R := ⟨_, rfl⟩
    have CC := jmw lo t cl l A xs.length c xs line wr (by have := Kq.size; omega) (hst.next Kq) hg
    rw [hR] at CC HRW
    have HC := Lib.hid CC
    have HR := HRW
    clear hR CC HRW
    have pc := P.cell
    have zb := Kq.size
    go_wp2_with fail
    refine HC.out.mono ?_
    rintro e9 w9 ⟨A2, c2, he9, X2, b9⟩
    replace he9 : e9 = .returned (.tuple #[.agg #[r2.clock, r2.closed, .slice A2 r2.field.length c2, l.durable, l.pending, l.count], .string rep]) := he9
    subst he9
    replace P := P.next b9
    replace Z := Z.next b9
    replace Kq := jaa Kq b9
    clear HC pc b9
    have zc := Z.cell
    have zf := Z.frozen
    go_wp2_with fail
    obtain ⟨Z3, E⟩ := jal Z (.int .i64 r2.clock) (.bool r2.closed) (.slice A2 r2.field.length c2) (.string l.durable) (.string l.pending) (.int .i64 l.count)
    have K5 := Kq.trans (E.below (fun b hb => by omega) Kq.size)
    clear zc zf
    have zc := Z3.cell
    refine bodyPost_ret (v := .tuple #[.agg #[r2.clock, r2.closed, .slice A2 r2.field.length c2, l.durable, l.pending, l.count], .string rep]) (by simp [results, Tryz.results44, go_sem, zc]) rfl ?_
    rw [HR.out]
    exact ⟨A2, c2, rfl, X2.only E (fun b (h2 : b = w.heap.size + 1) => ⟨by omega, by omega⟩) (by omega), K5⟩
   have e0 : ((k : Int) == 0) = false := beq_eq_false_iff_ne.2 (by omega)
   have pc := P.cell
   by_cases h12 : cmK h0 = 12
   ·have e12 : (h0.toList == [99, 111, 117, 114, 115, 101]) = true := jo6 (cmK_12 h12)
    have HR0 := Lib.hid (jn8 (r := ⟨t, cl, xs⟩) HL.out HPA.out (by omega) (by omega) h12)
    obtain ⟨R, hR⟩ : ∃ R, jeu ⟨t, cl, xs⟩ = R := ⟨_, rfl⟩
    have HR1 := Lib.hid (show jgo ⟨t, cl, xs⟩ ys = R.bind fun rs => (jb9 rs ys 36000).map jbq by
     unfold jgo
     rw [hR]
     cases R <;> rfl)
    have CC := jje t cl A xs.length c xs wr hx (by omega) (jb2 hg)
    unfold jeb at CC
    rw [hR] at CC
    have HC := Lib.hid CC
    have HRU := Lib.hid hR
    clear hR CC
    go_wp2_with fail
    refine HC.out.mono ?_
    clear HC x0
    cases R with
    | none =>
     rintro e9 w9 ⟨A2, c2, rfl, -, -, b9⟩
     have HR := Lib.hid (show jd0 ⟨t, cl, xs⟩ line = (⟨t, cl, xs⟩, ⟨#[63]⟩) by rw [HR0.out, HR1.out]; rfl)
     clear pc
     replace P := P.next b9
     replace Z := Z.next b9
     replace Kq := jaa Kq b9
     have pc := P.cell
     have zc := Z.cell
     have zf := Z.frozen
     go_wp2_with fail
     obtain ⟨Z3, E⟩ := jal Z (.int .i64 t) (.bool cl) (.slice A xs.length c) (.string l.durable) (.string l.pending) (.int .i64 l.count)
     have K5 := Kq.trans (E.below (fun b hb => by omega) Kq.size)
     clear zc zf
     have zc := Z3.cell
     refine bodyPost_ret (v := .tuple #[.agg #[t, cl, .slice A xs.length c, l.durable, l.pending, l.count], .string ⟨#[63]⟩]) (by simp [results, Tryz.results44, go_sem, zc]) rfl ?_
     rw [HR.out]
     exact ⟨A, c, rfl, hst.below K5, K5⟩
    | some rs =>
     obtain ⟨r1, r8, rp⟩ := jj7 HRU.out
     rintro e9 w9 ⟨A5, c5, rfl, X5, -, b9⟩
     replace X5 : SeesC w9 0 A5 rs.length rs := X5
     clear pc
     replace P := P.next b9
     replace Z := Z.next b9
     replace Kq := jaa Kq b9
     replace hy := hy.next b9
     clear b9
     obtain ⟨O, hO⟩ : ∃ O, jb9 rs ys 36000 = O := ⟨_, rfl⟩
     have hsm := jhv (cs := ys) (limit := 36000) r8
     rw [hO] at hsm
     obtain ⟨L, hL⟩ : ∃ L, O.getD [] = L := ⟨_, rfl⟩
     obtain ⟨ok, hok⟩ : ∃ ok, O.isSome = ok := ⟨_, rfl⟩
     obtain ⟨N9, hN⟩ : ∃ N9, L.length = N9 := ⟨_, rfl⟩
     obtain ⟨lt9, hlt9⟩ : ∃ p : ByteArray, (if ok then jbq L else ⟨#[63]⟩) = p := ⟨_, rfl⟩
     have HLT := Lib.hid hlt9
     have HR := Lib.hid (show jd0 ⟨t, cl, xs⟩ line = (⟨t, cl, xs⟩, lt9) by
      rw [HR0.out, HR1.out, ← hlt9]
      show (_, ((jb9 rs ys 36000).map jbq).getD _) = _
      rw [hO, ← hL, ← hok]
      cases O <;> rfl)
     have C2 := jfk A5 rs.length c5 rs A' k c' ys 36000 w9 X5 (by omega) (by omega) (fun x hx => by have := rp x hx; omega) hy (by omega)
     unfold jbj at C2
     rw [hO, hL, hok, hN] at C2
     rw [hL, hN] at hsm
     obtain ⟨hs1, hs2⟩ := hsm
     obtain ⟨nr, hnr⟩ : ∃ nr, rs.length = nr := ⟨_, rfl⟩
     have HB := Lib.hid hs2
     rw [hnr] at C2
     have HC2 := Lib.hid C2
     have HNR := Lib.hid hnr
     have pc := P.cell
     clear hO hL hok hN hs2 C2 hy hnr X5 hlt9
     go_wp2_with fail
     rw [HNR.out]
     refine HC2.out.mono ?_
     rintro e9 w2 ⟨A2, c2, rfl, o2, b9⟩
     have X2 := Sees.of_own o2
     obtain ⟨lo2, hlo2⟩ : ∃ lo2, w9.heap.size = lo2 := ⟨_, rfl⟩
     rw [hlo2] at X2
     replace P := P.next b9
     replace Z := Z.next b9
     replace Kq := jaa Kq b9
     clear HC2 pc b9 o2 hlo2
     have pc := P.cell
     go_upto_region 17 with fail
     have b9 := (Quiet.one w2).below w2.heap.size
     replace X2 := X2.next b9
     replace P := P.next b9
     replace Z := Z.next b9
     replace Kq := jaa Kq b9
     clear b9 pc
     have pc := P.cell
     have zc := Z.cell
     have zf := Z.frozen
     refine wp_region_held_drew (S := fun w' => w'.cell? ⟨w.heap.size, 0, none⟩ = some (.int .i64 t) ∧ w'.cell? ⟨w.heap.size, 1, none⟩ = some (.bool cl) ∧ w'.cell? ⟨w.heap.size, 2, none⟩ = some (.slice A xs.length c) ∧ w'.cell? ⟨w.heap.size, 3, none⟩ = some (.string l.durable) ∧ w'.cell? ⟨w.heap.size, 4, none⟩ = some (.string l.pending) ∧ w'.cell? ⟨w.heap.size, 5, none⟩ = some (.int .i64 l.count)) (by kernel_rfl) (by (try dsimp only); exact ⟨pc 0, pc 1, pc 2, pc 3, pc 4, pc 5⟩) (fun hH => ?_)
     generalize w2.drew = wz at *
     refine wQ 0 ?_
     refine wQ 1 ?_
     refine wQ 2 ?_
     refine wR (rs := [3]) (by kernel_rfl) (by simp) ?_
     refine aC rfl (fun K hK => ?_) aN
     go_simp
     go_must (refine (jfo A2 N9 c2 lo2 L ok _ X2 (by omega) HB.out).mono ?_)
     rw [HLT.out]
     rintro e9 w9 ⟨rfl, q9⟩
     have b9 := q9.below wz.heap.size
     replace X2 := X2.next b9
     replace P := P.next b9
     replace Z := Z.next b9
     replace Kq := jaa Kq b9
     clear b9 pc zc zf
     have pc := P.cell
     have zc := Z.cell
     have zf := Z.frozen
     generalize w9 = wz at *
     go_wp2_with fail
     refine hK.out _ _ (by (try dsimp only); exact ⟨pc 0, pc 1, pc 2, pc 3, pc 4, pc 5⟩) (fun hH => ?_)
     clear hK K
     refine wR (rs := [4]) (by kernel_rfl) (by simp) ?_
     refine aC rfl (fun K hK => ?_) aN
     go_simp
     refine hK.out _ _ (by (try dsimp only); have E := (jal Z (.int .i64 t) (.bool cl) (.slice A xs.length c) (.string l.durable) (.string l.pending) (.int .i64 l.count)).2; exact ⟨(P.only E (fun (h : w.heap.size = _) => by omega)).cell 0, (P.only E (fun (h : w.heap.size = _) => by omega)).cell 1, (P.only E (fun (h : w.heap.size = _) => by omega)).cell 2, (P.only E (fun (h : w.heap.size = _) => by omega)).cell 3, (P.only E (fun (h : w.heap.size = _) => by omega)).cell 4, (P.only E (fun (h : w.heap.size = _) => by omega)).cell 5⟩) (fun hH => ?_)
     clear hK K
     try simp only [Act.put, pX]
     refine wQ 5 ?_
     refine wD (by kernel_rfl) ?_ _
     go_wp2_with fail
     obtain ⟨Z3, E⟩ := jal Z (.int .i64 t) (.bool cl) (.slice A xs.length c) (.string l.durable) (.string l.pending) (.int .i64 l.count)
     have K5 := Kq.trans (E.below (fun b hb => by omega) Kq.size)
     clear zc zf
     have zc := Z3.cell
     refine bodyPost_ret (v := .tuple #[.agg #[t, cl, .slice A xs.length c, l.durable, l.pending, l.count], .string lt9]) (by simp [results, Tryz.results44, go_sem, zc]) rfl ?_
     rw [HR.out]
     exact ⟨A, c, rfl, hst.below K5, K5⟩
   have e12 : (h0.toList == [99, 111, 117, 114, 115, 101]) = false := jbx (fun e => h12 (by subst e; decide))
   by_cases q1 : k = 1
   ·subst q1
    obtain ⟨z, rfl⟩ : ∃ z, ys = [z] := by
     match ys, hyl with
     | [z], _ => exact ⟨z, rfl⟩
    obtain ⟨b0, o0, rfl, hy1, y0⟩ := hy.int (show 0 < 1 by omega)
    replace y0 : wr.cell? ⟨b0, o0, none⟩ = some (.int .i64 z) := y0
    have hb0 := hyb b0 (by simp [jaj, Value.ownBlock] at *)
    obtain ⟨⟨r2, rep⟩, hR⟩ : ∃ R, jeh ⟨t, cl, xs⟩ (cmK h0) z = R := ⟨_, rfl⟩
    have HR := Lib.hid (show jd0 ⟨t, cl, xs⟩ line = (r2, rep) by rw [jqu HL.out HPA.out h12, hR])
    have HC := Lib.hid (fun W h1 h2 => joa lo t cl l A xs.length c xs h0 z W h1 h2 hg)
    rw [hR] at HC
    clear hR hyl hy h12 hy1
    go_upto_region 19 with fail
    have b9 := (Quiet.one wr).below wr.heap.size
    replace x0 := (b9.cell (p := ⟨gw, 0, none⟩) (World.block_lt_of_cell? _ _ x0)).trans x0
    replace y0 := (b9.cell (p := ⟨b0, o0, none⟩) (World.block_lt_of_cell? _ _ y0)).trans y0
    replace P := P.next b9
    replace Z := Z.next b9
    replace Kq := jaa Kq b9
    clear b9
    try clear pc
    try clear zc
    try clear zf
    have pc := P.cell
    have zc := Z.cell
    have zf := Z.frozen
    refine wp_region_held_drew (S := fun w' => w'.cell? ⟨w.heap.size, 0, none⟩ = some (.int .i64 t) ∧ w'.cell? ⟨w.heap.size, 1, none⟩ = some (.bool cl) ∧ w'.cell? ⟨w.heap.size, 2, none⟩ = some (.slice A xs.length c) ∧ w'.cell? ⟨w.heap.size, 3, none⟩ = some (.string l.durable) ∧ w'.cell? ⟨w.heap.size, 4, none⟩ = some (.string l.pending) ∧ w'.cell? ⟨w.heap.size, 5, none⟩ = some (.int .i64 l.count) ∧ w'.cell? ⟨gw, 0, none⟩ = some (.string h0) ∧ w'.cell? ⟨b0, o0, none⟩ = some (.int .i64 z)) (by kernel_rfl) (by (try dsimp only); exact ⟨pc 0, pc 1, pc 2, pc 3, pc 4, pc 5, x0, y0⟩) (fun hH => ?_)
    generalize wr.drew = wz at *
    refine wQ 0 ?_
    refine wQ 1 ?_
    refine wQ 2 ?_
    refine wQ 3 ?_
    refine wQ 4 ?_
    refine wQ 5 ?_
    refine wQ 6 ?_
    refine wR (rs := [7]) (by kernel_rfl) (by simp) ?_
    refine aC rfl (fun K hK => ?_) aN
    go_simp
    have hzb := Z.lt
    have hkb := Kq.size
    go_must (refine (HC.out _ (by omega) (hst.next Kq)).mono ?_)
    rintro e9 w9 ⟨A2, c2, he9, X2, b9⟩
    replace he9 : e9 = .returned (.tuple #[.agg #[r2.clock, r2.closed, .slice A2 r2.field.length c2, l.durable, l.pending, l.count], .string rep]) := he9
    subst he9
    obtain ⟨hi9, hhi⟩ : ∃ h, wz.heap.size = h := ⟨_, rfl⟩
    rw [hhi] at X2 hzb
    clear hhi
    replace x0 := (b9.cell (p := ⟨gw, 0, none⟩) (World.block_lt_of_cell? _ _ x0)).trans x0
    replace y0 := (b9.cell (p := ⟨b0, o0, none⟩) (World.block_lt_of_cell? _ _ y0)).trans y0
    replace P := P.next b9
    replace Z := Z.next b9
    replace Kq := jaa Kq b9
    clear b9 pc zc zf
    have pc := P.cell
    have zc := Z.cell
    have zf := Z.frozen
    generalize w9 = wz at *
    go_wp2_with fail
    refine hK.out _ _ (by (try dsimp only); exact ⟨pc 0, pc 1, pc 2, pc 3, pc 4, pc 5, x0, y0⟩) (fun hH => ?_)
    clear hK K
    refine wQ 8 ?_
    refine wQ 9 ?_
    refine wR (rs := [10]) (by kernel_rfl) (by simp) ?_
    refine aC rfl (fun K hK => ?_) aN
    go_simp
    refine hK.out _ _ (by (try dsimp only); have E := (jal Z (.int .i64 r2.clock) (.bool r2.closed) (.slice A2 r2.field.length c2) (.string l.durable) (.string l.pending) (.int .i64 l.count)).2; exact ⟨(P.only E (fun (h : w.heap.size = _) => by omega)).cell 0, (P.only E (fun (h : w.heap.size = _) => by omega)).cell 1, (P.only E (fun (h : w.heap.size = _) => by omega)).cell 2, (P.only E (fun (h : w.heap.size = _) => by omega)).cell 3, (P.only E (fun (h : w.heap.size = _) => by omega)).cell 4, (P.only E (fun (h : w.heap.size = _) => by omega)).cell 5, (jc5 E (fun (h : _ = _) => by have h : gw = w.heap.size + 1 := h; omega) (World.block_lt_of_cell? _ _ x0)).trans x0, (jc5 E (fun (h : _ = _) => by have h : b0 = w.heap.size + 1 := h; omega) (World.block_lt_of_cell? _ _ y0)).trans y0⟩) (fun hH => ?_)
    clear hK K
    try simp only [Act.put, pX]
    refine wQ 11 ?_
    refine wD (by kernel_rfl) ?_ _
    go_wp2_with fail
    obtain ⟨Z3, E⟩ := jal Z (.int .i64 r2.clock) (.bool r2.closed) (.slice A2 r2.field.length c2) (.string l.durable) (.string l.pending) (.int .i64 l.count)
    have K5 := Kq.trans (E.below (fun b hb => by omega) Kq.size)
    clear zc zf
    have zc := Z3.cell
    refine bodyPost_ret (v := .tuple #[.agg #[r2.clock, r2.closed, .slice A2 r2.field.length c2, l.durable, l.pending, l.count], .string rep]) (by simp [results, Tryz.results44, go_sem, zc]) rfl ?_
    rw [HR.out]
    exact ⟨A2, c2, rfl, X2.only E (fun b (h2 : b = w.heap.size + 1) => ⟨by omega, by omega⟩) (by omega), K5⟩
   have e1 : ((k : Int) == 1) = false := beq_eq_false_iff_ne.2 (by omega)
   by_cases q2 : k = 2 ∧ cmK h0 = 11
   ·obtain ⟨q2, h11⟩ := q2
    subst q2
    have e11 : (h0.toList == [112, 117, 110, 99, 104]) = true := jo6 (cmK_11 h11)
    obtain ⟨y, z, rfl⟩ : ∃ y z, ys = [y, z] := by
     match ys, hyl with
     | [y, z], _ => exact ⟨y, z, rfl⟩
    obtain ⟨b0, o0, rfl, hy1, y0⟩ := hy.int (show 0 < 2 by omega)
    obtain ⟨b1, o1, he1, hy2, y1⟩ := hy.int (show 1 < 2 by omega)
    injection he1 with he1
    injection he1 with h1 h2
    subst h1 h2
    replace y0 : wr.cell? ⟨b0, o0, none⟩ = some (.int .i64 y) := y0
    replace y1 : wr.cell? ⟨b0, o0 + 1, none⟩ = some (.int .i64 z) := y1
    have hb0 := hyb b0 (by simp [jaj, Value.ownBlock] at *)
    obtain ⟨⟨r2, rep⟩, hR⟩ : ∃ R, jbu ⟨t, cl, xs⟩ 3 y z = R := ⟨_, rfl⟩
    have HR := Lib.hid (show jd0 ⟨t, cl, xs⟩ line = (r2, rep) by rw [jph HL.out HPA.out h12, if_pos h11, hR])
    have HC := Lib.hid (fun W h2 => jcz lo t cl l A xs.length c xs 3 y z W h2 hg (by omega))
    rw [hR] at HC
    clear hR hyl hy h12 hy1 hy2 h11
    go_upto_region 21 with fail
    have b9 := (Quiet.one wr).below wr.heap.size
    replace y0 := (b9.cell (p := ⟨b0, o0, none⟩) (World.block_lt_of_cell? _ _ y0)).trans y0
    replace y1 := (b9.cell (p := ⟨b0, o0 + 1, none⟩) (World.block_lt_of_cell? _ _ y1)).trans y1
    replace P := P.next b9
    replace Z := Z.next b9
    replace Kq := jaa Kq b9
    clear b9
    try clear pc
    try clear zc
    try clear zf
    have pc := P.cell
    have zc := Z.cell
    have zf := Z.frozen
    refine wp_region_held_drew (S := fun w' => w'.cell? ⟨w.heap.size, 0, none⟩ = some (.int .i64 t) ∧ w'.cell? ⟨w.heap.size, 1, none⟩ = some (.bool cl) ∧ w'.cell? ⟨w.heap.size, 2, none⟩ = some (.slice A xs.length c) ∧ w'.cell? ⟨w.heap.size, 3, none⟩ = some (.string l.durable) ∧ w'.cell? ⟨w.heap.size, 4, none⟩ = some (.string l.pending) ∧ w'.cell? ⟨w.heap.size, 5, none⟩ = some (.int .i64 l.count) ∧ w'.cell? ⟨b0, o0, none⟩ = some (.int .i64 y) ∧ w'.cell? ⟨b0, o0 + 1, none⟩ = some (.int .i64 z)) (by kernel_rfl) (by (try dsimp only); exact ⟨pc 0, pc 1, pc 2, pc 3, pc 4, pc 5, y0, y1⟩) (fun hH => ?_)
    generalize wr.drew = wz at *
    refine wQ 0 ?_
    refine wQ 1 ?_
    refine wQ 2 ?_
    refine wQ 3 ?_
    refine wQ 4 ?_
    refine wQ 5 ?_
    refine wQ 6 ?_
    refine wQ 7 ?_
    refine wR (rs := [8]) (by kernel_rfl) (by simp) ?_
    refine aC rfl (fun K hK => ?_) aN
    go_simp
    have hzb := Z.lt
    have hkb := Kq.size
    go_must (refine (HC.out _ (hst.next Kq)).mono ?_)
    rintro e9 w9 ⟨A2, c2, he9, X2, b9⟩
    replace he9 : e9 = .returned (.tuple #[.agg #[r2.clock, r2.closed, .slice A2 r2.field.length c2, l.durable, l.pending, l.count], .string rep]) := he9
    subst he9
    obtain ⟨hi9, hhi⟩ : ∃ h, wz.heap.size = h := ⟨_, rfl⟩
    rw [hhi] at X2 hzb
    clear hhi
    replace y0 := (b9.cell (p := ⟨b0, o0, none⟩) (World.block_lt_of_cell? _ _ y0)).trans y0
    replace y1 := (b9.cell (p := ⟨b0, o0 + 1, none⟩) (World.block_lt_of_cell? _ _ y1)).trans y1
    replace P := P.next b9
    replace Z := Z.next b9
    replace Kq := jaa Kq b9
    clear b9 pc zc zf
    have pc := P.cell
    have zc := Z.cell
    have zf := Z.frozen
    generalize w9 = wz at *
    go_wp2_with fail
    refine hK.out _ _ (by (try dsimp only); exact ⟨pc 0, pc 1, pc 2, pc 3, pc 4, pc 5, y0, y1⟩) (fun hH => ?_)
    clear hK K
    refine wQ 9 ?_
    refine wQ 10 ?_
    refine wR (rs := [11]) (by kernel_rfl) (by simp) ?_
    refine aC rfl (fun K hK => ?_) aN
    go_simp
    refine hK.out _ _ (by (try dsimp only); have E := (jal Z (.int .i64 r2.clock) (.bool r2.closed) (.slice A2 r2.field.length c2) (.string l.durable) (.string l.pending) (.int .i64 l.count)).2; exact ⟨(P.only E (fun (h : w.heap.size = _) => by omega)).cell 0, (P.only E (fun (h : w.heap.size = _) => by omega)).cell 1, (P.only E (fun (h : w.heap.size = _) => by omega)).cell 2, (P.only E (fun (h : w.heap.size = _) => by omega)).cell 3, (P.only E (fun (h : w.heap.size = _) => by omega)).cell 4, (P.only E (fun (h : w.heap.size = _) => by omega)).cell 5, (jc5 E (fun (h : _ = _) => by have h : b0 = w.heap.size + 1 := h; omega) (World.block_lt_of_cell? _ _ y0)).trans y0, (jc5 E (fun (h : _ = _) => by have h : b0 = w.heap.size + 1 := h; omega) (World.block_lt_of_cell? _ _ y1)).trans y1⟩) (fun hH => ?_)
    clear hK K
    try simp only [Act.put, pX]
    refine wQ 12 ?_
    refine wD (by kernel_rfl) ?_ _
    go_wp2_with fail
    obtain ⟨Z3, E⟩ := jal Z (.int .i64 r2.clock) (.bool r2.closed) (.slice A2 r2.field.length c2) (.string l.durable) (.string l.pending) (.int .i64 l.count)
    have K5 := Kq.trans (E.below (fun b hb => by omega) Kq.size)
    clear zc zf
    have zc := Z3.cell
    refine bodyPost_ret (v := .tuple #[.agg #[r2.clock, r2.closed, .slice A2 r2.field.length c2, l.durable, l.pending, l.count], .string rep]) (by simp [results, Tryz.results44, go_sem, zc]) rfl ?_
    rw [HR.out]
    exact ⟨A2, c2, rfl, X2.only E (fun b (h2 : b = w.heap.size + 1) => ⟨by omega, by omega⟩) (by omega), K5⟩
   have HR := Lib.hid (show jd0 ⟨t, cl, xs⟩ line = (⟨t, cl, xs⟩, ⟨#[63]⟩) by
    by_cases h2 : k = 2
    ·match ys, hyl with
     | [y, z], _ => rw [jph HL.out HPA.out h12, if_neg (fun h => q2 ⟨h2, h⟩)]
     | [], h => simp at h; omega
     | [_], h => simp at h; omega
     | _ :: _ :: _ :: _, h => simp at h; omega
    ·exact jqf HL.out HPA.out (by omega) h12)
   by_cases h2 : k = 2
   ·subst h2
    have e11 : (h0.toList == [112, 117, 110, 99, 104]) = false := jbx (fun e => q2 ⟨rfl, by subst e; decide⟩)
    clear q2 h12 hyl
    have zc := Z.cell
    have zf := Z.frozen
    go_wp2_with fail
    obtain ⟨Z3, E⟩ := jal Z (.int .i64 t) (.bool cl) (.slice A xs.length c) (.string l.durable) (.string l.pending) (.int .i64 l.count)
    have K5 := Kq.trans (E.below (fun b hb => by omega) Kq.size)
    clear zc zf
    have zc := Z3.cell
    refine bodyPost_ret (v := .tuple #[.agg #[t, cl, .slice A xs.length c, l.durable, l.pending, l.count], .string ⟨#[63]⟩]) (by simp [results, Tryz.results44, go_sem, zc]) rfl ?_
    rw [HR.out]
    exact ⟨A, c, rfl, hst.below K5, K5⟩
   have e2 : ((k : Int) == 2) = false := beq_eq_false_iff_ne.2 (by omega)
   clear q2 h12 hyl
   have zc := Z.cell
   have zf := Z.frozen
   go_wp2_with fail
   obtain ⟨Z3, E⟩ := jal Z (.int .i64 t) (.bool cl) (.slice A xs.length c) (.string l.durable) (.string l.pending) (.int .i64 l.count)
   have K5 := Kq.trans (E.below (fun b hb => by omega) Kq.size)
   clear zc zf
   have zc := Z3.cell
   refine bodyPost_ret (v := .tuple #[.agg #[t, cl, .slice A xs.length c, l.durable, l.pending, l.count], .string ⟨#[63]⟩]) (by simp [results, Tryz.results44, go_sem, zc]) rfl ?_
   rw [HR.out]
   exact ⟨A, c, rfl, hst.below K5, K5⟩
end Go.Proofs.YtflpcdffmpfdpaaGreatDoor
