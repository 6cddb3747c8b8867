/- Joined texts of this proof: LawFnReplay, Open, Open2, OpenE, OpenC, DoorK. -/
import Derived.ProofKit
import Derived.OpenShut
import Derived.ShutString
import Derived.ChangeOld
import Derived.Below
import Derived.Lib.SmallJoins
import Derived.Deep.Slices
import Derived.Deep.Fields
import Derived.JoinedTies
import Derived.Deep.DeepHandedRow
import Derived.JoinedCond
import Derived.LaidMore
import Derived.Lib.LaidTab
import Derived.SevenTiedAt
import Derived.Stop.Joined
import Derived.Stop.LaidErr
import Derived.Lay
import Derived.Test.YtflpcdffmpfdpaaGreatDoorRows
import Derived.Test.YtflpcdffmpfdpaaGreatDoorF07
import Derived.Test.YtflpcdffmpfdpaaGreatDoorF08
import Derived.Test.YtflpcdffmpfdpaaGreatDoorB01
import Derived.Test.YtflpcdffmpfdpaaGreatDoorB11
import Derived.Test.YtflpcdffmpfdpaaGreatDoorF06
import Derived.Test.YtflpcdffmpfdpaaGreatDoorB13
import Derived.Test.YtflpcdffmpfdpaaGreatDoorV01
set_option maxRecDepth 100000
set_option maxHeartbeats 8000000
namespace Go.Proofs.YtflpcdffmpfdpaaGreatDoor
open Go.RowKit
theorem jtj (A : Option Addr) (m c : Nat) (w : World) (hA : CodeIn w A m) (hm : m ≤ 9223372036854775807) (hg : GlE w) :
  Calls Tryz.prog 5 #[.slice A m c] w fun e w' => e = .returned (.bool true) ∧ Below w.heap.size w w' := by
 by_cases hbig : 65536 < m
 ·go_enter Tryz.func5, Tryz.ntmps5
  go_wp2_with fail
  refine (jt7 A m c w hm).mono ?_
  rintro e w' ⟨rfl, rfl⟩
  rw [decide_eq_true hbig]
  go_wp2_with fail
  go_ret
  exact ⟨rfl, Below.refl _ _⟩
 go_enter Tryz.func5, Tryz.ntmps5
 go_wp2_with fail
 refine (jt7 A m c w hm).mono ?_
 rintro e w' ⟨rfl, rfl⟩
 rw [decide_eq_false hbig]
 go_wp2_with fail
 refine (jr5 A m c w hA (by omega)).mono ?_
 rintro e w1 ⟨e0, l, rfl, h08, hl, b1⟩
 have HG := Lib.hid (show ∀ W, Below w.heap.size w W → GlE W from fun W h => hg.next h)
 have HA := Lib.hid (show ∀ W, Below w.heap.size w W → CodeIn W A m from fun W h => hA.next h)
 have K := b1
 have b9 := nB w1 (.cells #[l.durable, l.pending, l.count] 33)
 have B := nP w1 [l.durable, l.pending, l.count] 33
 replace K := jaa K b9
 clear b9
 have CI := (fun W (hk : Below w.heap.size w W) => jrj e0 l W hl (HG.out W hk))
 have CS := (fun W => jr4 e0 l W hl)
 obtain ⟨R, hR⟩ : ∃ R, jrd e0 l = R := ⟨_, rfl⟩
 rw [hR] at CI CS
 clear hR
 obtain ⟨q1, q2⟩ := R
 have C1 := Lib.hid CI
 have C2 := Lib.hid CS
 clear CI CS b1 hg hA
 go_upto_region 4 with fail
 generalize w1.alloc _ = w2 at *
 generalize w1.heap.size = gl at *
 have cm := B.cell
 go_wp2_with fail
 refine (C1.out w2 K).mono ?_
 rintro e w3 ⟨rfl, b9⟩
 clear cm
 replace B := B.next b9
 replace K := jaa K b9
 clear b9
 have cm := B.cell
 go_wp2_with fail
 refine (C2.out w3).mono ?_
 rintro e w4 ⟨rfl, b9⟩
 clear cm C1 C2 B
 replace K := jaa K b9
 clear b9
 have e1 : (q1 != q1) = false := bne_self_eq_false q1
 have e2 : (q2 != q2) = false := bne_self_eq_false q2
 go_wp2_with fail
 refine (jr6 A m c w4 (HA.out w4 K) (by omega)).mono ?_
 rintro e w5 ⟨r0, l0, A0', c0', s, rfl, -, -, -, hs, b9⟩
 replace K := jaa K b9
 clear b9
 have b9 := nB w5 (.cells #[r0.clock, r0.closed, .slice A0' r0.field.length c0', l0.durable, l0.pending, l0.count] 35)
 have B0 := nP w5 [r0.clock, r0.closed, .slice A0' r0.field.length c0', l0.durable, l0.pending, l0.count] 35
 replace K := jaa K b9
 clear b9
 clear B0 e1 e2
 go_upto_region 9 with fail
 generalize w5.alloc _ = w6 at *
 obtain ⟨ib, hib⟩ : ∃ b, inB e0 1 8 = b := ⟨_, rfl⟩
 have HIB := Lib.hid hib
 have CN := (fun W => jrt e0 W)
 have CP := (fun W => jq5 e0 W)
 unfold jr8 at CN CP
 rw [hib] at CN CP
 have CNH := Lib.hid CN
 have CPH := Lib.hid CP
 clear CN CP hib
 go_wp2_with fail
 refine (CNH.out w6).mono ?_
 rintro e w7 ⟨AN, rfl, M, b9⟩
 replace K := jaa K b9
 clear b9
 have hkc := K.size
 have b9 := nB w7 (.cells #[.int .i64 0, false, .slice AN (jqz e0) (jqz e0), .string ⟨#[]⟩, .string ⟨#[]⟩, .int .i64 0] 35)
 have B := nP w7 [.int .i64 0, false, .slice AN (jqz e0) (jqz e0), .string ⟨#[]⟩, .string ⟨#[]⟩, .int .i64 0] 35
 replace M := M.next b9
 replace K := jaa K b9
 clear b9
 go_upto_region 10 with fail
 generalize w7.alloc _ = w8 at *
 generalize w7.heap.size = gc at *
 go_wp2_with fail
 refine (CPH.out w8).mono ?_
 rintro e w9 ⟨AP, rfl, M2, b9⟩
 replace B := B.next b9
 replace M := M.next b9
 replace K := jaa K b9
 clear b9
 have b9 := nB w9 (.cells #[.int .i64 0, false, .slice AP (jqz e0) (jqz e0), .string ⟨#[]⟩, .string ⟨#[]⟩, .int .i64 0] 35)
 have B2 := nP w9 [.int .i64 0, false, .slice AP (jqz e0) (jqz e0), .string ⟨#[]⟩, .string ⟨#[]⟩, .int .i64 0] 35
 replace B := B.next b9
 replace M := M.next b9
 replace M2 := M2.next b9
 replace K := jaa K b9
 clear b9
 go_upto_region 11 with fail
 generalize w9.alloc _ = wa at *
 generalize w9.heap.size = gd at *
 have cm := B.cell
 have cp := B2.cell
 have e3 : (ib != ib) = false := bne_self_eq_false ib
 go_wp2_with fail
 refine (jtf 0 false ⟨⟨#[]⟩, ⟨#[]⟩, 0⟩ AN AP (jqz e0) (jqz e0) (jqz e0) (List.replicate (jqz e0) jtb) wa M.sees M2.sees (by have := ju5 e0; omega) (fun x hx => by rw [List.eq_of_mem_replicate hx]; decide)).mono ?_
 rintro e wb ⟨rfl, b9⟩
 clear cm cp B2 M2 CNH CPH
 replace B := B.next b9
 replace M := M.next b9
 replace K := jaa K b9
 clear b9
 cases ib
 ·go_wp2_with fail
  go_ret
  exact ⟨rfl, K⟩
 clear e3
 have HRP := Lib.hid (jts HIB.out)
 have hlen0 : (jsx e0).field.length = jqz e0 := List.length_replicate
 have HLE := Lib.hid hlen0
 clear hlen0
 have hlp := jjr 10 s
 have HPC := Lib.hid (fun x (hx : x ∈ jbb 10 s) => jg5 10 s hx)
 obtain ⟨LL, hLL⟩ : ∃ x, jbb 10 s = x := ⟨_, rfl⟩
 obtain ⟨N, hN⟩ : ∃ n, LL.length = n := ⟨_, rfl⟩
 have HN := Lib.hid hN
 have hNs : N ≤ 1001 := by rw [← hN, ← hLL]; have := jgt 10 s; omega
 have CSP := Lib.hid (fun W => jsd s W (by omega))
 unfold jsv at CSP
 rw [hLL, hN] at CSP
 rw [hLL] at HPC hlp
 rw [hN] at hlp
 clear hLL hN
 go_wp2_with fail
 refine (CSP.out wb).mono ?_
 rintro e wd ⟨AW, cw, rfl, oW, b9⟩
 have hgc := B.lt
 have hwz := b9.size
 replace B := B.next b9
 replace M := M.next b9
 replace K := jaa K b9
 clear b9
 rcases jby oW with ⟨-, hz, -, -⟩ | ⟨gw, cur, rfl, hgb, hB, -, -, -, -⟩
 ·omega
 have hgw := hB.lt
 have hW := Sees.of_own oW
 clear hB oW CSP
 have hgw0 : w.heap.size ≤ gc := hkc
 go_wp2_with fail
 go_loopw [17] (fun iv wr => ∃ (k : Nat) (r : RaceV) (lg : Log) (A1 : Option Addr) (c1 : Nat), k ≤ N ∧ iv = .int .i64 (k : Int) ∧ Blk wr gc 35 [.int .i64 r.clock, .bool r.closed, .slice A1 r.field.length c1, .string lg.durable, .string lg.pending, .int .i64 lg.count] ∧ Stays wr gc (gc + 1) A1 r.field.length r.field ∧ Hid (jrw e0 r lg ∧ lg.upto 1048576) ∧ Only (fun b => b = gc ∨ wd.heap.size ≤ b) wd wr ∧ Below w.heap.size w wr) (fun iv _ => N - (intOf iv).toNat)
 case atStart => exact ⟨0, jsx e0, emptyL, AN, jqz e0, Nat.zero_le _, rfl, (by rw [HLE.out]; exact B), jb5 (M.at HLE.out.symm) (fun b hb => Or.inl hb.2), Lib.hid ⟨HRP.out, jru⟩, Only.refl _ _, K⟩
 case round =>
  clear K B M
  obtain ⟨k, r, lg, A1, c1, hk, rfl, P, X, HGD, O, K⟩ := hrel
  by_cases hlt : k < N
  ·have hlt1 : (k : Int) < (N : Int) := by omega
   have hkr : k < LL.length := by rw [HN.out]; exact hlt
   obtain ⟨hx1, x1⟩ := jiw (hW.only O (fun b off e _ hb => by
    injection e with e
    injection e with e1 _ _
    subst e1
    rcases hb with hb | hb <;> omega)) hlt
   have HSZ := HPC.out LL[k] (List.getElem_mem hkr)
   obtain ⟨ln, hln⟩ : ∃ ln, LL[k] = ln := ⟨_, rfl⟩
   rw [hln] at x1 HSZ
   obtain ⟨D, hD⟩ : ∃ D, exM r lg ln = D := ⟨_, rfl⟩
   have HCC := Lib.hid (fun W (h : Below wr.heap.size wr W) (hgg : GlE W) => ExecuteCommand_any r.clock r.closed lg A1 r.field.length c1 r.field ln W (X.below h).sees (jra HGD.out.1.1).1 (jra HGD.out.1.1).2.1 HGD.out.2 (by omega) hgg)
   rw [show (⟨r.clock, r.closed, r.field⟩ : RaceV) = r from rfl, hD] at HCC
   have HGD2 := Lib.hid (show jrw e0 D.race D.log ∧ D.log.upto 1048576 by rw [← hD]; exact ⟨jte HGD.out.1 ln, jrg HGD.out.2⟩)
   clear hD hln HSZ
   have zl := P.lt
   have b9 := (Quiet.one wr).below wr.heap.size
   have Kr := b9
   have Kq := K
   clear K X
   replace x1 := (b9.cell (p := ⟨gw, k, none⟩) (World.block_lt_of_cell? _ _ x1)).trans x1
   replace P := P.next b9
   replace O := O.then_ b9
   replace Kq := jaa Kq b9
   clear b9
   have pc := P.cell
   go_upto_region 19 with fail
   refine wp_region_held_drew (S := fun w' => w'.cell? ⟨gw, k, none⟩ = some (.string ln)) (by kernel_rfl) (by (try dsimp only); exact x1) (fun hH => ?_)
   generalize wr.drew = wz at *
   refine wQ 1 ?_
   refine wQ 2 ?_
   refine wQ 3 ?_
   refine wQ 4 ?_
   refine wR (rs := [0]) (by kernel_rfl) (by simp) ?_
   refine aC rfl (fun K hK => ?_) aN
   go_simp
   refine hK.out _ _ (by (try dsimp only); exact x1) (fun hH => ?_)
   clear hK K
   try simp only [Act.put, pX]
   refine wR (rs := [5]) (by kernel_rfl) (by simp) ?_
   refine aC rfl (fun K hK => ?_) aN
   go_simp
   have zwr := Kr.size
   go_must (refine (HCC.out wz Kr (HG.out wz Kq)).mono ?_)
   rintro e9 w5 ⟨A2, c2, he9, M2, b9⟩
   replace he9 : e9 = .returned (.tuple #[.agg #[D.race.clock, D.race.closed, .slice A2 D.race.field.length c2, D.log.durable, D.log.pending, D.log.count], .string D.reply]) := he9
   subst he9
   replace x1 := (b9.cell (p := ⟨gw, k, none⟩) (World.block_lt_of_cell? _ _ x1)).trans x1
   replace P := P.next b9
   replace O := O.then_ b9
   replace Kq := jaa Kq b9
   obtain ⟨zlo, hzlo⟩ : ∃ z, wz.heap.size = z := ⟨_, rfl⟩
   rw [hzlo] at M2 zwr
   have zP5 := P.lt
   clear b9 pc hzlo Kr
   have pc := P.cell
   have pf := P.frozen
   generalize w5 = wz at *
   go_wp2_with fail
   refine hK.out _ _ (by (try dsimp only); exact x1) (fun hH => ?_)
   clear hK K
   refine wQ 6 ?_
   refine wQ 7 ?_
   refine wQ 8 ?_
   refine wR (rs := [9]) (by kernel_rfl) (by simp) ?_
   refine aC rfl (fun K hK => ?_) aN
   go_simp
   refine hK.out _ _ (by (try dsimp only); have E := (jal P (.int .i64 D.race.clock) (.bool D.race.closed) (.slice A2 D.race.field.length c2) (.string D.log.durable) (.string D.log.pending) (.int .i64 D.log.count)).2; exact (jc5 E (fun (h : gw = _) => by omega) (World.block_lt_of_cell? _ _ x1)).trans x1) (fun hH => ?_)
   clear hK K
   try simp only [Act.put, pX]
   refine wD (by kernel_rfl) ?_ _
   obtain ⟨P2, E⟩ := jal P (.int .i64 D.race.clock) (.bool D.race.closed) (.slice A2 D.race.field.length c2) (.string D.log.durable) (.string D.log.pending) (.int .i64 D.log.count)
   have M3 := M2.only E (fun b h1 (h2 : b = gc) => by have := h1.1; omega)
   have O2 := O.trans (E.mono fun b hb => Or.inl hb)
   have K2 := Kq.trans (E.below (fun b hb => by omega) Kq.size)
   have zE := E.size
   clear pc pf P M2 O Kq E x1
   generalize (((((wz.setCell _ _).setCell _ _).setCell _ _).setCell _ _).setCell _ _).setCell _ _ = wv at *
   go_wp2_with fail
   go_roundw
   case rel => exact ⟨k + 1, D.race, D.log, A2, c2, by omega, by go_num, P2, jb5 M3 (fun b hb => Or.inr (by have := hb.1; omega)), HGD2, O2, K2⟩
   case measure => simp [intOf] <;> omega
  ·obtain rfl : k = N := by omega
   have hlt1 : ¬ (k : Int) < (k : Int) := by omega
   have CRL := (fun W (h : GlE W) => jrj e0 lg W HGD.out.2 h)
   rw [js3 HIB.out HGD.out.1] at CRL
   have CR1 := Lib.hid CRL
   obtain ⟨y, hy⟩ : ∃ y, lg.pending.size % 7 = y := ⟨_, rfl⟩
   have hy7 : y ≤ lg.pending.size := by rw [← hy]; exact Nat.mod_le _ _
   obtain ⟨n, hn⟩ : ∃ n, lg.pending.size = n + y := ⟨lg.pending.size - y, by omega⟩
   obtain ⟨sb, hsb, hsbs⟩ := jus HGD.out.1.2.1 n (by omega)
   have CCL := (fun W (h : Gl W) => jtk lg (n : Int) false W HGD.out.2 h)
   rw [hsb] at CCL
   have CC1 := Lib.hid CCL
   obtain ⟨hp1, hp2, hp3⟩ := js9 HIB.out HGD.out.1 hsb
   have CRC := (fun W (h : Gl W) => jsl sb W (by omega) h)
   unfold jsr at CRC
   obtain ⟨RC, hRC⟩ : ∃ x, jr1 sb = x := ⟨_, rfl⟩
   rw [hRC] at CRC hp1 hp2 hp3
   obtain ⟨pl, pa, pok⟩ := RC
   obtain rfl : pok = true := hp1
   have CPL := (fun W (h : GlE W) => jrj e0 pl W hp3 h)
   rw [show jrd e0 pl = (pl.count, true) from hp2] at CPL
   have CR2 := Lib.hid CRC
   have CP2 := Lib.hid CPL
   have hcz : lg.pending.size ≤ 1048576 := HGD.out.2.2
   clear CRL CCL CRC CPL hp2 hp3 hRC hsb hlt O X HGD HIB HN HPC
   have pc := P.cell
   go_wp2_with fail
   refine (CR1.out _ (HG.out _ K)).mono ?_
   rintro e w6 ⟨rfl, b9⟩
   clear pc CR1
   replace P := P.next b9
   replace K := jaa K b9
   clear b9
   have pc := P.cell
   have hr4 : (lg.pending.size : Int) % 7 = (y : Int) := by rw [← hy]; rfl
   have hr5 : (lg.pending.size : Int) - (y : Int) = (n : Int) := by omega
   have hyb : y < 7 := by rw [← hy]; exact Nat.mod_lt _ (by decide)
   clear hy hn
   go_wp2_with fail
   refine (CC1.out _ (HG.out _ K).gl).mono ?_
   rintro e w7 ⟨rfl, b9⟩
   clear pc CC1 hr4 hr5
   replace P := P.next b9
   replace K := jaa K b9
   clear b9
   go_wp2_with fail
   refine (CR2.out _ (HG.out _ K).gl).mono ?_
   rintro e w8 ⟨rfl, b9⟩
   clear CR2
   replace P := P.next b9
   replace K := jaa K b9
   clear b9
   have b9 := nB w8 (.cells #[pl.durable, pl.pending, pl.count] 33)
   have Q := nP w8 [pl.durable, pl.pending, pl.count] 33
   replace P := P.next b9
   replace K := jaa K b9
   clear b9
   go_upto_region 23 with fail
   generalize w8.alloc _ = w9 at *
   generalize w8.heap.size = gp at *
   have qc := Q.cell
   go_wp2_with fail
   refine (CP2.out _ (HG.out _ K)).mono ?_
   rintro e wx ⟨rfl, b9⟩
   clear qc CP2
   replace P := P.next b9
   replace Q := Q.next b9
   replace K := jaa K b9
   clear b9
   have pc := P.cell
   have qc := Q.cell
   have e1 : (lg.count == lg.count) = true := beq_self_eq_true _
   have e2 : (pl.count == pl.count) = true := beq_self_eq_true _
   go_wp2_with fail
   go_ret
   exact ⟨rfl, K⟩
end Go.Proofs.YtflpcdffmpfdpaaGreatDoor
namespace Go.Proofs.YtflpcdffmpfdpaaGreatDoor
open Go.ChangeShapes Go.WideShapes Go.ChangeAt Go.RowKit Go.Deep

section
variable {H : Type} {enc : TypeId × Value → H} {P : Program} {w : World} {base : Nat} {spare : Nat → Bool} {held : Bool}

theorem jso {α : Type} [Inhabited α] {E : α → List Value} {s : Nat} {t e : TypeId} {fuel : Nat} {cs : List Value} {x : DataW H × List MemPlace}
  (ht : P.underlying t = some (.slice e)) (hC : P.cellsOf e = s) (hs : 0 < s) (hlen : ∀ d, (E d).length = s)
  (helem : ∀ n cs x, DataW.trod enc P w base spare held n e cs = some x → ∃ d : α, cs = E d)
  (h : DataW.trod enc P w base spare held fuel t cs = some x) :
  ∃ (A : Option Addr) (n c : Nat) (ds : List α), cs = [.slice A n c] ∧ n ≤ 9223372036854775807 ∧ Sees w base s A n (ds.flatMap E) := by
 rcases open_slice ht h with ⟨hcs, _⟩ | ⟨a, len, cap, m, n, D, Pl, hcs, hb, hl, hm, hmm, hx, hi⟩
 ·exact ⟨none, 0, 0, [], hcs, by omega, Sees.nil _ _ _ _⟩
 ·have hlm : len ≤ m := by rw [hmm]; split <;> omega
  have hex : ∀ i, i < len → ∃ d : α, ∀ j u, (E d)[j]? = some u → w.cell? (a.add (i * s + j)) = some u := by
   intro i hil
   obtain ⟨cs', hc, ht'⟩ := hi i (by omega)
   obtain ⟨d, rfl⟩ := helem _ _ _ ht'
   obtain ⟨_, hcl, hat⟩ := World.cells?_some hc
   refine ⟨d, fun j u hu => ?_⟩
   have hj : j < (E d).length := (List.getElem?_eq_some_iff.1 hu).1
   rw [← hu, ← hat j (by rw [← hcl]; exact hj), hC, Go.Deep.add_add]
  obtain ⟨f, hf⟩ := choose_lt hex
  have hl2 : ((List.range len).map f).length = len := by simp
  refine ⟨some a, len, cap, (List.range len).map f, hcs, by unfold maxLen at hm; omega, ?_, fun hn => ?_⟩
  ·rw [jak _ (fun d _ => hlen d), hl2]
  ·obtain ⟨b, off, spot⟩ := a
   have hlie : ∀ j u, (((List.range len).map f).flatMap E)[j]? = some u → w.cell? ((⟨b, off, spot⟩ : Addr).add j) = some u := by
    intro j u hu
    have hj := (List.getElem?_eq_some_iff.1 hu).1
    rw [jak _ (fun d _ => hlen d), hl2] at hj
    have hq : j / s < len := Nat.div_lt_of_lt_mul (by rw [Nat.mul_comm]; exact hj)
    have hr : j % s < s := Nat.mod_lt _ hs
    have hjj : j / s * s + j % s = j := by rw [Nat.mul_comm]; exact Nat.div_add_mod j s
    have h1 := jds (f := E) ((List.range len).map f) (fun d _ => hlen d) (j / s) (j % s) (by rw [hl2]; exact hq) hr
    rw [hjj, hu] at h1
    have h2 := hf (j / s) hq (j % s) u (by simpa using h1.symm)
    rwa [hjj] at h2
   have h0 : 0 < (((List.range len).map f).flatMap E).length := by
    rw [jak _ (fun d _ => hlen d), hl2]
    exact Nat.mul_pos hn hs
   have hc0 := hlie 0 _ (List.getElem?_eq_getElem h0)
   have hsp : spot = none := by simpa [Addr.add] using World.cell?_spot hc0
   subst hsp
   refine ⟨b, off, rfl, hb, by simpa [Addr.add] using World.block_lt_of_cell? w _ hc0, fun j u hu => ?_⟩
   have hadd : (⟨b, off, none⟩ : Addr).add j = ⟨b, off + j, none⟩ := by unfold Addr.add; split <;> simp_all
   have := hlie j u hu
   rwa [hadd] at this

end
end Go.Proofs.YtflpcdffmpfdpaaGreatDoor
namespace Go.Proofs.YtflpcdffmpfdpaaGreatDoor
open Go.ChangeShapes Go.WideShapes Go.ChangeAt Go.RowKit Go.Deep

section
variable {H : Type} {enc : TypeId × Value → H} {P : Program} {w : World} {base : Nat} {spare : Nat → Bool} {held : Bool}
theorem jsj {α : Type} {Q : α → Prop} (d0 : α) (h0 : Q d0) {E : α → List Value} {s : Nat} {t e : TypeId} {fuel : Nat} {cs : List Value} {x : DataW H × List MemPlace}
  (ht : P.underlying t = some (.slice e)) (hC : P.cellsOf e = s) (hs : 0 < s) (hlen : ∀ d, (E d).length = s)
  (helem : ∀ n cs x, DataW.trod enc P w base spare held n e cs = some x → ∃ d : α, cs = E d ∧ Q d)
  (h : DataW.trod enc P w base spare held fuel t cs = some x) :
  ∃ (A : Option Addr) (n c : Nat) (ds : List α), cs = [.slice A n c] ∧ n ≤ 9223372036854775807 ∧ Sees w base s A n (ds.flatMap E) ∧ ∀ d ∈ ds, Q d := by
 haveI : Inhabited {d : α // Q d} := ⟨⟨d0, h0⟩⟩
 obtain ⟨A, n, c, ds, h1, h2, h3⟩ := jso (α := {d : α // Q d}) (E := fun d => E d.1) ht hC hs (fun d => hlen d.1) (fun n cs x h => by
  obtain ⟨d, hd, hq⟩ := helem n cs x h
  exact ⟨⟨d, hq⟩, hd⟩) h
 refine ⟨A, n, c, ds.map Subtype.val, h1, h2, by rw [List.flatMap_map]; exact h3, fun d hd => ?_⟩
 obtain ⟨x, _, rfl⟩ := List.mem_map.1 hd
 exact x.2
end

end Go.Proofs.YtflpcdffmpfdpaaGreatDoor
namespace Go.Proofs.YtflpcdffmpfdpaaGreatDoor
open Go.ChangeShapes Go.WideShapes Go.ChangeAt Go.RowKit Go.Deep
theorem jti : ownKnob Tryz.prog.godebug = none := by kernel_rfl
theorem js6 : laidOutB Tryz.prog = true := by kernel_rfl
section
variable {H : Type} {enc : TypeId × Value → H} {w : World} {base : Nat} {spare : Nat → Bool} {held : Bool}
end
end Go.Proofs.YtflpcdffmpfdpaaGreatDoor
namespace Go.Proofs.YtflpcdffmpfdpaaGreatDoor
open Go.ChangeShapes Go.WideShapes Go.ChangeAt Go.RowKit Go.Deep
section
variable {H : Type} {enc : TypeId × Value → H} {w : World} {spare : Nat → Bool} {held : Bool}
theorem juh : Tryz.prog.cellsOf 5 = 1 := by kernel_rfl
theorem jvg {fuel : Nat} {cs : List Value} {x : DataW H × List MemPlace} (h : DataW.trod enc Tryz.prog w 0 spare held fuel 47 cs = some x) : ∃ (A : Option Addr) (n c : Nat), cs = [.slice A n c] ∧ n ≤ 9223372036854775807 ∧ CodeIn w A n := by
 obtain ⟨A, n, c, ds, h1, h2, h3, h4⟩ := jsj (α := Int) (Q := fun u => 0 ≤ u ∧ u ≤ 255) 0 ⟨by decide, by decide⟩ (E := fun u => [Value.int .u8 u]) Tryz.underlying47 juh (by decide) (fun _ => rfl) (fun n cs x h => by
  obtain ⟨d, hd, _, hw⟩ := DataW.trod_int Tryz.underlying5 h
  refine ⟨d, hd, ?_⟩
  simp [Lit.wf, IntKind.bits, IntKind.signed, IntKind.min, IntKind.max] at hw
  omega) h
 refine ⟨A, n, c, h1, h2, fun hn => ?_⟩
 have hl := h3.count (by decide) (fun _ => rfl)
 obtain ⟨b, off, e, _, hb, hlie⟩ := h3.at' hn
 refine ⟨b, off, e, hb, fun j hj => ?_⟩
 have hj' : j < ds.length := by omega
 refine ⟨ds[j], hlie j _ ?_, h4 _ (List.getElem_mem hj')⟩
 have := jds (f := fun u => [Value.int .u8 u]) ds (s := 1) (fun _ _ => rfl) j 0 hj' (by decide)
 simpa using this
end
end Go.Proofs.YtflpcdffmpfdpaaGreatDoor
namespace Go.Proofs.YtflpcdffmpfdpaaGreatDoor
open Go.ChangeShapes Go.WideShapes Go.ChangeAt Go.RowKit

theorem juo {α β γ : Type} {o : Option (α × List β × γ)} (h : (o.any fun x => x.2.1.isEmpty) = true) : ∃ a c, o = some (a, [], c) := by
 match o, h with
 | some (a, [], c), _ => exact ⟨a, c, rfl⟩
theorem tPowK : (Tryz.prog.globals[1]?).map (·.type) = some 237 := by kernel_rfl
theorem dPowK : (Rows.laid_internal_strconv_uint64pow10 : DataW Unit) = Lib.tabData .u64 Lib.pow10Tab := by kernel_rfl
theorem gESK : Tryz.prog.globalNamed "strconv.ErrSyntax" = some 2 := by kernel_rfl
theorem jvl : (Tryz.prog.globals[2]?).map (·.type) = some 169 := by kernel_rfl
theorem starK : "*" ++ "errors.errorString" = "*errors.errorString" := by decide
theorem rowESK (u : TypeId) (h : Tryz.prog.typeName? 3 u = some "*errors.errorString") : u = 261 :=
 typeName_ptr_named (nm := "errors.errorString") (by rw [starK]; kernel_rfl) (by kernel_rfl) (by decide) u (by rw [starK]; exact h)
theorem jvj : Tryz.prog.cellsOf 263 = 1 := by kernel_rfl
theorem jut : Tryz.prog.cellsOf 9 = 1 := by kernel_rfl
theorem jtr {W : World} (hL : laidMetH Tryz.prog [("math/bits.deBruijn32tab", Rows.laid_math_bits_deBruijn32tab), ("math/bits.deBruijn64tab", Rows.laid_math_bits_deBruijn64tab), ("internal/strconv.uint64pow10", Rows.laid_internal_strconv_uint64pow10), ("unicode/utf8.acceptRanges", Rows.laid_unicode_utf8_acceptRanges), ("strconv.ErrRange", Rows.laid_strconv_ErrRange), ("strconv.ErrSyntax", Rows.laid_strconv_ErrSyntax), ("unicode/utf8.first", Rows.laid_unicode_utf8_first)] W) (hsh : W.ShapedOpen Tryz.prog) : GlE W := by
 have hml : ∃ m, W.cell? ⟨0, 0, none⟩ = some (.int .i64 m) := Go.Proofs.cell_of_shapedOpen_int (zero := #[.int .i64 0]) (t := 3) hsh (of_decide_eq_true (by kernel_rfl)) (by kernel_rfl) rfl (by kernel_rfl) (by kernel_rfl) Tryz.underlying3
 rw [MakeChecks.laidMetH_plain _ _ _ (by kernel_rfl)] at hL
 have hL2 := hL
 obtain ⟨ps, ⟨g0, t0, cs0, f0, p0, q0, hg0, ht0, hv0, hd0, ⟨g1, t1, cs1, f1, p1, q1, hg1, ht1, hv1, hd1, ⟨g2, t2, cs2, f2, p2, q2, hg2, ht2, hv2, hd2, _, _⟩, _⟩, _⟩, _, _⟩ := hL
 obtain ⟨a0, s0, hv9, -, -, -⟩ := laid_sentinel hL2.tail.tail.tail.tail.tail gESK jvl Tryz.underlying169 rowESK Tryz.underlying261 Tryz.underlying263 rfl rfl Tryz.underlying9 jvj jut
 refine ⟨⟨?_, hml⟩, ⟨_, by have h0 := World.var?_cell gESK hv9 0; simpa using h0, Or.inr ⟨_, _, rfl⟩⟩⟩
 obtain rfl := Option.some.inj (gPow.symm.trans hg2)
 obtain rfl := Option.some.inj (tPowK.symm.trans ht2)
 rw [dPowK] at hd2
 unfold Lib.TabIs
 rw [hv2, ← Lib.cells_of_tab Tryz.underlying237 Tryz.underlying86 (by kernel_rfl) (by kernel_rfl) hd2]

end Go.Proofs.YtflpcdffmpfdpaaGreatDoor
