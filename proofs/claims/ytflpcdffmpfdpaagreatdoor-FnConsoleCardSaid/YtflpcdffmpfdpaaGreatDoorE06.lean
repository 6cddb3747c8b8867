/- Joined texts of this proof: VCon, VBig, LawFnConsole, Open, Open2, OpenE, OpenC, DoorK. -/
import Derived.Deep.CutBlock
import Derived.ProofKit
import Derived.OpenShut
import Derived.ShutString
import Derived.ChangeOld
import Derived.Below
import Derived.Lib.SmallJoins
import Derived.Deep.Slices
import Derived.Deep.Fields
import Derived.JoinedTies
import Derived.Deep.DeepHandedRow
import Derived.JoinedCond
import Derived.LaidMore
import Derived.Lib.LaidTab
import Derived.SevenTiedAt
import Derived.Stop.Joined
import Derived.Stop.LaidErr
import Derived.Lay
import Derived.Test.YtflpcdffmpfdpaaGreatDoorRows
import Derived.Test.YtflpcdffmpfdpaaGreatDoorB02
import Derived.Test.YtflpcdffmpfdpaaGreatDoorB01
import Derived.Test.YtflpcdffmpfdpaaGreatDoorE05
import Derived.Test.YtflpcdffmpfdpaaGreatDoorB11
import Derived.Test.YtflpcdffmpfdpaaGreatDoorB13
import Derived.Test.YtflpcdffmpfdpaaGreatDoorU01
set_option maxRecDepth 100000
set_option maxHeartbeats 8000000
namespace Go.Proofs.YtflpcdffmpfdpaaGreatDoor
open Go.RowKit
theorem jth (A A' : Option Addr) (n n' c c' lo lo' : Nat) (xs ys : List Punch) (w : World) (hx : Sees w lo 2 A n (xs.flatMap Punch.enc)) (hy : Sees w lo' 2 A' n' (ys.flatMap Punch.enc)) (he : xs = ys) (hn : n ≤ 140737488355328) :
  Calls Tryz.prog 150 #[.slice A n c, .slice A' n' c'] w fun e w' => e = .returned (.bool true) ∧ Quiet w w' := by
 subst he
 have hl := hx.count (by decide) (fun _ => rfl)
 have hl' := hy.count (by decide) (fun _ => rfl)
 obtain rfl : n = n' := by omega
 go_enter Tryz.func150, Tryz.ntmps150
 go_wp2
 go_loopw [5] (fun v wr => ∃ k : Nat, k ≤ n ∧ v = .int .i64 k ∧ Quiet w wr) (fun v _ => n - (intOf v).toNat)
 case atStart => exact ⟨0, Nat.zero_le _, rfl, Quiet.refl _⟩
 case round =>
  obtain ⟨k, hk, rfl, hq⟩ := hrel
  by_cases hlt : k < n
  ·obtain ⟨b, off, rfl, hkx, hcx⟩ := (hx.quiet hq).elem (by decide) (fun _ => rfl) hlt
   obtain ⟨b', off', rfl, hky, hcy⟩ := (hy.quiet hq).elem (by decide) (fun _ => rfl) hlt
   have x0 : wr.cell? ⟨b, off + k * 2, none⟩ = some (.int .i64 xs[k].code) := hcx 0 _ rfl
   have y0 : wr.cell? ⟨b', off' + k * 2, none⟩ = some (.int .i64 xs[k].code) := hcy 0 _ rfl
   have x1 : wr.cell? ⟨b, off + k * 2 + 1, none⟩ = some (.int .i64 xs[k].time) := hcx 1 _ rfl
   have y1 : wr.cell? ⟨b', off' + k * 2 + 1, none⟩ = some (.int .i64 xs[k].time) := hcy 1 _ rfl
   clear hcx hcy
   go_wp2
   go_quiet (fail)
   go_wp2
   go_roundw
   case rel => exact ⟨k + 1, by omega, by go_num, hq.more _⟩
   case measure => simp [intOf] <;> omega
  ·go_wp2
   go_ret
   exact ⟨rfl, hq⟩
theorem jtg (A B : Option Addr) (n n' c c' lo lo' : Nat) (x y : Card) (w : World) (hx : Sees w lo 2 A n (x.punches.flatMap Punch.enc)) (hy : Sees w lo' 2 B n' (y.punches.flatMap Punch.enc)) (he : x = y) (hn : n ≤ 1048576) :
  Calls Tryz.prog 112 #[.agg #[(.int .i64 x.number), (.int .i64 x.start), (.int .i64 x.finish), (.slice A n c)], .agg #[(.int .i64 y.number), (.int .i64 y.start), (.int .i64 y.finish), (.slice B n' c')]] w fun e w' => e = .returned (.bool true) ∧ Below w.heap.size w w' := by
 subst he
 have K0 := nB2 w (.cells #[x.number, x.start, x.finish, .slice A n c] 106) (.cells #[x.number, x.start, x.finish, .slice B n' c'] 106)
 have hx0 := hx.next K0
 have hy0 := hy.next K0
 go_enter Tryz.func112, Tryz.ntmps112
 go_wp2_with (go_at_call 150; refine (jth _ _ _ _ _ _ _ _ x.punches x.punches _ hx0 hy0 rfl (by omega)).mono ?_; rintro e w1 ⟨rfl, q1⟩; have K1 := ja3 K0 q1)
 go_ret
 exact ⟨rfl, K1⟩
theorem jti (t : Int) (cl : Bool) (A A' : Option Addr) (n c c' : Nat) (xs : List Entrant) (w : World) (hx : SeesN entrantSh w 0 A n xs) (hy : SeesN entrantSh w 0 A' n xs) (hn : n ≤ 1048576) (hi : ∀ x ∈ xs, x.cnt ≤ 1048576) :
  Calls Tryz.prog 68 #[.agg #[t, cl, .slice A n c], .agg #[t, cl, .slice A' n c']] w fun e w' => e = .returned (.bool true) ∧ Below w.heap.size w w' := by
 have K0 := nB2 w (.cells #[t, cl, .slice A n c] 32) (.cells #[t, cl, .slice A' n c'] 32)
 have P := nPa w [t, cl, .slice A n c] 32 (.cells #[t, cl, .slice A' n c'] 32)
 have Q := nQ w (.cells #[t, cl, .slice A n c] 32) [t, cl, .slice A' n c'] 32
 have hx0 := hx.next K0
 have hy0 := hy.next K0
 go_enter Tryz.func68, Tryz.ntmps68
 go_upto_region 1 with fail
 generalize (w.alloc _).alloc _ = w0 at *
 generalize hga : w.heap.size = ga at *
 have pc := P.cell
 have qc := Q.cell
 go_wp2_with fail
 go_loopw [5] (fun v wr => ∃ k : Nat, k ≤ n ∧ v = .int .i64 k ∧ Below w0.heap.size w0 wr) (fun v _ => n - (intOf v).toNat)
 case atStart => exact ⟨0, Nat.zero_le _, rfl, Below.refl _ _⟩
 case round =>
  obtain ⟨k, hk, rfl, hb⟩ := hrel
  clear pc qc
  by_cases hlt : k < n
  ·have hlt1 : (k : Int) < (n : Int) := by omega
   have hi1 : (0 : Int) ≤ (k : Int) := by omega
   have hb' := jaa hb ((Quiet.one wr).below _)
   have pc0 := (P.next hb).cell
   go_wp2_with fail
   clear pc0
   obtain ⟨b, off, B0, m, cc0, rfl, hkx, c0, c1, c2, c3, c4, hxi⟩ := SeesEntrant.elem (hx0.next hb') hlt
   obtain ⟨b', off', B0', m', cc1, rfl, hky, d0, d1, d2, d3, d4, hyi⟩ := SeesEntrant.elem (hy0.next hb') hlt
   have hm : m ≤ 1048576 := by
    have h1 := hi xs[k] (List.getElem_mem hkx)
    have h2 := hxi.count (by decide) (fun _ => rfl)
    unfold Entrant.cnt at h1
    omega
   have hz := hb'.size
   have pc := (P.next hb').cell
   have qc := (Q.next hb').cell
   have e0 : (xs[k].state != xs[k].state) = false := bne_self_eq_false _
   go_region_held3 (fun w' => w'.cell? ⟨ga, 2, none⟩ = some (.slice (some ⟨b, off, none⟩) n c) ∧ w'.cell? ⟨ga + 1, 2, none⟩ = some (.slice (some ⟨b', off', none⟩) n c') ∧ w'.cell? ⟨b, off + k * 5, none⟩ = some (.int .i64 xs[k].state) ∧ w'.cell? ⟨b, off + k * 5 + 1, none⟩ = some (.int .i64 xs[k].number) ∧ w'.cell? ⟨b, off + k * 5 + 2, none⟩ = some (.int .i64 xs[k].start) ∧ w'.cell? ⟨b, off + k * 5 + 3, none⟩ = some (.int .i64 xs[k].finish) ∧ w'.cell? ⟨b, off + k * 5 + 4, none⟩ = some (.slice B0 m cc0) ∧ w'.cell? ⟨b', off' + k * 5, none⟩ = some (.int .i64 xs[k].state) ∧ w'.cell? ⟨b', off' + k * 5 + 1, none⟩ = some (.int .i64 xs[k].number) ∧ w'.cell? ⟨b', off' + k * 5 + 2, none⟩ = some (.int .i64 xs[k].start) ∧ w'.cell? ⟨b', off' + k * 5 + 3, none⟩ = some (.int .i64 xs[k].finish) ∧ w'.cell? ⟨b', off' + k * 5 + 4, none⟩ = some (.slice B0' m' cc1)) (go_keep)
    ((go_at_call 112
      refine (jtg _ _ _ _ _ _ _ _ ⟨xs[k].number, xs[k].start, xs[k].finish, xs[k].punches⟩ ⟨xs[k].number, xs[k].start, xs[k].finish, xs[k].punches⟩ _ hxi hyi rfl hm).mono ?_
      rintro e w1 ⟨rfl, b9⟩
      have hb2 := jaa hb' b9
      clear pc qc
      obtain ⟨-, c0⟩ : True ∧ w1.cell? ⟨b, off + k * 5, none⟩ = _ := ⟨trivial, (b9.cell (p := ⟨b, off + k * 5, none⟩) (World.block_lt_of_cell? _ _ c0)).trans c0⟩
      obtain ⟨-, c1⟩ : True ∧ w1.cell? ⟨b, off + k * 5 + 1, none⟩ = _ := ⟨trivial, (b9.cell (p := ⟨b, off + k * 5 + 1, none⟩) (World.block_lt_of_cell? _ _ c1)).trans c1⟩
      obtain ⟨-, c2⟩ : True ∧ w1.cell? ⟨b, off + k * 5 + 2, none⟩ = _ := ⟨trivial, (b9.cell (p := ⟨b, off + k * 5 + 2, none⟩) (World.block_lt_of_cell? _ _ c2)).trans c2⟩
      obtain ⟨-, c3⟩ : True ∧ w1.cell? ⟨b, off + k * 5 + 3, none⟩ = _ := ⟨trivial, (b9.cell (p := ⟨b, off + k * 5 + 3, none⟩) (World.block_lt_of_cell? _ _ c3)).trans c3⟩
      obtain ⟨-, c4⟩ : True ∧ w1.cell? ⟨b, off + k * 5 + 4, none⟩ = _ := ⟨trivial, (b9.cell (p := ⟨b, off + k * 5 + 4, none⟩) (World.block_lt_of_cell? _ _ c4)).trans c4⟩
      obtain ⟨-, d0⟩ : True ∧ w1.cell? ⟨b', off' + k * 5, none⟩ = _ := ⟨trivial, (b9.cell (p := ⟨b', off' + k * 5, none⟩) (World.block_lt_of_cell? _ _ d0)).trans d0⟩
      obtain ⟨-, d1⟩ : True ∧ w1.cell? ⟨b', off' + k * 5 + 1, none⟩ = _ := ⟨trivial, (b9.cell (p := ⟨b', off' + k * 5 + 1, none⟩) (World.block_lt_of_cell? _ _ d1)).trans d1⟩
      obtain ⟨-, d2⟩ : True ∧ w1.cell? ⟨b', off' + k * 5 + 2, none⟩ = _ := ⟨trivial, (b9.cell (p := ⟨b', off' + k * 5 + 2, none⟩) (World.block_lt_of_cell? _ _ d2)).trans d2⟩
      obtain ⟨-, d3⟩ : True ∧ w1.cell? ⟨b', off' + k * 5 + 3, none⟩ = _ := ⟨trivial, (b9.cell (p := ⟨b', off' + k * 5 + 3, none⟩) (World.block_lt_of_cell? _ _ d3)).trans d3⟩
      obtain ⟨-, d4⟩ : True ∧ w1.cell? ⟨b', off' + k * 5 + 4, none⟩ = _ := ⟨trivial, (b9.cell (p := ⟨b', off' + k * 5 + 4, none⟩) (World.block_lt_of_cell? _ _ d4)).trans d4⟩
      have pc := (P.next hb2).cell
      have qc := (Q.next hb2).cell))
   go_wp2_with fail
   go_roundw
   case rel => exact ⟨k + 1, by omega, by go_num, hb2⟩
   case measure => simp [intOf] <;> omega
  ·obtain rfl : k = n := by omega
   have hlt1 : ¬ (k : Int) < (k : Int) := by omega
   have pc := (P.next hb).cell
   go_wp2_with fail
   go_ret
   exact ⟨rfl, by rw [← hga] at K0 ⊢; exact jaa K0 hb⟩
theorem jrh (t : Int) (cl : Bool) (l : Log) (A A' : Option Addr) (n c c' : Nat) (xs : List Entrant) (w : World) (hx : SeesN entrantSh w 0 A n xs) (hy : SeesN entrantSh w 0 A' n xs) (hn : n ≤ 1048576) (hi : ∀ x ∈ xs, x.cnt ≤ 1048576) :
  Calls Tryz.prog 28 #[.agg #[t, cl, .slice A n c, l.durable, l.pending, l.count], .agg #[t, cl, .slice A' n c', l.durable, l.pending, l.count]] w fun e w' => e = .returned (.bool true) ∧ Below w.heap.size w w' := by
 have K0 := nB2 w (.cells #[t, cl, .slice A n c, l.durable, l.pending, l.count] 35) (.cells #[t, cl, .slice A' n c', l.durable, l.pending, l.count] 35)
 have P := nPa w [t, cl, .slice A n c, l.durable, l.pending, l.count] 35 (.cells #[t, cl, .slice A' n c', l.durable, l.pending, l.count] 35)
 have Q := nQ w (.cells #[t, cl, .slice A n c, l.durable, l.pending, l.count] 35) [t, cl, .slice A' n c', l.durable, l.pending, l.count] 35
 have hx0 := hx.next K0
 have hy0 := hy.next K0
 have e1 : (l.durable.toList == l.durable.toList) = true := beq_self_eq_true _
 have e2 : (l.pending.toList == l.pending.toList) = true := beq_self_eq_true _
 go_enter Tryz.func28, Tryz.ntmps28
 go_upto_region 1 with fail
 generalize (w.alloc _).alloc _ = w0 at *
 have pc := P.cell
 have qc := Q.cell
 go_wp2_with fail
 refine (jti t cl A A' n c c' xs w0 hx0 hy0 hn hi).mono ?_
 rintro e w1 ⟨rfl, b9⟩
 replace P := P.next b9
 replace Q := Q.next b9
 clear pc qc
 have pc := P.cell
 have qc := Q.cell
 go_wp2_with fail
 go_ret
 exact ⟨rfl, jaa K0 b9⟩
theorem jsj (A : Option Addr) (m c : Nat) (w : World) (hm : m ≤ 9223372036854775807) : Calls Tryz.prog 21 #[.slice A m c] w fun e w' => e = .returned (.bool (decide (65536 < m))) ∧ w = w' := by
 by_cases h : 65536 < m
 ·have h' : (65536 : Int) < (m : Int) := by omega
  have hd := Lib.hid (decide_eq_true h)
  go_enter Tryz.func21, Tryz.ntmps21
  go_wp2_with fail
  go_ret
  exact ⟨jab (a := true) hd.out.symm, rfl⟩
 ·have h' : ¬ (65536 : Int) < (m : Int) := by omega
  go_enter Tryz.func21, Tryz.ntmps21
  go_wp2_with fail
  go_ret
  exact ⟨rfl, rfl⟩
theorem jry (A : Option Addr) (m c : Nat) (w : World) (hA : CodeIn w A m) (hm : m ≤ 9223372036854775807) (hg : GlE w) :
  Calls Tryz.prog 7 #[.slice A m c] w fun e w' => e = .returned (.bool true) ∧ Below w.heap.size w w' := by
 by_cases hbig : 65536 < m
 ·go_enter Tryz.func7, Tryz.ntmps7
  go_wp2_with fail
  refine (jsj A m c w hm).mono ?_
  rintro e w' ⟨rfl, rfl⟩
  rw [decide_eq_true hbig]
  go_wp2_with fail
  go_ret
  exact ⟨rfl, Below.refl _ _⟩
 go_enter Tryz.func7, Tryz.ntmps7
 go_wp2_with fail
 refine (jsj A m c w hm).mono ?_
 rintro e w' ⟨rfl, rfl⟩
 rw [decide_eq_false hbig]
 go_wp2_with fail
 refine (jq8 A m c w hA (by omega)).mono ?_
 rintro e w1 ⟨r, l, A1, c1, s, rfl, M, hsm, hl, hs, b1⟩
 have U := nB w1 (.cells #[r.clock, r.closed, .slice A1 r.field.length c1, l.durable, l.pending, l.count] 35)
 have K : Below w.heap.size w (w1.alloc (.cells #[r.clock, r.closed, .slice A1 r.field.length c1, l.durable, l.pending, l.count] 35)) := jaa b1 U
 have B := nP w1 [r.clock, r.closed, .slice A1 r.field.length c1, l.durable, l.pending, l.count] 35
 have X := (M.next U).sees
 have hn8 : r.field.length ≤ 1048576 := by have := hsm.1; omega
 have HI := Lib.hid (show ∀ x ∈ r.field, x.cnt ≤ 1048576 from fun x hx => by have := hsm.2 x hx; omega)
 have HG := Lib.hid (show ∀ W, Below w.heap.size w W → GlE W from fun W h => hg.next h)
 have CI := (fun W (h : SeesN entrantSh W 0 A1 r.field.length r.field) (hk : Below w.heap.size w W) => ExecuteCommand_any r.clock r.closed l A1 r.field.length c1 r.field s W h hn8 HI.out hl (by omega) (HG.out W hk))
 have CS := (fun W (h : SeesN entrantSh W 0 A1 r.field.length r.field) => specExecuteCommand_any r.clock r.closed l A1 r.field.length c1 r.field s W h hn8 HI.out hl (by omega))
 obtain ⟨D, hD⟩ : ∃ D, exM r l s = D := ⟨_, rfl⟩
 rw [show (⟨r.clock, r.closed, r.field⟩ : RaceV) = r from rfl, hD] at CI CS
 have HX := jtn r l s
 rw [hD] at HX
 have HCASE := Lib.hid HX
 have hsd : jq1 D.race := by rw [← hD]; exact jrf hsm
 have hld : D.log.upto 1048576 := by rw [← hD]; exact jr0 hl
 have hd8 : D.race.field.length ≤ 1048576 := by have := hsd.1; omega
 have HID := Lib.hid (show ∀ x ∈ D.race.field, x.cnt ≤ 1048576 from fun x hx => by have := hsd.2 x hx; omega)
 obtain ⟨vb, hvb⟩ : ∃ b, (jbf r.clock r.closed r.field && ja9 l) = b := ⟨_, rfl⟩
 have CV1 := (fun W (h : SeesN entrantSh W 0 A1 r.field.length r.field) (hk : Below w.heap.size w W) => IsValidConsole_any r.clock r.closed l A1 r.field.length c1 r.field W h hn8 HI.out hl (HG.out W hk).gl)
 have CV2 := (fun W (h : SeesN entrantSh W 0 A1 r.field.length r.field) => specIsValidConsole_any r.clock r.closed l A1 r.field.length c1 r.field W h hn8 HI.out hl)
 rw [hvb] at CV1 CV2
 replace CI := Lib.hid CI
 replace CS := Lib.hid CS
 replace CV1 := Lib.hid CV1
 replace CV2 := Lib.hid CV2
 have hzl := hl
 clear hD HX hvb M U b1 hA hg hm
 go_upto_region 4 with fail
 generalize w1.alloc _ = w2 at *
 generalize w1.heap.size = gb at *
 have cm := B.cell
 go_wp2_with fail
 refine (CI.out w2 X K).mono ?_
 rintro e w3 ⟨A2, c2, rfl, X1, b9⟩
 clear cm
 replace X1 := X1.sees
 replace B := B.next b9
 replace X := X.next b9
 replace K := jaa K b9
 clear b9
 have b9 := nB w3 (.cells #[D.race.clock, D.race.closed, .slice A2 D.race.field.length c2, D.log.durable, D.log.pending, D.log.count] 35)
 have B1 := nP w3 [D.race.clock, D.race.closed, .slice A2 D.race.field.length c2, D.log.durable, D.log.pending, D.log.count] 35
 replace B := B.next b9
 replace X := X.next b9
 replace X1 := X1.next b9
 replace K := jaa K b9
 clear b9
 go_upto_region 5 with fail
 generalize w3.alloc _ = w4 at *
 generalize w3.heap.size = g1 at *
 have cm := B.cell
 go_wp2_with fail
 refine (CS.out w4 X).mono ?_
 rintro e w5 ⟨A3, c3, rfl, X2, b9⟩
 clear cm CI CS
 replace X2 := X2.sees
 replace B := B.next b9
 replace X := X.next b9
 replace B1 := B1.next b9
 replace X1 := X1.next b9
 replace K := jaa K b9
 clear b9
 have b9 := nB w5 (.cells #[D.race.clock, D.race.closed, .slice A3 D.race.field.length c3, D.log.durable, D.log.pending, D.log.count] 35)
 have B2 := nP w5 [D.race.clock, D.race.closed, .slice A3 D.race.field.length c3, D.log.durable, D.log.pending, D.log.count] 35
 replace B := B.next b9
 replace X := X.next b9
 replace B1 := B1.next b9
 replace X1 := X1.next b9
 replace X2 := X2.next b9
 replace K := jaa K b9
 clear b9
 go_upto_region 6 with fail
 generalize w5.alloc _ = w6 at *
 generalize w5.heap.size = g2 at *
 have b9 := (Quiet.one w6).below w6.heap.size
 replace B := B.next b9
 replace X := X.next b9
 replace B1 := B1.next b9
 replace X1 := X1.next b9
 replace B2 := B2.next b9
 replace X2 := X2.next b9
 have Kq := jaa K b9
 clear K b9
 have cb := B.cell
 have c1' := B1.cell
 have c2' := B2.cell
 have e1 : (D.reply.toList != D.reply.toList) = false := bne_self_eq_false _
 have e2 : (vb != vb) = false := bne_self_eq_false _
 go_region_held3 (fun w' => w'.cell? ⟨gb, 0, none⟩ = some (.int .i64 r.clock) ∧ w'.cell? ⟨gb, 1, none⟩ = some (.bool r.closed) ∧ w'.cell? ⟨gb, 2, none⟩ = some (.slice A1 r.field.length c1) ∧ w'.cell? ⟨gb, 3, none⟩ = some (.string l.durable) ∧ w'.cell? ⟨gb, 4, none⟩ = some (.string l.pending) ∧ w'.cell? ⟨gb, 5, none⟩ = some (.int .i64 l.count) ∧ w'.cell? ⟨g1, 0, none⟩ = some (.int .i64 D.race.clock) ∧ w'.cell? ⟨g1, 1, none⟩ = some (.bool D.race.closed) ∧ w'.cell? ⟨g1, 2, none⟩ = some (.slice A2 D.race.field.length c2) ∧ w'.cell? ⟨g1, 3, none⟩ = some (.string D.log.durable) ∧ w'.cell? ⟨g1, 4, none⟩ = some (.string D.log.pending) ∧ w'.cell? ⟨g1, 5, none⟩ = some (.int .i64 D.log.count) ∧ w'.cell? ⟨g2, 0, none⟩ = some (.int .i64 D.race.clock) ∧ w'.cell? ⟨g2, 1, none⟩ = some (.bool D.race.closed) ∧ w'.cell? ⟨g2, 2, none⟩ = some (.slice A3 D.race.field.length c3) ∧ w'.cell? ⟨g2, 3, none⟩ = some (.string D.log.durable) ∧ w'.cell? ⟨g2, 4, none⟩ = some (.string D.log.pending) ∧ w'.cell? ⟨g2, 5, none⟩ = some (.int .i64 D.log.count)) (go_keep)
  (first
    | (go_at_call 28
       refine (jrh D.race.clock D.race.closed D.log A2 A3 _ _ _ D.race.field _ X1 X2 hd8 HID.out).mono ?_
       rintro e w9 ⟨rfl, b9⟩
       replace Kq := jaa Kq b9
       clear cb c1' c2'
       replace B := B.next b9
       replace X := X.next b9
       replace B1 := B1.next b9
       replace X1 := X1.next b9
       replace B2 := B2.next b9
       replace X2 := X2.next b9
       clear b9
       have cb := B.cell
       have c1' := B1.cell
       have c2' := B2.cell)
    | (go_at_call 35
       refine (CV1.out _ X Kq).mono ?_
       rintro e w9 ⟨rfl, b9⟩
       replace Kq := jaa Kq b9
       clear cb c1' c2'
       replace B := B.next b9
       replace X := X.next b9
       replace B1 := B1.next b9
       replace X1 := X1.next b9
       replace B2 := B2.next b9
       replace X2 := X2.next b9
       clear b9
       have cb := B.cell
       have c1' := B1.cell
       have c2' := B2.cell)
    | (go_at_call 36
       refine (CV2.out _ X).mono ?_
       rintro e w9 ⟨rfl, b9⟩
       replace Kq := jaa Kq b9
       clear cb c1' c2'
       replace B := B.next b9
       replace X := X.next b9
       replace B1 := B1.next b9
       replace X1 := X1.next b9
       replace B2 := B2.next b9
       replace X2 := X2.next b9
       clear b9
       have cb := B.cell
       have c1' := B1.cell
       have c2' := B2.cell))
 clear c2' X2 B2 e1 e2 CV1 CV2 cb c1'
 have K := Kq
 clear Kq
 obtain ⟨wq, rfl⟩ : ∃ z : World, z = w9 := ⟨_, rfl⟩
 rcases HCASE.out with ⟨hr, hlg, hrep⟩ | ⟨hg1, hv1, -, hg2, hv2, hcnt, hrecs, hrb, h60, -, hlog⟩
 ·clear HCASE hsd hld
  obtain ⟨rD, lD, qD⟩ := D
  dsimp only at hr hlg hrep B1 X1 hd8 HID
  subst hr
  subst hlg
  have e1 : (lD.durable.toList == lD.durable.toList) = true := beq_self_eq_true _
  have e2 : (lD.pending.toList == lD.pending.toList) = true := beq_self_eq_true _
  have cb := B.cell
  have c1' := B1.cell
  have hrp := Lib.hid hrep
  clear hrep
  go_upto_region 9 with fail
  go_wp2_with fail
  refine (jrh rD.clock rD.closed lD A2 A1 _ _ _ rD.field _ X1 X hd8 HID.out).mono ?_
  rintro e wk ⟨rfl, b9⟩
  replace K := jaa K b9
  rcases hrp.out with rfl | rfl | rfl
  ·go_wp2_with fail
   go_ret
   exact ⟨rfl, K⟩
  ·go_wp2_with fail
   go_ret
   exact ⟨rfl, K⟩
  ·go_wp2_with fail
   go_ret
   exact ⟨rfl, K⟩
 ·have eC : (D.log.count == l.count) = false := beq_eq_false_iff_ne.2 (by omega)
  have hgv : (jbf D.race.clock D.race.closed D.race.field && ja9 D.log) = true := by
   have h9 : jbf D.race.clock D.race.closed D.race.field = true := hg2
   rw [h9, hv2]; rfl
  have hlc := jg4 hv1
  obtain ⟨rs, hrs⟩ : ∃ rs, (jre l).1 = rs := ⟨_, rfl⟩
  have hq := jsq hv1
  rw [hrs] at hrecs hq
  obtain ⟨q, hq0⟩ : ∃ q, rs.length = q := ⟨_, rfl⟩
  rw [hq0] at hq
  have hlen : (rs ++ [⟨s, D.reply⟩] : List LogRecord).length = q + 1 := by simp [hq0]
  have CL := (fun W (h : Gl W) => jrr D.log W hld h)
  unfold jsy at CL
  rw [jtc, hv2, hrecs, hlen] at CL
  have CLH := Lib.hid CL
  have CV3 := (fun W (h : SeesN entrantSh W 0 A2 D.race.field.length D.race.field) (hk : Below w.heap.size w W) => IsValidConsole_any D.race.clock D.race.closed D.log A2 D.race.field.length c2 D.race.field W h hd8 HID.out hld (HG.out W hk).gl)
  rw [hgv] at CV3
  have CVH := Lib.hid CV3
  have hge : ∀ (h : q < (rs ++ [⟨s, D.reply⟩] : List LogRecord).length), (rs ++ [⟨s, D.reply⟩] : List LogRecord)[q]'h = ⟨s, D.reply⟩ := by
   subst hq0
   intro h
   simp
  have eN1 : (((q + 1 : Nat) : Int) == l.count + 1) = true := beq_iff_eq.2 (by omega)
  have eN2 : ((q : Int) + 1 == l.count + 1) = true := beq_iff_eq.2 (by omega)
  have hl0 : 0 ≤ l.count ∧ l.count ≤ 60 := ⟨hlc.1, hlc.2.1⟩
  have hq60 : q ≤ 60 := by omega
  clear CL CV3 hlen hq0 hrs hcnt hlog hrecs hrb h60 hv1 hv2 hg1 hg2 hgv HCASE hlc hsd
  have HQ := Lib.hid hq
  clear hq
  have cb := B.cell
  have c1' := B1.cell
  go_upto_region 10 with fail
  go_wp2_with fail
  refine (CLH.out wq (HG.out wq K).gl).mono ?_
  rintro e wk ⟨A4, c4, rfl, O4, b9⟩
  clear cb c1' eC CLH
  replace B := B.next b9
  replace B1 := B1.next b9
  replace X1 := X1.next b9
  replace K := jaa K b9
  clear b9
  obtain ⟨b4, o4, rfl, hkx, x0, x1⟩ := (Sees.of_own O4).recd (k := q) (Nat.lt_succ_self q)
  rw [hge] at x0 x1
  have x0' : wk.cell? ⟨b4, o4 + q * 2, none⟩ = some (.string s) := x0
  have x1' : wk.cell? ⟨b4, o4 + q * 2 + 1, none⟩ = some (.string D.reply) := x1
  clear O4 hge x0 x1 hkx
  have cb := B.cell
  have c1' := B1.cell
  go_wp2_with fail
  refine (CVH.out wk X1 K).mono ?_
  rintro e wn ⟨rfl, b9⟩
  clear cb c1'
  have x0 := (b9.cell (p := ⟨b4, o4 + q * 2, none⟩) (World.block_lt_of_cell? _ _ x0')).trans x0'
  have x1 := (b9.cell (p := ⟨b4, o4 + q * 2 + 1, none⟩) (World.block_lt_of_cell? _ _ x1')).trans x1'
  replace B := B.next b9
  replace K := jaa K b9
  clear b9 x0' x1' CVH
  have cb := B.cell
  have e3 : (s.toList == s.toList) = true := beq_self_eq_true _
  have e4 : (D.reply.toList == D.reply.toList) = true := beq_self_eq_true _
  go_wp2_with fail
  go_ret
  exact ⟨rfl, K⟩
end Go.Proofs.YtflpcdffmpfdpaaGreatDoor
namespace Go.Proofs.YtflpcdffmpfdpaaGreatDoor
open Go.ChangeShapes Go.WideShapes Go.ChangeAt Go.RowKit Go.Deep

section
variable {H : Type} {enc : TypeId × Value → H} {P : Program} {w : World} {base : Nat} {spare : Nat → Bool} {held : Bool}

theorem jrs {α : Type} [Inhabited α] {E : α → List Value} {s : Nat} {t e : TypeId} {fuel : Nat} {cs : List Value} {x : DataW H × List MemPlace}
  (ht : P.underlying t = some (.slice e)) (hC : P.cellsOf e = s) (hs : 0 < s) (hlen : ∀ d, (E d).length = s)
  (helem : ∀ n cs x, DataW.trod enc P w base spare held n e cs = some x → ∃ d : α, cs = E d)
  (h : DataW.trod enc P w base spare held fuel t cs = some x) :
  ∃ (A : Option Addr) (n c : Nat) (ds : List α), cs = [.slice A n c] ∧ n ≤ 9223372036854775807 ∧ Sees w base s A n (ds.flatMap E) := by
 rcases open_slice ht h with ⟨hcs, _⟩ | ⟨a, len, cap, m, n, D, Pl, hcs, hb, hl, hm, hmm, hx, hi⟩
 ·exact ⟨none, 0, 0, [], hcs, by omega, Sees.nil _ _ _ _⟩
 ·have hlm : len ≤ m := by rw [hmm]; split <;> omega
  have hex : ∀ i, i < len → ∃ d : α, ∀ j u, (E d)[j]? = some u → w.cell? (a.add (i * s + j)) = some u := by
   intro i hil
   obtain ⟨cs', hc, ht'⟩ := hi i (by omega)
   obtain ⟨d, rfl⟩ := helem _ _ _ ht'
   obtain ⟨_, hcl, hat⟩ := World.cells?_some hc
   refine ⟨d, fun j u hu => ?_⟩
   have hj : j < (E d).length := (List.getElem?_eq_some_iff.1 hu).1
   rw [← hu, ← hat j (by rw [← hcl]; exact hj), hC, Go.Deep.add_add]
  obtain ⟨f, hf⟩ := choose_lt hex
  have hl2 : ((List.range len).map f).length = len := by simp
  refine ⟨some a, len, cap, (List.range len).map f, hcs, by unfold maxLen at hm; omega, ?_, fun hn => ?_⟩
  ·rw [jak _ (fun d _ => hlen d), hl2]
  ·obtain ⟨b, off, spot⟩ := a
   have hlie : ∀ j u, (((List.range len).map f).flatMap E)[j]? = some u → w.cell? ((⟨b, off, spot⟩ : Addr).add j) = some u := by
    intro j u hu
    have hj := (List.getElem?_eq_some_iff.1 hu).1
    rw [jak _ (fun d _ => hlen d), hl2] at hj
    have hq : j / s < len := Nat.div_lt_of_lt_mul (by rw [Nat.mul_comm]; exact hj)
    have hr : j % s < s := Nat.mod_lt _ hs
    have hjj : j / s * s + j % s = j := by rw [Nat.mul_comm]; exact Nat.div_add_mod j s
    have h1 := jds (f := E) ((List.range len).map f) (fun d _ => hlen d) (j / s) (j % s) (by rw [hl2]; exact hq) hr
    rw [hjj, hu] at h1
    have h2 := hf (j / s) hq (j % s) u (by simpa using h1.symm)
    rwa [hjj] at h2
   have h0 : 0 < (((List.range len).map f).flatMap E).length := by
    rw [jak _ (fun d _ => hlen d), hl2]
    exact Nat.mul_pos hn hs
   have hc0 := hlie 0 _ (List.getElem?_eq_getElem h0)
   have hsp : spot = none := by simpa [Addr.add] using World.cell?_spot hc0
   subst hsp
   refine ⟨b, off, rfl, hb, by simpa [Addr.add] using World.block_lt_of_cell? w _ hc0, fun j u hu => ?_⟩
   have hadd : (⟨b, off, none⟩ : Addr).add j = ⟨b, off + j, none⟩ := by unfold Addr.add; split <;> simp_all
   have := hlie j u hu
   rwa [hadd] at this

end
end Go.Proofs.YtflpcdffmpfdpaaGreatDoor
namespace Go.Proofs.YtflpcdffmpfdpaaGreatDoor
open Go.ChangeShapes Go.WideShapes Go.ChangeAt Go.RowKit Go.Deep

section
variable {H : Type} {enc : TypeId × Value → H} {P : Program} {w : World} {base : Nat} {spare : Nat → Bool} {held : Bool}
theorem jrk {α : Type} {Q : α → Prop} (d0 : α) (h0 : Q d0) {E : α → List Value} {s : Nat} {t e : TypeId} {fuel : Nat} {cs : List Value} {x : DataW H × List MemPlace}
  (ht : P.underlying t = some (.slice e)) (hC : P.cellsOf e = s) (hs : 0 < s) (hlen : ∀ d, (E d).length = s)
  (helem : ∀ n cs x, DataW.trod enc P w base spare held n e cs = some x → ∃ d : α, cs = E d ∧ Q d)
  (h : DataW.trod enc P w base spare held fuel t cs = some x) :
  ∃ (A : Option Addr) (n c : Nat) (ds : List α), cs = [.slice A n c] ∧ n ≤ 9223372036854775807 ∧ Sees w base s A n (ds.flatMap E) ∧ ∀ d ∈ ds, Q d := by
 haveI : Inhabited {d : α // Q d} := ⟨⟨d0, h0⟩⟩
 obtain ⟨A, n, c, ds, h1, h2, h3⟩ := jrs (α := {d : α // Q d}) (E := fun d => E d.1) ht hC hs (fun d => hlen d.1) (fun n cs x h => by
  obtain ⟨d, hd, hq⟩ := helem n cs x h
  exact ⟨⟨d, hq⟩, hd⟩) h
 refine ⟨A, n, c, ds.map Subtype.val, h1, h2, by rw [List.flatMap_map]; exact h3, fun d hd => ?_⟩
 obtain ⟨x, _, rfl⟩ := List.mem_map.1 hd
 exact x.2
end

end Go.Proofs.YtflpcdffmpfdpaaGreatDoor
namespace Go.Proofs.YtflpcdffmpfdpaaGreatDoor
open Go.ChangeShapes Go.WideShapes Go.ChangeAt Go.RowKit Go.Deep
theorem jr6 : ownKnob Tryz.prog.godebug = none := by kernel_rfl
theorem jr5 : laidOutB Tryz.prog = true := by kernel_rfl
section
variable {H : Type} {enc : TypeId × Value → H} {w : World} {base : Nat} {spare : Nat → Bool} {held : Bool}
end
end Go.Proofs.YtflpcdffmpfdpaaGreatDoor
namespace Go.Proofs.YtflpcdffmpfdpaaGreatDoor
open Go.ChangeShapes Go.WideShapes Go.ChangeAt Go.RowKit Go.Deep
section
variable {H : Type} {enc : TypeId × Value → H} {w : World} {spare : Nat → Bool} {held : Bool}
theorem jsk : Tryz.prog.cellsOf 5 = 1 := by kernel_rfl
theorem js8 {fuel : Nat} {cs : List Value} {x : DataW H × List MemPlace} (h : DataW.trod enc Tryz.prog w 0 spare held fuel 47 cs = some x) : ∃ (A : Option Addr) (n c : Nat), cs = [.slice A n c] ∧ n ≤ 9223372036854775807 ∧ CodeIn w A n := by
 obtain ⟨A, n, c, ds, h1, h2, h3, h4⟩ := jrk (α := Int) (Q := fun u => 0 ≤ u ∧ u ≤ 255) 0 ⟨by decide, by decide⟩ (E := fun u => [Value.int .u8 u]) Tryz.underlying47 jsk (by decide) (fun _ => rfl) (fun n cs x h => by
  obtain ⟨d, hd, _, hw⟩ := DataW.trod_int Tryz.underlying5 h
  refine ⟨d, hd, ?_⟩
  simp [Lit.wf, IntKind.bits, IntKind.signed, IntKind.min, IntKind.max] at hw
  omega) h
 refine ⟨A, n, c, h1, h2, fun hn => ?_⟩
 have hl := h3.count (by decide) (fun _ => rfl)
 obtain ⟨b, off, e, _, hb, hlie⟩ := h3.at' hn
 refine ⟨b, off, e, hb, fun j hj => ?_⟩
 have hj' : j < ds.length := by omega
 refine ⟨ds[j], hlie j _ ?_, h4 _ (List.getElem_mem hj')⟩
 have := jds (f := fun u => [Value.int .u8 u]) ds (s := 1) (fun _ _ => rfl) j 0 hj' (by decide)
 simpa using this
end
end Go.Proofs.YtflpcdffmpfdpaaGreatDoor
namespace Go.Proofs.YtflpcdffmpfdpaaGreatDoor
open Go.ChangeShapes Go.WideShapes Go.ChangeAt Go.RowKit

theorem jtb {α β γ : Type} {o : Option (α × List β × γ)} (h : (o.any fun x => x.2.1.isEmpty) = true) : ∃ a c, o = some (a, [], c) := by
 match o, h with
 | some (a, [], c), _ => exact ⟨a, c, rfl⟩
theorem tPowK : (Tryz.prog.globals[1]?).map (·.type) = some 237 := by kernel_rfl
theorem dPowK : (Rows.laid_internal_strconv_uint64pow10 : DataW Unit) = Lib.tabData .u64 Lib.pow10Tab := by kernel_rfl
theorem gESK : Tryz.prog.globalNamed "strconv.ErrSyntax" = some 2 := by kernel_rfl
theorem jto : (Tryz.prog.globals[2]?).map (·.type) = some 169 := by kernel_rfl
theorem starK : "*" ++ "errors.errorString" = "*errors.errorString" := by decide
theorem rowESK (u : TypeId) (h : Tryz.prog.typeName? 3 u = some "*errors.errorString") : u = 261 :=
 typeName_ptr_named (nm := "errors.errorString") (by rw [starK]; kernel_rfl) (by kernel_rfl) (by decide) u (by rw [starK]; exact h)
theorem jtl : Tryz.prog.cellsOf 263 = 1 := by kernel_rfl
theorem js1 : Tryz.prog.cellsOf 9 = 1 := by kernel_rfl
theorem jsc {W : World} (hL : laidMetH Tryz.prog [("math/bits.deBruijn32tab", Rows.laid_math_bits_deBruijn32tab), ("math/bits.deBruijn64tab", Rows.laid_math_bits_deBruijn64tab), ("internal/strconv.uint64pow10", Rows.laid_internal_strconv_uint64pow10), ("unicode/utf8.acceptRanges", Rows.laid_unicode_utf8_acceptRanges), ("strconv.ErrRange", Rows.laid_strconv_ErrRange), ("strconv.ErrSyntax", Rows.laid_strconv_ErrSyntax), ("unicode/utf8.first", Rows.laid_unicode_utf8_first)] W) (hsh : W.ShapedOpen Tryz.prog) : GlE W := by
 have hml : ∃ m, W.cell? ⟨0, 0, none⟩ = some (.int .i64 m) := Go.Proofs.cell_of_shapedOpen_int (zero := #[.int .i64 0]) (t := 3) hsh (of_decide_eq_true (by kernel_rfl)) (by kernel_rfl) rfl (by kernel_rfl) (by kernel_rfl) Tryz.underlying3
 rw [MakeChecks.laidMetH_plain _ _ _ (by kernel_rfl)] at hL
 have hL2 := hL
 obtain ⟨ps, ⟨g0, t0, cs0, f0, p0, q0, hg0, ht0, hv0, hd0, ⟨g1, t1, cs1, f1, p1, q1, hg1, ht1, hv1, hd1, ⟨g2, t2, cs2, f2, p2, q2, hg2, ht2, hv2, hd2, _, _⟩, _⟩, _⟩, _, _⟩ := hL
 obtain ⟨a0, s0, hv9, -, -, -⟩ := laid_sentinel hL2.tail.tail.tail.tail.tail gESK jto Tryz.underlying169 rowESK Tryz.underlying261 Tryz.underlying263 rfl rfl Tryz.underlying9 jtl js1
 refine ⟨⟨?_, hml⟩, ⟨_, by have h0 := World.var?_cell gESK hv9 0; simpa using h0, Or.inr ⟨_, _, rfl⟩⟩⟩
 obtain rfl := Option.some.inj (gPow.symm.trans hg2)
 obtain rfl := Option.some.inj (tPowK.symm.trans ht2)
 rw [dPowK] at hd2
 unfold Lib.TabIs
 rw [hv2, ← Lib.cells_of_tab Tryz.underlying237 Tryz.underlying86 (by kernel_rfl) (by kernel_rfl) hd2]

end Go.Proofs.YtflpcdffmpfdpaaGreatDoor
