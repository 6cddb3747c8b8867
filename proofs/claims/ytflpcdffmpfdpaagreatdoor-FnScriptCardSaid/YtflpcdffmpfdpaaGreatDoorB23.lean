/- Joined texts of this proof: CmdC, Store6, ConV. -/
import Derived.Deep.CutRange
import Derived.Test.YtflpcdffmpfdpaaGreatDoorB21
import Derived.Test.YtflpcdffmpfdpaaGreatDoorB22
import Derived.Test.YtflpcdffmpfdpaaGreatDoorB06
import Derived.Test.YtflpcdffmpfdpaaGreatDoorB20
set_option maxRecDepth 100000
set_option maxHeartbeats 8000000
namespace Go.Proofs.YtflpcdffmpfdpaaGreatDoor
open Go.RowKit
def jh4 (w : World) (bp : Nat) (S : Nat → Prop) (l : Log) (R : RaceV × Option ByteArray) (e : Ending) (w' : World) : Prop :=
 ∃ (p : ByteArray) (A : Option Addr) (c : Nat), e = .returned (.tuple #[.string p, .bool R.2.isSome]) ∧ (∀ q, R.2 = some q → p = q) ∧ Blk w' bp 35 [.int .i64 R.1.clock, .bool R.1.closed, .slice A R.1.field.length c, .string l.durable, .string l.pending, .int .i64 l.count] ∧ MineN entrantSh w' (fun b => S b ∨ (w.heap.size ≤ b ∧ b < w'.heap.size)) 108 188 A R.1.field.length c R.1.field ∧ Only (fun z => z = bp) w w'
theorem jb3 {w w' : World} {bp : Nat} {S : Nat → Prop} {t : Int} {cl : Bool} {l : Log} {A : Option Addr} {n c : Nat} {xs : List Entrant} {p : ByteArray} (P : Blk w' bp 35 [.int .i64 t, .bool cl, .slice A n c, .string l.durable, .string l.pending, .int .i64 l.count]) (hM : MineN entrantSh w' S 108 188 A n c xs) (K : Below w.heap.size w w') : jh4 w bp S l (⟨t, cl, xs⟩, none) (.returned (.tuple #[.string p, .bool false])) w' := by
 have hl := hM.count
 subst hl
 exact ⟨p, A, c, rfl, fun q h => (by cases h), P, hM.wide (fun b hb => Or.inl hb), Only.of_below K⟩
theorem ji0 {w w' : World} {bp : Nat} {S : Nat → Prop} {t : Int} {cl : Bool} {l : Log} {A : Option Addr} {n c : Nat} {xs : List Entrant} {p : ByteArray} {o : Option ByteArray} (P : Blk w' bp 35 [.int .i64 t, .bool cl, .slice A n c, .string l.durable, .string l.pending, .int .i64 l.count]) (hM : MineN entrantSh w' S 108 188 A n c xs) (K : Below w.heap.size w w') (hp : ∀ q, o = some q → p = q) : jh4 w bp S l (⟨t, cl, xs⟩, o) (.returned (.tuple #[.string p, .bool o.isSome])) w' := by
 have hl := hM.count
 subst hl
 exact ⟨p, A, c, rfl, hp, P, hM.wide (fun b hb => Or.inl hb), Only.of_below K⟩
theorem jfh {r r2 : RaceV} {k e v : Int} (h : jdh r k e v = some r2) (hk : k = 3 ∨ k = 4) : 0 ≤ e ∧ e < (r2.field.length : Int) := by
 unfold jdh at h
 split at h
 ·unfold jba at h
  rw [if_neg (by omega), if_neg (by omega)] at h
  by_cases hr : 0 ≤ e ∧ e < (r.field.length : Int)
  ·obtain ⟨i, hi⟩ : ∃ i : Nat, e = i := ⟨e.toNat, by omega⟩
   have hil : i < r.field.length := by omega
   rw [jfa hi hil] at h
   cases hy : jb6 r.clock e r.field[i] k v with
   | none => rw [hy] at h; cases h
   | some y =>
    rw [hy] at h
    injection h with h
    subst h
    show 0 ≤ e ∧ e < ((r.field.set i y).length : Int)
    rw [List.length_set]
    exact hr
  ·rw [jfm hr] at h
   cases h
 ·cases h
theorem jiw {w : World} {lo n g k : Nat} {L : List ByteArray} (h : Sees w lo 1 (some ⟨g, 0, none⟩) n (jkz L)) (hk : k < n) : ∃ hx : k < L.length, w.cell? ⟨g, k, none⟩ = some (.string L[k]) := by
 have hl : L.length = n := by have := h.len; simpa [jkz] using this
 obtain ⟨b, off, u, e, hb, _, hu, hc⟩ := h.one hk
 injection e with e
 injection e with e1 e2
 subst e1 e2
 have hx : k < L.length := by omega
 rw [show (jkz L)[k]? = some (.string L[k]) by simp [jkz, hx]] at hu
 injection hu with hu
 subst hu
 exact ⟨hx, by rw [Nat.zero_add] at hc; exact hc⟩
theorem jh6 (lo bp : Nat) (S : Nat → Prop) (t : Int) (cl : Bool) (l : Log) (A : Option Addr) (n c : Nat) (xs : List Entrant) (line : ByteArray) (w : World) (P : Blk w bp 35 [.int .i64 t, .bool cl, .slice A n c, .string l.durable, .string l.pending, .int .i64 l.count]) (hM : MineN entrantSh w S 108 188 A n c xs) (hS : ∀ b, S b → b ≠ bp ∧ b < w.heap.size) (hg : ja0 ⟨t, cl, xs⟩ = true) (hs : line.size ≤ 1000) (hlo : lo ≤ bp) (hlw : lo ≤ w.heap.size) (HGL : ∀ W, Below lo w W → GlE W) :
  Calls Tryz.prog 49 #[.pointer (some ⟨bp, 0, none⟩), .string line] w (jh4 w bp S l (jbl ⟨t, cl, xs⟩ line)) := by
 have hbp0 := P.lt
 obtain ⟨ht0, ht1, hn1, hn8, -⟩ := jam hg
 have hlp := jjr 32 line
 have hll := jgt 32 line
 obtain ⟨L, hL⟩ : ∃ L, jbb 32 line = L := ⟨_, rfl⟩
 have HG := Lib.hid (fun W (h : Below lo w W) => HGL W h)
 have HS := Lib.hid (jpq line 32 w (by omega) (HGL w (Below.refl _ _)).gl)
 clear HGL
 rw [hL] at hlp hll HS
 have HPC := Lib.hid (show ∀ x ∈ L, x.size ≤ 1000 from fun x hx => by have := jg5 32 line (x := x) (by rw [hL]; exact hx); omega)
 obtain ⟨h0, rest, rfl⟩ : ∃ h0 rest, L = h0 :: rest := by
  cases L with
  | nil => simp at hlp
  | cons a r => exact ⟨a, r, rfl⟩
 obtain ⟨N, hN⟩ : ∃ N, (h0 :: rest).length = N := ⟨_, rfl⟩
 have HR0 := Lib.hid (show jbl ⟨t, cl, xs⟩ line = if (jaz (cmK h0)).2.2 = true ∧ inB ((N : Int) - 1) (jaz (cmK h0)).1 (jaz (cmK h0)).2.1 = true then (match jao rest with | none => (⟨t, cl, xs⟩, none) | some ys => jop ⟨t, cl, xs⟩ (cmK h0) ys) else (⟨t, cl, xs⟩, none) by
  unfold jbl
  rw [hL]
  show (if (jaz (cmK h0)).2.2 = true ∧ inB (((h0 :: rest).length : Int) - 1) _ _ = true then _ else _) = _
  rw [hN]
  rfl)
 have hrl : rest.length + 1 = N := by rw [← hN]; rfl
 have HRL := Lib.hid hrl
 obtain ⟨a1, ha1⟩ : ∃ a, (jaz (cmK h0)).1 = a := ⟨_, rfl⟩
 obtain ⟨a2, ha2⟩ : ∃ a, (jaz (cmK h0)).2.1 = a := ⟨_, rfl⟩
 obtain ⟨kn, hkn⟩ : ∃ a, (jaz (cmK h0)).2.2 = a := ⟨_, rfl⟩
 have HAR := Lib.hid (jh8 h0)
 rw [ha1, ha2, hkn] at HR0 HAR
 obtain ⟨ib, hib⟩ : ∃ ib, inB ((N : Int) - 1) a1 a2 = ib := ⟨_, rfl⟩
 rw [hib] at HR0
 have HIB := Lib.hid hib
 have HIB2 := Lib.hid (show inB (IntKind.i64.wrap ((N : Int) - 1)) a1 a2 = ib by rw [IntWalk.i64_in _ (by omega)]; exact hib)
 have HA1 := Lib.hid ha1
 have HKN := Lib.hid hkn
 have hN1 : 1 ≤ N := by omega
 have hN2 : N ≤ 1001 := by rw [← hN]; omega
 unfold jgf at HS
 rw [hN] at HS
 clear ha1 ha2 hkn hib hlp hll hL hN hrl
 go_enter Tryz.func49, Tryz.ntmps49
 go_wp2_with fail
 refine HS.out.mono ?_
 rintro e9 w1 ⟨A1, c1, rfl, o1, b1⟩
 clear HS
 rcases jby o1 with ⟨-, hz, -, -⟩ | ⟨gw, cur, rfl, hgb, hB, hcl, hnc, hcm, htk⟩
 ·omega
 have hgt := hB.lt
 have hW := Sees.of_own o1
 have K1 := b1
 replace P := P.next b1
 replace hM := hM.next b1
 have hbp := P.lt
 obtain ⟨hx0, x0⟩ := jiw hW (show 0 < N by omega)
 replace x0 : w1.cell? ⟨gw, 0, none⟩ = some (.string h0) := x0
 have hz1 := b1.size
 clear hB hcl htk o1 b1 hx0
 have hNz : (0 : Int) < (N : Int) := by omega
 have hNn : 0 < N := by omega
 go_wp2_with fail
 refine (HAR.out _).mono ?_
 rintro e9 w9 ⟨rfl, rfl⟩
 clear HAR
 cases kn
 ·have HR := Lib.hid (show jbl ⟨t, cl, xs⟩ line = (⟨t, cl, xs⟩, none) by rw [HR0.out]; rfl)
  go_wp2_with fail
  go_ret2
  rw [HR.out]
  exact jb3 P hM K1
 cases ib
 ·have HR := Lib.hid (show jbl ⟨t, cl, xs⟩ line = (⟨t, cl, xs⟩, none) by rw [HR0.out]; rfl)
  go_wp2_with (go_at_call 70; refine (jaf _ _ _ _).mono ?_; (first | rw [HIB.out] | rw [HIB2.out]); rintro e9 w9 ⟨rfl, rfl⟩)
  go_ret2
  rw [HR.out]
  exact jb3 P hM K1
 have HR1 := Lib.hid (show jbl ⟨t, cl, xs⟩ line = match jao rest with | none => (⟨t, cl, xs⟩, none) | some ys => jop ⟨t, cl, xs⟩ (cmK h0) ys by rw [HR0.out]; rfl)
 clear HR0
 have hN3 : (1 : Int) ≤ (N : Int) := by omega
 have hc3 : (N : Int) ≤ (c1 : Int) := by omega
 obtain ⟨q, hq⟩ : ∃ q, rest.length = q := ⟨_, rfl⟩
 have hqN : q + 1 = N := by rw [← hq]; exact HRL.out
 have HQN := Lib.hid hqN
 have HQ := Lib.hid hq
 have HQ1 := Lib.hid (show N - 1 = q by omega)
 have hq1 : q ≤ 1000 := by omega
 clear hq hqN
 have u2 := ja4 w1 3 1
 have U := nB w1 (.cells #[] 3)
 have hz2 := nZ w1 (.cells #[] 3)
 go_upto_region 6 with (go_at_call 70; refine (jaf _ _ _ _).mono ?_; (first | rw [HIB.out] | rw [HIB2.out]); rintro e9 w9 ⟨rfl, rfl⟩)
 clear x0
 generalize w1.alloc _ = w2 at *
 go_cut [42, 43, 44] from 41 to 41 (fun s42 s43 s44 wr => ∃ (A2 : Option Addr) (c2 : Nat), s42 = .slice A2 q c2 ∧ s43 = .int .i64 (q : Int) ∧ s44 = .int .i64 0 ∧ (0 < q → A2 = some ⟨gw, 1, none⟩) ∧ wr = w2)
 case first =>
  by_cases hc1 : c1 = 1
  ·subst hc1
   obtain rfl : q = 0 := by have := HQ1.out; omega
   go_wp2_with fail
   go_meet
   exact ⟨_, 0, rfl, rfl, rfl, fun h => absurd h (by omega), rfl⟩
  ·go_wp2_with fail
   go_meet
   exact ⟨_, _, by rw [HQ1.out], by rw [HQ1.out], rfl, fun _ => rfl, rfl⟩
 case rest =>
  obtain ⟨A2, c2, rfl, rfl, rfl, hA2, rfl⟩ := hcut
  go_wp2_with fail
  go_loopw [10, 44] (fun v iv wr => ∃ (k : Nat) (A' : Option Addr) (c' : Nat) (ys : List Int), k ≤ q ∧ iv = .int .i64 (k : Int) ∧ v = .slice A' k c' ∧ wr.ownsRow w1.heap.size 3 1 (.slice A' k c') k (jb4 ys) ∧ Hid (jao (rest.take k) = some ys) ∧ Below w1.heap.size w1 wr) (fun _ iv _ => q - (intOf iv).toNat)
  case atStart => exact ⟨0, _, 0, [], Nat.zero_le _, rfl, rfl, u2, Lib.hid rfl, U⟩
  case round =>
   obtain ⟨k, A', c', ys, hk, rfl, rfl, own, HY, KB⟩ := hrel
   clear u2 U
   have hzr := KB.size
   by_cases hlt : k < q
   ·have hlt1 : (k : Int) < (q : Int) := by omega
    obtain rfl := hA2 (by omega)
    have hkr : k < rest.length := by rw [HQ.out]; exact hlt
    obtain ⟨hx1, x1⟩ := jiw (hW.next KB) (show k + 1 < N by have := HQN.out; omega)
    replace x1 : wr.cell? ⟨gw, k + 1, none⟩ = some (.string rest[k]) := x1
    have HSZ := HPC.out rest[k] (List.mem_cons_of_mem _ (List.getElem_mem hkr))
    have HTK := Lib.hid (show rest.take (k + 1) = rest.take k ++ [rest[k]] from List.take_succ_eq_append_getElem hkr)
    have HMM := Lib.hid (List.getElem_mem hkr)
    obtain ⟨wd, hwd⟩ : ∃ wd, rest[k] = wd := ⟨_, rfl⟩
    rw [hwd] at x1 HSZ HTK HMM
    rw [Nat.add_comm k 1] at x1
    have hgz := HG.out wr ((jaa K1 KB).mono hlw)
    clear hwd hx1
    obtain ⟨R, hR⟩ : ∃ R, ja1 wd = R := ⟨_, rfl⟩
    have CC := Lib.hid (jmg wd wr (by omega) hgz)
    rw [hR] at CC
    have HRP := Lib.hid hR
    clear hR hgz HSZ
    go_wp2_with fail
    refine CC.out.mono ?_
    clear CC x1
    cases R with
    | none =>
     rintro e9 w9 ⟨rfl, b9⟩
     have HR := Lib.hid (show jbl ⟨t, cl, xs⟩ line = (⟨t, cl, xs⟩, none) by rw [HR1.out, jg0 HRP.out HMM.out])
     go_wp2_with fail
     go_ret2
     rw [HR.out]
     exact jb3 ((P.next KB).next b9) ((hM.next KB).next b9) (jaa (jaa K1 KB) b9)
    | some z =>
     rintro e9 w9 ⟨rfl, b9⟩
     replace own := jad own b9
     have zz := b9.size
     replace KB := jaa KB b9
     have HY2 := Lib.hid (show jao (rest.take (k + 1)) = some (ys ++ [z]) by rw [HTK.out]; exact jge HY.out HRP.out)
     clear b9 HTK HMM HRP
     go_wp2_with (at_builtin; go_loud (refine jac rfl _ _ _ rfl Tryz.underlying90 ja8 rfl (by decide) rfl own rfl (by simp) (by rfl) (by rfl) (by omega) (by decide) (by omega) ?_); intro A9 c9 w9 o9 h9 b9 q9)
     go_roundw
     case rel => exact ⟨k + 1, A9, c9, ys ++ [z], by omega, by go_num, rfl, by simpa [jb4] using o9, HY2, KB.trans b9⟩
     case measure => simp [intOf]; omega
   ·obtain rfl : k = q := by omega
    have hlt1 : ¬ (k : Int) < (k : Int) := by omega
    have HPA := Lib.hid (show jao rest = some ys by have h9 := HY.out; rwa [List.take_of_length_le (by rw [HQ.out]; exact Nat.le_refl _)] at h9)
    have HR2 := Lib.hid (show jbl ⟨t, cl, xs⟩ line = jop ⟨t, cl, xs⟩ (cmK h0) ys by rw [HR1.out, HPA.out])
    have hin := jaq HIB.out
    have hka : (jaz (cmK h0)).1 ≤ (k : Int) := by rw [HA1.out]; have := HQN.out; omega
    obtain ⟨hx1, x0⟩ := jiw (hW.next KB) (show 0 < N by omega)
    replace x0 : wr.cell? ⟨gw, 0, none⟩ = some (.string h0) := x0
    have hy := (Sees.of_own own).less (Nat.zero_le _)
    replace P := P.next KB
    replace hM := hM.next KB
    have K2 := jaa K1 KB
    have hgx := World.block_lt_of_cell? wr _ x0
    have CC := joc h0 A' k c' ys wr hy hka
    obtain ⟨o, ho⟩ : ∃ o, jdw (cmK h0) ys = o := ⟨_, rfl⟩
    rw [ho] at CC
    have HO := Lib.hid ho
    have HCC := Lib.hid CC
    have HKA := Lib.hid hka
    clear HY hk hlt own KB hx1 hin CC ho hka hW HIB HIB2 HA1 hzr
    go_wp2_with fail
    refine HCC.out.mono ?_
    clear HCC
    cases o with
    | none =>
     rintro e9 w3 ⟨he9, b9⟩
     replace he9 : e9 = .returned (.tuple #[.agg #[.int .i64 0, .int .i64 0, .int .i64 0], .bool false]) := he9
     subst he9
     have HR := Lib.hid (show jbl ⟨t, cl, xs⟩ line = (⟨t, cl, xs⟩, jew ⟨t, cl, xs⟩ (cmK h0) ys) by rw [HR2.out]; unfold jop; rw [HO.out])
     have U4 := nB w3 (.cells #[.int .i64 0, .int .i64 0, .int .i64 0] 124)
     have U5 := jaa b9 U4
     replace x0 := (U5.cell (p := ⟨gw, 0, none⟩) hgx).trans x0
     replace P := P.next U5
     replace hM := hM.next U5
     replace hy := hy.next U5
     replace K2 := jaa K2 U5
     clear U4 U5 b9 hgx
     go_upto_region 16 with fail
     generalize w3.alloc _ = W4 at *
     have b := (Quiet.one W4).below W4.heap.size
     replace P := P.next b
     replace x0 := (b.cell (p := ⟨gw, 0, none⟩) (World.block_lt_of_cell? W4 _ x0)).trans x0
     replace hM := hM.next b
     replace hy := hy.next b
     have Kq := jaa K2 b
     have hgq := HG.out _ (Kq.mono hlw)
     have pc := P.cell
     have hxs := hM.sees
     clear b K2
     go_region_held3 (fun w' => w'.cell? ⟨gw, 0, none⟩ = some (.string h0) ∧ w'.cell? ⟨bp, 0, none⟩ = some (.int .i64 t) ∧ w'.cell? ⟨bp, 1, none⟩ = some (.bool cl) ∧ w'.cell? ⟨bp, 2, none⟩ = some (.slice A n c)) (go_keep)
      ((go_at_call 96; go_must (refine (joz t cl A n c xs h0 A' k c' ys _ hxs hg hy (by omega) HKA.out HO.out HKN.out hgq.gl).mono ?_; rintro e9 w9 ⟨p, rfl, hp, b9⟩; replace Kq := jaa Kq b9; replace P := P.next b9; replace hM := hM.next b9; replace x0 := (b9.cell (p := ⟨gw, 0, none⟩) (World.block_lt_of_cell? _ _ x0)).trans x0; clear pc hxs b9; have pc := P.cell)))
     go_wp2_with fail
     go_ret2
     rw [HR.out]
     exact ji0 P hM Kq hp
    | some st =>
     obtain ⟨a, e, v⟩ := st
     rintro e9 w3 ⟨he9, b9⟩
     replace he9 : e9 = .returned (.tuple #[.agg #[a, e, v], .bool true]) := he9
     subst he9
     have HR3 := Lib.hid (show jbl ⟨t, cl, xs⟩ line = match jdh ⟨t, cl, xs⟩ a e v with | none => (⟨t, cl, xs⟩, none) | some r2 => (r2, some (jcl r2 a e)) by rw [HR2.out]; unfold jop; rw [HO.out]; dsimp only; cases jdh ⟨t, cl, xs⟩ a e v <;> rfl)
     have U4 := nB w3 (.cells #[a, e, v] 124)
     have U5 := jaa b9 U4
     have Q := nP w3 [a, e, v] 124
     replace P := P.next U5
     replace hM := hM.next U5
     replace K2 := jaa K2 U5
     have hgs : w.heap.size ≤ w3.heap.size := by have := K2.size; have := b9.size; have := hz1; omega
     clear U4 U5 b9 hgx hy
     go_upto_region 17 with fail
     clear x0
     generalize w3.alloc _ = w4 at *
     generalize w3.heap.size = gs at *
     obtain ⟨R, hR⟩ : ∃ R, jdh ⟨t, cl, xs⟩ a e v = R := ⟨_, rfl⟩
     obtain ⟨r2, hr2⟩ : ∃ r2, R.getD jm4 = r2 := ⟨_, rfl⟩
     obtain ⟨ok, hok⟩ : ∃ ok, R.isSome = ok := ⟨_, rfl⟩
     have HSR := Lib.hid hR
     rw [hR] at HR3
     have HRV := Lib.hid (show ok = true → R = some r2 by
      intro h
      rw [← hok] at h
      cases R with
      | none => cases h
      | some r => rw [← hr2]; rfl)
     have HRN := Lib.hid (show ok = false → R = none by
      intro h
      rw [← hok] at h
      cases R with
      | none => rfl
      | some r => cases h)
     have HSC := Lib.hid (jb2 hg)
     have CC : ∀ W, SeesN entrantSh W 0 A n xs → Calls Tryz.prog 97 #[.agg #[t, cl, .slice A n c], .agg #[a, e, v]] W fun e9 W' => ∃ (A2 : Option Addr) (c2 : Nat), e9 = .returned (.tuple #[.agg #[r2.clock, r2.closed, .slice A2 r2.field.length c2], .bool ok]) ∧ MineN entrantSh W' (In W.heap.size W'.heap.size) 108 188 A2 r2.field.length c2 r2.field ∧ Below W.heap.size W W' := fun W hW => by
      have h9 := jlb t cl A n c xs a e v W hW (by have := hM.count; omega) HSC.out
      unfold jkv at h9
      rw [hR, hr2, hok] at h9
      exact h9
     have HCC := Lib.hid CC
     clear hR hr2 hok CC
     have b := (Quiet.one w4).below w4.heap.size
     replace P := P.next b
     replace Q := Q.next b
     replace hM := hM.next b
     have Kq := jaa K2 b
     clear b K2
     have pc := P.cell
     have qc := Q.cell
     have zP := P.lt
     have zQ := Q.lt
     have zbp : bp < w.heap.size := hbp0
     have zKq := Kq.size
     refine wp_region_held_drew (S := fun w' => w'.cell? ⟨bp, 0, none⟩ = some (.int .i64 t) ∧ w'.cell? ⟨bp, 1, none⟩ = some (.bool cl) ∧ w'.cell? ⟨bp, 2, none⟩ = some (.slice A n c) ∧ w'.cell? ⟨gs, 0, none⟩ = some (.int .i64 a) ∧ w'.cell? ⟨gs, 1, none⟩ = some (.int .i64 e) ∧ w'.cell? ⟨gs, 2, none⟩ = some (.int .i64 v)) (by kernel_rfl) (by (try dsimp only); exact ⟨pc 0, pc 1, pc 2, qc 0, qc 1, qc 2⟩) (fun hH => ?_)
     generalize w4.drew = wz at *
     refine wQ 0 ?_
     refine wQ 1 ?_
     refine wQ 2 ?_
     refine wQ 3 ?_
     refine wQ 4 ?_
     refine wR (rs := [5, 9]) (by kernel_rfl) (by simp) ?_
     refine aC rfl (fun K hK => ?_) ?_
     ·go_simp
      go_must (refine (HCC.out _ hM.sees).mono ?_)
      rintro e9 w9 ⟨A2, c2, rfl, M2, b9⟩
      have zb := b9.size
      have zk := Kq.size
      obtain ⟨zlo, hzlo⟩ : ∃ z, wz.heap.size = z := ⟨_, rfl⟩
      obtain ⟨zhi, hzhi⟩ : ∃ z, w9.heap.size = z := ⟨_, rfl⟩
      rw [hzlo, hzhi] at M2
      have hzl : w.heap.size ≤ zlo := by omega
      have hzm : zlo ≤ zhi := by omega
      have hzh : zhi ≤ w9.heap.size := by omega
      try (have hRl : gR < zlo := by have := RB.lt; omega)
      replace P := P.next b9
      replace Q := Q.next b9
      replace hM := hM.next b9
      replace Kq := jaa Kq b9
      try (replace RB := RB.next b9)
      clear b9 pc qc zb zk hzlo hzhi
      have pc := P.cell
      have qc := Q.cell
      try (clear RBc RBf; have RBc := RB.cell; have RBf := RB.frozen)
      generalize w9 = wz at *
      go_wp2_with fail
      refine hK.out _ _ (by (try dsimp only); exact ⟨pc 0, pc 1, pc 2, qc 0, qc 1, qc 2⟩) (fun hH => ?_)
      clear hK K
      refine wQ 6 ?_
      refine wQ 7 ?_
      refine wQ 8 ?_
      refine wR (rs := [9]) (by kernel_rfl) (by simp) ?_
      refine aC rfl (fun K hK => ?_) aN
      go_simp
      have b9 := nB wz (.cells #[.int .i64 0, false, .slice none 0 0] 32)
      have RB := nP wz [.int .i64 0, false, .slice none 0 0] 32
      have zR := Kq.size
      have zQR := Q.lt
      replace P := P.next b9
      replace Q := Q.next b9
      replace hM := hM.next b9
      replace Kq := jaa Kq b9
      try (replace M2 := M2.next b9)
      clear pc qc b9
      generalize wz.heap.size = gR at *
      generalize wz.alloc _ = wz at *
      have pc := P.cell
      have qc := Q.cell
      have RBc := RB.cell
      have RBf := RB.frozen
      refine hK.out _ _ (by (try dsimp only); exact ⟨pc 0, pc 1, pc 2, qc 0, qc 1, qc 2⟩) (fun hH => ?_)
      clear hK K
      try simp only [Act.put, pX]
      refine wR (rs := [10]) (by kernel_rfl) (by simp) ?_
      refine aC rfl (fun K hK => ?_) aN
      go_simp
      refine hK.out _ _ (by (try dsimp only); have E := ((((Only.refl (fun b => b = gR) wz).setCell (p := ⟨gR, 0, none⟩) rfl (.int .i64 r2.clock)).setCell (p := ⟨gR, 1, none⟩) rfl (.bool r2.closed)).setCell (p := ⟨gR, 2, none⟩) rfl (.slice A2 r2.field.length c2)); exact ⟨(P.only E (fun h => by omega)).cell 0, (P.only E (fun h => by omega)).cell 1, (P.only E (fun h => by omega)).cell 2, (Q.only E (fun h => by omega)).cell 0, (Q.only E (fun h => by omega)).cell 1, (Q.only E (fun h => by omega)).cell 2⟩) (fun hH => ?_)
      clear hK K
      try simp only [Act.put, pX]
      refine wQ 11 ?_
      refine wD (by kernel_rfl) ?_ _
      have E1 := ((((Only.refl (fun b => b = gR) wz).setCell (p := ⟨gR, 0, none⟩) rfl (.int .i64 r2.clock)).setCell (p := ⟨gR, 1, none⟩) rfl (.bool r2.closed)).setCell (p := ⟨gR, 2, none⟩) rfl (.slice A2 r2.field.length c2))
      have RBz : Blk (((wz.setCell ⟨gR, 0, none⟩ (.int .i64 r2.clock)).setCell ⟨gR, 1, none⟩ (.bool r2.closed)).setCell ⟨gR, 2, none⟩ (.slice A2 r2.field.length c2)) gR 32 [.int .i64 r2.clock, .bool r2.closed, .slice A2 r2.field.length c2] := (((RB.set_ 0 (.int .i64 r2.clock)).set_ 1 (.bool r2.closed)).set_ 2 (.slice A2 r2.field.length c2))
      replace P := P.only E1 (fun h => by omega)
      replace Q := Q.only E1 (fun h => by omega)
      replace hM := hM.only E1 (fun b h1 (h2 : b = gR) => by have := (hS b h1).2; omega)
      replace M2 := M2.only E1 (fun b h1 (h2 : b = gR) => by have := h1.1; have := h1.2; omega)
      have zE := E1.size
      have zRB := RB.lt
      replace Kq := Kq.trans (E1.below (fun b hb => by omega) Kq.size)
      clear E1 pc qc RBc RBf RB
      have hzh2 : zhi ≤ (((wz.setCell ⟨gR, 0, none⟩ (.int .i64 r2.clock)).setCell ⟨gR, 1, none⟩ (.bool r2.closed)).setCell ⟨gR, 2, none⟩ (.slice A2 r2.field.length c2)).heap.size := by omega
      generalize ((wz.setCell _ _).setCell _ _).setCell _ _ = wy at *
      cases ok
      ·have HR := Lib.hid (show jbl ⟨t, cl, xs⟩ line = (⟨t, cl, xs⟩, none) by rw [HR3.out, HRN.out rfl])
       go_wp2_with fail
       go_ret2
       rw [HR.out]
       exact jb3 P hM Kq
      have HR := Lib.hid (show jbl ⟨t, cl, xs⟩ line = (r2, some (jcl r2 a e)) by rw [HR3.out, HRV.out rfl])
      have HG2 := Lib.hid (je5 (HSR.out.trans (HRV.out rfl)))
      have HRG := Lib.hid (jfh (HSR.out.trans (HRV.out rfl)))
      have pc := P.cell
      have pf := P.frozen
      have rz := RBz.cell
      have E2 := ((((Only.refl (fun b => b = bp) wy).setCell (p := ⟨bp, 0, none⟩) rfl (.int .i64 r2.clock)).setCell (p := ⟨bp, 1, none⟩) rfl (.bool r2.closed)).setCell (p := ⟨bp, 2, none⟩) rfl (.slice A2 r2.field.length c2))
      have P2 : Blk (((wy.setCell ⟨bp, 0, none⟩ (.int .i64 r2.clock)).setCell ⟨bp, 1, none⟩ (.bool r2.closed)).setCell ⟨bp, 2, none⟩ (.slice A2 r2.field.length c2)) bp 35 [.int .i64 r2.clock, .bool r2.closed, .slice A2 r2.field.length c2, .string l.durable, .string l.pending, .int .i64 l.count] := (((P.set_ 0 (.int .i64 r2.clock)).set_ 1 (.bool r2.closed)).set_ 2 (.slice A2 r2.field.length c2))
      have R2 := RBz.only E2 (fun (h : gR = bp) => by omega)
      have Q2 := Q.only E2 (fun (h : gs = bp) => by omega)
      have M3 := M2.only E2 (fun b h1 (h2 : b = bp) => by have := h1.1; omega)
      have hgv := HG.out _ ((Kq.mono hlw).trans (E2.below (fun b hb => by omega) (by have := Kq.size; omega)))
      have zE2 := E2.size
      go_upto_region 21 with fail
      clear pc pf rz P Q RBz hM M2
      generalize ((wy.setCell _ _).setCell _ _).setCell _ _ = wv at *
      have rz := R2.cell
      have qz := Q2.cell
      go_wp2_with fail
      refine (jf0 r2.clock r2.closed A2 r2.field.length c2 r2.field a e v wv M3.sees HG2.out HRG.out hgv.gl).mono ?_
      rintro e9 w9 ⟨rfl, b9⟩
      go_wp2_with fail
      go_ret2
      rw [HR.out]
      exact ⟨_, A2, c2, rfl, fun q h => (by injection h), P2.next b9, (M3.next b9).wide (fun b hb => Or.inr ⟨by have := hb.1; omega, by have := hb.2; have := b9.size; omega⟩), ((Only.of_below Kq).trans E2).then_ b9⟩
     refine aC rfl (fun K hK => ?_) aN
     ·go_simp
      have b9 := nB wz (.cells #[.int .i64 0, false, .slice none 0 0] 32)
      have RB := nP wz [.int .i64 0, false, .slice none 0 0] 32
      have zR := Kq.size
      have zQR := Q.lt
      replace P := P.next b9
      replace Q := Q.next b9
      replace hM := hM.next b9
      replace Kq := jaa Kq b9
      try (replace M2 := M2.next b9)
      clear pc qc b9
      generalize wz.heap.size = gR at *
      generalize wz.alloc _ = wz at *
      have pc := P.cell
      have qc := Q.cell
      have RBc := RB.cell
      have RBf := RB.frozen
      refine hK.out _ _ (by (try dsimp only); exact ⟨pc 0, pc 1, pc 2, qc 0, qc 1, qc 2⟩) (fun hH => ?_)
      clear hK K
      try simp only [Act.put, pX]
      refine wR (rs := [5]) (by kernel_rfl) (by simp) ?_
      refine aC rfl (fun K hK => ?_) aN
      go_simp
      go_must (refine (HCC.out _ hM.sees).mono ?_)
      rintro e9 w9 ⟨A2, c2, rfl, M2, b9⟩
      have zb := b9.size
      have zk := Kq.size
      obtain ⟨zlo, hzlo⟩ : ∃ z, wz.heap.size = z := ⟨_, rfl⟩
      obtain ⟨zhi, hzhi⟩ : ∃ z, w9.heap.size = z := ⟨_, rfl⟩
      rw [hzlo, hzhi] at M2
      have hzl : w.heap.size ≤ zlo := by omega
      have hzm : zlo ≤ zhi := by omega
      have hzh : zhi ≤ w9.heap.size := by omega
      try (have hRl : gR < zlo := by have := RB.lt; omega)
      replace P := P.next b9
      replace Q := Q.next b9
      replace hM := hM.next b9
      replace Kq := jaa Kq b9
      try (replace RB := RB.next b9)
      clear b9 pc qc zb zk hzlo hzhi
      have pc := P.cell
      have qc := Q.cell
      try (clear RBc RBf; have RBc := RB.cell; have RBf := RB.frozen)
      generalize w9 = wz at *
      go_wp2_with fail
      refine hK.out _ _ (by (try dsimp only); exact ⟨pc 0, pc 1, pc 2, qc 0, qc 1, qc 2⟩) (fun hH => ?_)
      clear hK K
      refine wQ 6 ?_
      refine wQ 7 ?_
      refine wQ 8 ?_
      refine wR (rs := [10]) (by kernel_rfl) (by simp) ?_
      refine aC rfl (fun K hK => ?_) aN
      go_simp
      refine hK.out _ _ (by (try dsimp only); have E := ((((Only.refl (fun b => b = gR) wz).setCell (p := ⟨gR, 0, none⟩) rfl (.int .i64 r2.clock)).setCell (p := ⟨gR, 1, none⟩) rfl (.bool r2.closed)).setCell (p := ⟨gR, 2, none⟩) rfl (.slice A2 r2.field.length c2)); exact ⟨(P.only E (fun h => by omega)).cell 0, (P.only E (fun h => by omega)).cell 1, (P.only E (fun h => by omega)).cell 2, (Q.only E (fun h => by omega)).cell 0, (Q.only E (fun h => by omega)).cell 1, (Q.only E (fun h => by omega)).cell 2⟩) (fun hH => ?_)
      clear hK K
      try simp only [Act.put, pX]
      refine wQ 11 ?_
      refine wD (by kernel_rfl) ?_ _
      have E1 := ((((Only.refl (fun b => b = gR) wz).setCell (p := ⟨gR, 0, none⟩) rfl (.int .i64 r2.clock)).setCell (p := ⟨gR, 1, none⟩) rfl (.bool r2.closed)).setCell (p := ⟨gR, 2, none⟩) rfl (.slice A2 r2.field.length c2))
      have RBz : Blk (((wz.setCell ⟨gR, 0, none⟩ (.int .i64 r2.clock)).setCell ⟨gR, 1, none⟩ (.bool r2.closed)).setCell ⟨gR, 2, none⟩ (.slice A2 r2.field.length c2)) gR 32 [.int .i64 r2.clock, .bool r2.closed, .slice A2 r2.field.length c2] := (((RB.set_ 0 (.int .i64 r2.clock)).set_ 1 (.bool r2.closed)).set_ 2 (.slice A2 r2.field.length c2))
      replace P := P.only E1 (fun h => by omega)
      replace Q := Q.only E1 (fun h => by omega)
      replace hM := hM.only E1 (fun b h1 (h2 : b = gR) => by have := (hS b h1).2; omega)
      replace M2 := M2.only E1 (fun b h1 (h2 : b = gR) => by have := h1.1; have := h1.2; omega)
      have zE := E1.size
      have zRB := RB.lt
      replace Kq := Kq.trans (E1.below (fun b hb => by omega) Kq.size)
      clear E1 pc qc RBc RBf RB
      have hzh2 : zhi ≤ (((wz.setCell ⟨gR, 0, none⟩ (.int .i64 r2.clock)).setCell ⟨gR, 1, none⟩ (.bool r2.closed)).setCell ⟨gR, 2, none⟩ (.slice A2 r2.field.length c2)).heap.size := by omega
      generalize ((wz.setCell _ _).setCell _ _).setCell _ _ = wy at *
      cases ok
      ·have HR := Lib.hid (show jbl ⟨t, cl, xs⟩ line = (⟨t, cl, xs⟩, none) by rw [HR3.out, HRN.out rfl])
       go_wp2_with fail
       go_ret2
       rw [HR.out]
       exact jb3 P hM Kq
      have HR := Lib.hid (show jbl ⟨t, cl, xs⟩ line = (r2, some (jcl r2 a e)) by rw [HR3.out, HRV.out rfl])
      have HG2 := Lib.hid (je5 (HSR.out.trans (HRV.out rfl)))
      have HRG := Lib.hid (jfh (HSR.out.trans (HRV.out rfl)))
      have pc := P.cell
      have pf := P.frozen
      have rz := RBz.cell
      have E2 := ((((Only.refl (fun b => b = bp) wy).setCell (p := ⟨bp, 0, none⟩) rfl (.int .i64 r2.clock)).setCell (p := ⟨bp, 1, none⟩) rfl (.bool r2.closed)).setCell (p := ⟨bp, 2, none⟩) rfl (.slice A2 r2.field.length c2))
      have P2 : Blk (((wy.setCell ⟨bp, 0, none⟩ (.int .i64 r2.clock)).setCell ⟨bp, 1, none⟩ (.bool r2.closed)).setCell ⟨bp, 2, none⟩ (.slice A2 r2.field.length c2)) bp 35 [.int .i64 r2.clock, .bool r2.closed, .slice A2 r2.field.length c2, .string l.durable, .string l.pending, .int .i64 l.count] := (((P.set_ 0 (.int .i64 r2.clock)).set_ 1 (.bool r2.closed)).set_ 2 (.slice A2 r2.field.length c2))
      have R2 := RBz.only E2 (fun (h : gR = bp) => by omega)
      have Q2 := Q.only E2 (fun (h : gs = bp) => by omega)
      have M3 := M2.only E2 (fun b h1 (h2 : b = bp) => by have := h1.1; omega)
      have hgv := HG.out _ ((Kq.mono hlw).trans (E2.below (fun b hb => by omega) (by have := Kq.size; omega)))
      have zE2 := E2.size
      go_upto_region 21 with fail
      clear pc pf rz P Q RBz hM M2
      generalize ((wy.setCell _ _).setCell _ _).setCell _ _ = wv at *
      have rz := R2.cell
      have qz := Q2.cell
      go_wp2_with fail
      refine (jf0 r2.clock r2.closed A2 r2.field.length c2 r2.field a e v wv M3.sees HG2.out HRG.out hgv.gl).mono ?_
      rintro e9 w9 ⟨rfl, b9⟩
      go_wp2_with fail
      go_ret2
      rw [HR.out]
      exact ⟨_, A2, c2, rfl, fun q h => (by injection h), P2.next b9, (M3.next b9).wide (fun b hb => Or.inr ⟨by have := hb.1; omega, by have := hb.2; have := b9.size; omega⟩), ((Only.of_below Kq).trans E2).then_ b9⟩
theorem jal {w : World} {g : Nat} {t : TypeId} {z0 z1 z2 z3 z4 z5 : Value} (h : Blk w g t [z0, z1, z2, z3, z4, z5]) (v0 v1 v2 v3 v4 v5 : Value) :
  Blk ((((((w.setCell ⟨g, 0, none⟩ v0).setCell ⟨g, 1, none⟩ v1).setCell ⟨g, 2, none⟩ v2).setCell ⟨g, 3, none⟩ v3).setCell ⟨g, 4, none⟩ v4).setCell ⟨g, 5, none⟩ v5) g t [v0, v1, v2, v3, v4, v5] ∧ Only (fun b => b = g) w ((((((w.setCell ⟨g, 0, none⟩ v0).setCell ⟨g, 1, none⟩ v1).setCell ⟨g, 2, none⟩ v2).setCell ⟨g, 3, none⟩ v3).setCell ⟨g, 4, none⟩ v4).setCell ⟨g, 5, none⟩ v5) :=
 ⟨(((((h.set_ 0 v0).set_ 1 v1).set_ 2 v2).set_ 3 v3).set_ 4 v4).set_ 5 v5, ((((((Only.refl (fun b => b = g) w).setCell (p := ⟨g, 0, none⟩) rfl v0).setCell (p := ⟨g, 1, none⟩) rfl v1).setCell (p := ⟨g, 2, none⟩) rfl v2).setCell (p := ⟨g, 3, none⟩) rfl v3).setCell (p := ⟨g, 4, none⟩) rfl v4).setCell (p := ⟨g, 5, none⟩) rfl v5⟩
theorem IsValidConsole_any (t : Int) (b : Bool) (l : Log) (A : Option Addr) (n c : Nat) (xs : List Entrant) (w : World) (hx : SeesN entrantSh w 0 A n xs) (hn : n ≤ 1048576) (hi : ∀ x ∈ xs, x.cnt ≤ 1048576) (hs : l.upto 1048576) (hg : Gl w) :
  Calls Tryz.prog 35 #[.agg #[t, b, .slice A n c, l.durable, l.pending, l.count]] w fun e w' => e = .returned (.bool (jbf t b xs && ja9 l)) ∧ Below w.heap.size w w' := by
 go_enter Tryz.func35, Tryz.ntmps35
 go_wp2_with fail
 have K0 := nB w (.cells #[t, b, .slice A n c, l.durable, l.pending, l.count] 35)
 have B0 := nP w [t, b, .slice A n c, l.durable, l.pending, l.count] 35
 refine (jdm t b A n c _ xs _ (hx.next K0) hn hi).mono ?_
 cases hr : jbf t b xs
 ·have HR := Lib.hid hr
  clear hr
  rintro e w1 ⟨rfl, b1⟩
  go_wp2_with fail
  go_ret
  exact ⟨jab (by rw [HR.out]; rfl), jaa K0 b1⟩
 ·have HR := Lib.hid hr
  clear hr
  rintro e w1 ⟨rfl, b1⟩
  have K1 := jaa K0 b1
  replace B0 := B0.next b1
  have cm := B0.cell
  go_wp2_with fail
  refine (jch l w1 hs ((hg.next K0).next b1)).mono ?_
  rintro e w2 ⟨rfl, b2⟩
  go_wp2_with fail
  go_ret
  exact ⟨jab (by rw [HR.out]; exact (Bool.true_and _).symm), jaa K1 b2⟩
theorem l28Good_any (t : Int) (b : Bool) (l : Log) (A : Option Addr) (n c : Nat) (xs : List Entrant) (w : World) (hx : SeesN entrantSh w 0 A n xs) (hn : n ≤ 1048576) (hi : ∀ x ∈ xs, x.cnt ≤ 1048576) (hs : l.upto 1048576) :
  Calls Tryz.prog 42 #[.agg #[t, b, .slice A n c, l.durable, l.pending, l.count]] w fun e w' => e = .returned (.bool (jbf t b xs && ja9 l)) ∧ Below w.heap.size w w' := by
 go_enter Tryz.func42, Tryz.ntmps42
 go_wp2_with fail
 have K0 := nB w (.cells #[t, b, .slice A n c, l.durable, l.pending, l.count] 35)
 have B0 := nP w [t, b, .slice A n c, l.durable, l.pending, l.count] 35
 refine (jcy t b A n c _ xs _ (hx.next K0) hn hi).mono ?_
 cases hr : jbf t b xs
 ·have HR := Lib.hid hr
  clear hr
  rintro e w1 ⟨rfl, b1⟩
  go_wp2_with fail
  go_ret
  exact ⟨jab (by rw [HR.out]; rfl), jaa K0 b1⟩
 ·have HR := Lib.hid hr
  clear hr
  rintro e w1 ⟨rfl, b1⟩
  have K1 := jaa K0 b1
  replace B0 := B0.next b1
  have cm := B0.cell
  go_wp2_with fail
  refine (jed l w1 hs).mono ?_
  rintro e w2 ⟨rfl, b2⟩
  go_wp2_with fail
  go_ret
  exact ⟨jab (by rw [HR.out]; exact (Bool.true_and _).symm), jaa K1 b2⟩
theorem specIsValidConsole_any (t : Int) (b : Bool) (l : Log) (A : Option Addr) (n c : Nat) (xs : List Entrant) (w : World) (hx : SeesN entrantSh w 0 A n xs) (hn : n ≤ 1048576) (hi : ∀ x ∈ xs, x.cnt ≤ 1048576) (hs : l.upto 1048576) :
  Calls Tryz.prog 36 #[.agg #[t, b, .slice A n c, l.durable, l.pending, l.count]] w fun e w' => e = .returned (.bool (jbf t b xs && ja9 l)) ∧ Below w.heap.size w w' := by
 go_enter Tryz.func36, Tryz.ntmps36
 go_wp2_with fail
 have K0 := nB w (.cells #[t, b, .slice A n c, l.durable, l.pending, l.count] 35)
 refine (l28Good_any t b l A n c xs _ (hx.next K0) hn hi hs).mono ?_
 rintro e w1 ⟨rfl, b1⟩
 go_wp2_with fail
 go_ret
 exact ⟨rfl, jaa K0 b1⟩
end Go.Proofs.YtflpcdffmpfdpaaGreatDoor
