/- Joined texts of this proof: RunD, RunG, RunH, RunJ. -/
import Derived.Test.YtflpcdffmpfdpaaGreatDoorB11
import Derived.Test.YtflpcdffmpfdpaaGreatDoorB14
set_option maxRecDepth 100000
set_option maxHeartbeats 8000000
namespace Go.Proofs.YtflpcdffmpfdpaaGreatDoor
open Go.RowKit
theorem jf5 {x : RunE} (h : jd3 x = true) (hs : x.started = true) : jap x.card = true := by
 unfold jd3 at h
 rw [hs, if_pos rfl] at h
 simp only [Bool.and_eq_true] at h
 exact h.2
theorem jhn (x : RunE) (cs : List Int) (limit : Int) : 0 ≤ jb0 x cs limit ∧ jb0 x cs limit ≤ 5 := by
 unfold jb0
 by_cases h1 : x.started = false
 ·rw [if_pos h1]; omega
 rw [if_neg h1]
 by_cases h2 : x.out = true
 ·rw [if_pos h2]; omega
 rw [if_neg h2]
 by_cases h3 : x.finish = -1
 ·rw [if_pos h3]; omega
 rw [if_neg h3]
 by_cases h4 : 0 < (jgh x.card cs).length
 ·rw [if_pos h4]; omega
 rw [if_neg h4]
 by_cases h5 : limit < x.finish - x.start
 ·rw [if_pos h5]; omega
 ·rw [if_neg h5]; omega
theorem jfl (A : Option Addr) (n c : Nat) (x : RunE) (w : World) (h0 : -1 ≤ x.finish ∧ x.finish ≤ 36000) (h1 : 0 ≤ x.start ∧ x.start ≤ 36000) :
  Calls Tryz.prog 183 #[.agg #[x.runner, x.started, x.out, x.number, x.start, x.finish, .slice A n c]] w fun e w' => e = .returned (.int .i64 (x.finish - x.start)) ∧ Below w.heap.size w w' := by
 obtain ⟨rn, st, ou, nu, sa, fi, ps⟩ := x
 dsimp only at *
 obtain ⟨h00, h01⟩ := h0
 obtain ⟨h10, h11⟩ := h1
 have K := nB w (.cells #[rn, st, ou, nu, sa, fi, .slice A n c] 160)
 have P := nP w [rn, st, ou, nu, sa, fi, .slice A n c] 160
 have pc := P.cell
 go_enter Tryz.func183, Tryz.ntmps183
 go_wp2_with fail
 go_ret
 exact ⟨rfl, K⟩
theorem jcn (A : Option Addr) (n c : Nat) (x : RunE) (w : World) (h0 : -1 ≤ x.finish ∧ x.finish ≤ 36000) (h1 : 0 ≤ x.start ∧ x.start ≤ 36000) :
  Calls Tryz.prog 165 #[.agg #[x.runner, x.started, x.out, x.number, x.start, x.finish, .slice A n c]] w fun e w' => e = .returned (.int .i64 (x.finish - x.start)) ∧ Below w.heap.size w w' := by
 obtain ⟨rn, st, ou, nu, sa, fi, ps⟩ := x
 dsimp only at *
 obtain ⟨h00, h01⟩ := h0
 obtain ⟨h10, h11⟩ := h1
 have K := nB w (.cells #[rn, st, ou, nu, sa, fi, .slice A n c] 160)
 have P := nP w [rn, st, ou, nu, sa, fi, .slice A n c] 160
 have pc := P.cell
 go_enter Tryz.func165, Tryz.ntmps165
 go_wp2_with fail
 go_ret
 exact ⟨rfl, K⟩
theorem jgx (A : Option Addr) (n c : Nat) (x : RunE) (B : Option Addr) (m e : Nat) (cs : List Int) (limit : Int) (w : World) (hx : Sees w 0 2 A n (x.punches.flatMap Punch.enc)) (hn : n ≤ 1048576) (hnc : n ≤ c) (hy : Sees w 0 1 B m (jb4 cs)) (hm : m ≤ 1048576) (hr : jd3 x = true) :
  Calls Tryz.prog 181 #[.agg #[x.runner, x.started, x.out, x.number, x.start, x.finish, .slice A n c], .slice B m e, .int .i64 limit] w fun e' w' => e' = .returned (.int .i64 (jb0 x cs limit)) ∧ Below w.heap.size w w' := by
 have hcd := fun h => jc3 (jf5 hr h)
 obtain ⟨rn, st, ou, nu, sa, fi, ps⟩ := x
 dsimp only at *
 have K := nB w (.cells #[rn, st, ou, nu, sa, fi, .slice A n c] 160)
 have P := nP w [rn, st, ou, nu, sa, fi, .slice A n c] 160
 go_enter Tryz.func181, Tryz.ntmps181
 go_upto_region 1 with fail
 generalize w.alloc _ = w1 at *
 have pc := P.cell
 cases st
 ·have HR := Lib.hid (show jb0 ⟨rn, false, ou, nu, sa, fi, ps⟩ cs limit = 5 from rfl)
  clear hcd
  go_wp2_with fail
  go_ret
  rw [HR.out]
  exact ⟨rfl, K⟩
 cases ou
 rotate_left 1
 ·have HR := Lib.hid (show jb0 ⟨rn, true, true, nu, sa, fi, ps⟩ cs limit = 4 from rfl)
  clear hcd
  go_wp2_with fail
  go_ret
  rw [HR.out]
  exact ⟨rfl, K⟩
 obtain ⟨-, hs, hf, -, -⟩ := hcd rfl
 have hs' : 0 ≤ sa ∧ sa ≤ 36000 := hs
 have hf' : -1 ≤ fi ∧ fi ≤ 36000 := hf
 have HR0 := Lib.hid (show jb0 ⟨rn, true, false, nu, sa, fi, ps⟩ cs limit = (if fi = -1 then 2 else if 0 < (jgh ⟨nu, sa, fi, ps⟩ cs).length then 1 else if limit < fi - sa then 3 else 0) from rfl)
 clear hcd hs hf hr
 by_cases f1 : fi = -1
 ·have g1 : (fi == -1) = true := beq_iff_eq.2 f1
  have HR := Lib.hid (show jb0 ⟨rn, true, false, nu, sa, fi, ps⟩ cs limit = 2 by rw [HR0.out, if_pos f1])
  clear f1
  go_wp2_with fail
  go_ret
  rw [HR.out]
  exact ⟨rfl, K⟩
 have g1 : (fi == -1) = false := beq_eq_false_iff_ne.2 f1
 have HR1 := Lib.hid (HR0.out.trans (if_neg f1))
 clear f1
 obtain ⟨ML, hML⟩ : ∃ ML, jgh ⟨nu, sa, fi, ps⟩ cs = ML := ⟨_, rfl⟩
 have HML := Lib.hid hML
 have hlm : ML.length ≤ 1048576 := by
  rw [← hML]
  have h1 := jlj ⟨nu, sa, fi, ps⟩ cs
  have h2 := hy.icount
  omega
 rw [hML] at HR1
 clear hML
 go_wp2_with fail
 refine (jhe A n c ⟨nu, sa, fi, ps⟩ B m e cs w1 (hx.below K (Nat.le_refl _)) hn hnc (hy.below K (Nat.le_refl _)) hm).mono ?_
 rw [HML.out]
 rintro e9 w2 ⟨A9, c9, rfl, o9, b⟩
 replace P := P.next b
 replace K := jaa K b
 clear b o9 pc
 have pc := P.cell
 by_cases l0 : 0 < ML.length
 ·have g2 : (0 : Int) < (ML.length : Int) := by omega
  have HR := Lib.hid (HR1.out.trans (if_pos l0))
  clear l0
  go_wp2_with fail
  go_ret
  rw [HR.out]
  exact ⟨rfl, K⟩
 have g2 : ¬ (0 : Int) < (ML.length : Int) := by omega
 have HR2 := Lib.hid (HR1.out.trans (if_neg l0))
 clear l0
 go_wp2_with fail
 refine (jfl A n c ⟨rn, true, false, nu, sa, fi, ps⟩ w2 hf' hs').mono ?_
 rintro e9 w3 ⟨rfl, b⟩
 replace K := jaa K b
 clear b pc P
 dsimp only
 by_cases l1 : limit < fi - sa
 ·have HR := Lib.hid (HR2.out.trans (if_pos l1))
  go_wp2_with fail
  go_ret
  rw [HR.out]
  exact ⟨rfl, K⟩
 ·have HR := Lib.hid (HR2.out.trans (if_neg l1))
  go_wp2_with fail
  go_ret
  rw [HR.out]
  exact ⟨rfl, K⟩
theorem jgd (A : Option Addr) (n c : Nat) (x : RunE) (B : Option Addr) (m e : Nat) (cs : List Int) (limit : Int) (w : World) (hx : Sees w 0 2 A n (x.punches.flatMap Punch.enc)) (hn : n ≤ 1048576) (hy : Sees w 0 1 B m (jb4 cs)) (hm : m ≤ 1048576) (hr : jd3 x = true) :
  Calls Tryz.prog 164 #[.agg #[x.runner, x.started, x.out, x.number, x.start, x.finish, .slice A n c], .slice B m e, .int .i64 limit] w fun e' w' => e' = .returned (.int .i64 (jb0 x cs limit)) ∧ Below w.heap.size w w' := by
 have hcd := fun h => jc3 (jf5 hr h)
 obtain ⟨rn, st, ou, nu, sa, fi, ps⟩ := x
 dsimp only at *
 have K := nB w (.cells #[rn, st, ou, nu, sa, fi, .slice A n c] 160)
 have P := nP w [rn, st, ou, nu, sa, fi, .slice A n c] 160
 go_enter Tryz.func164, Tryz.ntmps164
 go_upto_region 1 with fail
 generalize w.alloc _ = w1 at *
 have pc := P.cell
 cases st
 ·have HR := Lib.hid (show jb0 ⟨rn, false, ou, nu, sa, fi, ps⟩ cs limit = 5 from rfl)
  clear hcd
  go_wp2_with fail
  go_ret
  rw [HR.out]
  exact ⟨rfl, K⟩
 cases ou
 rotate_left 1
 ·have HR := Lib.hid (show jb0 ⟨rn, true, true, nu, sa, fi, ps⟩ cs limit = 4 from rfl)
  clear hcd
  go_wp2_with fail
  go_ret
  rw [HR.out]
  exact ⟨rfl, K⟩
 obtain ⟨-, hs, hf, -, -⟩ := hcd rfl
 have hs' : 0 ≤ sa ∧ sa ≤ 36000 := hs
 have hf' : -1 ≤ fi ∧ fi ≤ 36000 := hf
 have HR0 := Lib.hid (show jb0 ⟨rn, true, false, nu, sa, fi, ps⟩ cs limit = (if fi = -1 then 2 else if 0 < (jgh ⟨nu, sa, fi, ps⟩ cs).length then 1 else if limit < fi - sa then 3 else 0) from rfl)
 clear hcd hs hf hr
 by_cases f1 : fi = -1
 ·have g1 : (fi == -1) = true := beq_iff_eq.2 f1
  have HR := Lib.hid (show jb0 ⟨rn, true, false, nu, sa, fi, ps⟩ cs limit = 2 by rw [HR0.out, if_pos f1])
  clear f1
  go_wp2_with fail
  go_ret
  rw [HR.out]
  exact ⟨rfl, K⟩
 have g1 : (fi == -1) = false := beq_eq_false_iff_ne.2 f1
 have HR1 := Lib.hid (HR0.out.trans (if_neg f1))
 clear f1
 obtain ⟨ML, hML⟩ : ∃ ML, jgh ⟨nu, sa, fi, ps⟩ cs = ML := ⟨_, rfl⟩
 have HML := Lib.hid hML
 have hlm : ML.length ≤ 1048576 := by
  rw [← hML]
  have h1 := jlj ⟨nu, sa, fi, ps⟩ cs
  have h2 := hy.icount
  omega
 rw [hML] at HR1
 clear hML
 go_wp2_with fail
 refine (jjc A n c ⟨nu, sa, fi, ps⟩ B m e cs w1 (hx.below K (Nat.le_refl _)) hn (hy.below K (Nat.le_refl _)) hm).mono ?_
 rw [HML.out]
 rintro e9 w2 ⟨A9, c9, rfl, o9, b⟩
 replace P := P.next b
 replace K := jaa K b
 clear b o9 pc
 have pc := P.cell
 by_cases l0 : 0 < ML.length
 ·have g2 : (0 : Int) < (ML.length : Int) := by omega
  have HR := Lib.hid (HR1.out.trans (if_pos l0))
  clear l0
  go_wp2_with fail
  go_ret
  rw [HR.out]
  exact ⟨rfl, K⟩
 have g2 : ¬ (0 : Int) < (ML.length : Int) := by omega
 have HR2 := Lib.hid (HR1.out.trans (if_neg l0))
 clear l0
 go_wp2_with fail
 refine (jcn A n c ⟨rn, true, false, nu, sa, fi, ps⟩ w2 hf' hs').mono ?_
 rintro e9 w3 ⟨rfl, b⟩
 replace K := jaa K b
 clear b pc P
 dsimp only
 by_cases l1 : limit < fi - sa
 ·have HR := Lib.hid (HR2.out.trans (if_pos l1))
  go_wp2_with fail
  go_ret
  rw [HR.out]
  exact ⟨rfl, K⟩
 ·have HR := Lib.hid (HR2.out.trans (if_neg l1))
  go_wp2_with fail
  go_ret
  rw [HR.out]
  exact ⟨rfl, K⟩
def jd2 (xs : List RunE) (k : Nat) : Bool := match xs[k]? with
 | some x => jd3 x && (match k with | 0 => true | j + 1 => match xs[j]? with | some y => decide (y.runner < x.runner) | none => true)
 | none => true
def jat (xs : List RunE) : Bool := jc7 xs.length (jd2 xs) && decide (xs.length ≤ 10)
theorem jjt {xs : List RunE} (h : 0 < xs.length) : jd2 xs 0 = jd3 xs[0] := by unfold jd2; rw [List.getElem?_eq_getElem h]; simp
theorem jgs {xs : List RunE} {q : Nat} (h : q + 1 < xs.length) : jd2 xs (q + 1) = (jd3 xs[q + 1] && decide (xs[q].runner < xs[q + 1].runner)) := by
 unfold jd2
 rw [List.getElem?_eq_getElem h]
 simp only []
 rw [List.getElem?_eq_getElem (show q < xs.length by omega)]
theorem je8 {xs : List RunE} {k : Nat} (hk : k < xs.length) (h : jd2 xs k = false) : jat xs = false := by
 unfold jat
 cases ha : jc7 xs.length (jd2 xs) with
 | false => rfl
 | true => rw [jhk ha hk] at h; cases h
theorem ji1 {xs : List RunE} (h : ∀ j, j < xs.length → jd2 xs j = true) : jat xs = decide (xs.length ≤ 10) := by
 unfold jat
 rw [show jc7 xs.length (jd2 xs) = true from List.all_eq_true.2 fun j hj => h j (List.mem_range.1 hj), Bool.true_and]
theorem jn1 {xs : List RunE} {k : Nat} (hk : k < xs.length) (h : jd2 xs k = true) : jd3 xs[k] = true := by
 unfold jd2 at h
 rw [List.getElem?_eq_getElem hk] at h
 simp only [Bool.and_eq_true] at h
 exact h.1
theorem jdk {xs : List RunE} (h : jat xs = true) : xs.length ≤ 10 ∧ ∀ (k : Nat) (hk : k < xs.length), jd3 xs[k] = true := by
 unfold jat at h
 simp only [Bool.and_eq_true, decide_eq_true_eq] at h
 exact ⟨h.2, fun k hk => jn1 hk (jhk h.1 hk)⟩
def jd8 (xs : List RunE) (cs : List Int) (limit : Int) : Bool := jat xs && (jec cs && inB limit 1 36000)
theorem jmz (A : Option Addr) (n c : Nat) (xs : List RunE) (w : World) (hx : SeesC w 0 A n xs) (hn : n ≤ 1048576) (hi : ∀ x ∈ xs, x.punches.length ≤ 1048576) :
  Calls Tryz.prog 216 #[.slice A n c] w fun e w' => e = .returned (.bool (jat xs)) ∧ Below w.heap.size w w' := by
 have HLN := Lib.hid hx.count
 have KB := Below.refl w.heap.size w
 go_enter Tryz.func216, Tryz.ntmps216
 go_wp2_with fail
 go_loopw [7] (fun iv wr => ∃ (k : Nat), k ≤ n ∧ iv = .int .i64 (k : Int) ∧ Hid (∀ j, j < k → jd2 xs j = true) ∧ Below w.heap.size w wr) (fun iv _ => n - (intOf iv).toNat)
 case atStart => exact ⟨0, Nat.zero_le _, rfl, Lib.hid (fun j h => absurd h (Nat.not_lt_zero _)), KB⟩
 case round =>
  clear KB
  obtain ⟨k, hk, rfl, HA, KB⟩ := hrel
  by_cases hlt : k < n
  ·obtain ⟨b, off, B0, mc, cc0, rfl, hkx, ⟨y0, y1, y2, y3, y4, y5, y6⟩, hxi, hcap⟩ := hx.elem hlt
   have hmb : mc ≤ 1048576 := by
    have h1 := hi xs[k] (List.getElem_mem hkx)
    have hmc := hxi.count (by decide) (fun _ => rfl)
    omega
   obtain ⟨rb, hrb⟩ : ∃ rb, jd3 xs[k] = rb := ⟨_, rfl⟩
   have HZ := Lib.hid (fun (e : k = 0) => show jd2 xs k = rb by subst e; rw [jjt hkx]; exact hrb)
   have HS := Lib.hid (fun (q : Nat) (e : k = q + 1) => show jd2 xs k = (rb && decide ((xs[q]'(by omega)).runner < xs[k].runner)) by subst e; rw [jgs hkx]; rw [hrb])
   obtain ⟨x, HX⟩ : ∃ x, Hid (xs[k] = x) := ⟨_, Lib.hid rfl⟩
   rw [HX.out] at y0 y1 y2 y3 y4 y5 hxi hrb
   have HRB := Lib.hid hrb
   clear hrb
   have hbw : b < w.heap.size := World.block_lt_of_cell? w _ y0
   have hlti : (k : Int) < (n : Int) := by omega
   have hSS : ∀ w' : World, Below w.heap.size w w' → w'.cell? ⟨b, off + k * 7, none⟩ = some (.int .i64 x.runner) ∧ w'.cell? ⟨b, off + k * 7 + 1, none⟩ = some (.bool x.started) ∧ w'.cell? ⟨b, off + k * 7 + 2, none⟩ = some (.bool x.out) ∧ w'.cell? ⟨b, off + k * 7 + 3, none⟩ = some (.int .i64 x.number) ∧ w'.cell? ⟨b, off + k * 7 + 4, none⟩ = some (.int .i64 x.start) ∧ w'.cell? ⟨b, off + k * 7 + 5, none⟩ = some (.int .i64 x.finish) ∧ w'.cell? ⟨b, off + k * 7 + 6, none⟩ = some (.slice B0 mc cc0) := fun w' hb => ⟨(hb.cell (p := ⟨b, off + k * 7, none⟩) hbw).trans y0, (hb.cell (p := ⟨b, off + k * 7 + 1, none⟩) hbw).trans y1, (hb.cell (p := ⟨b, off + k * 7 + 2, none⟩) hbw).trans y2, (hb.cell (p := ⟨b, off + k * 7 + 3, none⟩) hbw).trans y3, (hb.cell (p := ⟨b, off + k * 7 + 4, none⟩) hbw).trans y4, (hb.cell (p := ⟨b, off + k * 7 + 5, none⟩) hbw).trans y5, (hb.cell (p := ⟨b, off + k * 7 + 6, none⟩) hbw).trans y6⟩
   obtain ⟨x0, x1, x2, x3, x4, x5, x6⟩ := hSS wr KB
   clear y0 y1 y2 y3 y4 y5 y6
   have U := nB wr (.cells #[x.runner, x.started, x.out, x.number, x.start, x.finish, .slice B0 mc cc0] 160)
   have E := nP wr [x.runner, x.started, x.out, x.number, x.start, x.finish, .slice B0 mc cc0] 160
   replace KB := jaa KB U
   clear U
   go_upto_region 4 with fail
   clear x0 x1 x2 x3 x4 x5 x6 hSS
   generalize wr.alloc _ = w1 at *
   generalize wr.heap.size = ge at *
   replace E := E.next ((Quiet.one w1).below w1.heap.size)
   replace KB := jaa KB ((Quiet.one w1).below w1.heap.size)
   have X := hxi.below KB (Nat.le_refl _)
   cases rb
   ·have HNO := Lib.hid (show jat xs = false from je8 hkx (by
     cases k with
     | zero => exact HZ.out rfl
     | succ q => rw [HS.out q rfl]; rfl))
    clear HZ HS
    refine wp_region_held_drew (S := fun w' => w'.cell? ⟨ge, 0, none⟩ = some (.int .i64 x.runner) ∧ w'.cell? ⟨ge, 1, none⟩ = some (.bool x.started) ∧ w'.cell? ⟨ge, 2, none⟩ = some (.bool x.out) ∧ w'.cell? ⟨ge, 3, none⟩ = some (.int .i64 x.number) ∧ w'.cell? ⟨ge, 4, none⟩ = some (.int .i64 x.start) ∧ w'.cell? ⟨ge, 5, none⟩ = some (.int .i64 x.finish) ∧ w'.cell? ⟨ge, 6, none⟩ = some (.slice B0 mc cc0)) (by kernel_rfl) (by (try dsimp only); exact ⟨E.cell 0, E.cell 1, E.cell 2, E.cell 3, E.cell 4, E.cell 5, E.cell 6⟩) (fun hH => ?_)
    generalize w1.drew = wz at *
    refine wQ 0 ?_
    refine wR (rs := [1]) (by kernel_rfl) (by simp) ?_
    refine aC rfl (fun K hK => ?_) aN
    go_simp
    refine (jga B0 mc cc0 x _ X hmb).mono ?_
    rw [HRB.out]
    rintro e w9 ⟨rfl, b9⟩
    replace E := E.next b9
    replace KB := jaa KB b9
    clear b9
    generalize w9 = wz at *
    go_wp2_with fail
    refine hK.out _ _ (by (try dsimp only); exact ⟨E.cell 0, E.cell 1, E.cell 2, E.cell 3, E.cell 4, E.cell 5, E.cell 6⟩) (fun hH => ?_)
    clear hK K
    refine wQ 2 ?_
    refine wQ 3 ?_
    refine wU 4 ?_
    refine wU 5 ?_
    refine wU 6 ?_
    refine wU 7 ?_
    refine wU 8 ?_
    refine wU 9 ?_
    refine wU 10 ?_
    refine wU 11 ?_
    refine wU 12 ?_
    refine wU 13 ?_
    refine wU 14 ?_
    refine wU 15 ?_
    refine wU 16 ?_
    refine wQ 17 ?_
    refine wD (by kernel_rfl) ?_ _
    go_wp2_with fail
    go_ret
    rw [HNO.out]
    exact ⟨rfl, KB⟩
   by_cases h0 : k = 0
   ·have HALL := Lib.hid (show ∀ j, j < k + 1 → jd2 xs j = true from fun j hj => by
     by_cases e : j = k
     ·subst e; exact HZ.out h0
     ·exact HA.out j (by omega))
    clear HZ HS
    have g0 : ¬ (0 : Int) < (k : Int) := by omega
    have g0n : ¬ 0 < k := by omega
    have g0d : decide ((0 : Int) < (k : Int)) = false := decide_eq_false g0
    have g0e : decide (0 < k) = false := decide_eq_false g0n
    clear h0
    refine wp_region_held_drew (S := fun w' => w'.cell? ⟨ge, 0, none⟩ = some (.int .i64 x.runner) ∧ w'.cell? ⟨ge, 1, none⟩ = some (.bool x.started) ∧ w'.cell? ⟨ge, 2, none⟩ = some (.bool x.out) ∧ w'.cell? ⟨ge, 3, none⟩ = some (.int .i64 x.number) ∧ w'.cell? ⟨ge, 4, none⟩ = some (.int .i64 x.start) ∧ w'.cell? ⟨ge, 5, none⟩ = some (.int .i64 x.finish) ∧ w'.cell? ⟨ge, 6, none⟩ = some (.slice B0 mc cc0)) (by kernel_rfl) (by (try dsimp only); exact ⟨E.cell 0, E.cell 1, E.cell 2, E.cell 3, E.cell 4, E.cell 5, E.cell 6⟩) (fun hH => ?_)
    generalize w1.drew = wz at *
    refine wQ 0 ?_
    refine wR (rs := [1]) (by kernel_rfl) (by simp) ?_
    refine aC rfl (fun K hK => ?_) aN
    go_simp
    refine (jga B0 mc cc0 x _ X hmb).mono ?_
    rw [HRB.out]
    rintro e w9 ⟨rfl, b9⟩
    replace E := E.next b9
    replace KB := jaa KB b9
    clear b9
    generalize w9 = wz at *
    go_wp2_with fail
    refine hK.out _ _ (by (try dsimp only); exact ⟨E.cell 0, E.cell 1, E.cell 2, E.cell 3, E.cell 4, E.cell 5, E.cell 6⟩) (fun hH => ?_)
    clear hK K
    refine wQ 2 ?_
    refine wQ 3 ?_
    refine wQ 4 ?_
    refine wQ 5 ?_
    refine wQ 6 ?_
    refine wU 7 ?_
    refine wU 8 ?_
    refine wU 9 ?_
    refine wU 10 ?_
    refine wU 11 ?_
    refine wU 12 ?_
    refine wU 13 ?_
    refine wU 14 ?_
    refine wU 15 ?_
    refine wQ 16 ?_
    refine wQ 17 ?_
    refine wD (by kernel_rfl) ?_ _
    go_wp2_with fail
    go_roundw
    case rel => exact ⟨k + 1, by omega, by go_num, HALL, KB⟩
    case measure => simp [intOf]; omega
   obtain ⟨q, rfl⟩ : ∃ q, k = q + 1 := ⟨k - 1, by omega⟩
   have g0 : (0 : Int) < (q : Int) + 1 := by omega
   have hq1 : (q : Int) < (n : Int) := by omega
   have hq2 : (q : Int) + 1 < (n : Int) := by omega
   have hq3 : 0 ≤ (q : Int) + 1 := by omega
   have HS1 := Lib.hid (HS.out q rfl)
   obtain ⟨b2, off2, B2, mc2, cc2, e2, hqx, ⟨z0, -⟩, -, -⟩ := hx.elem (show q < n by omega)
   injection e2 with e2
   injection e2 with e3 e4 _
   subst e3 e4
   obtain ⟨y, HY⟩ : ∃ y, Hid (xs[q]'(by omega) = y) := ⟨_, Lib.hid rfl⟩
   rw [HY.out] at z0
   rw [HX.out, HY.out] at HS1
   have hSP : ∀ w' : World, Below w.heap.size w w' → w'.cell? ⟨b, off + q * 7, none⟩ = some (.int .i64 y.runner) := fun w' hb => (hb.cell (p := ⟨b, off + q * 7, none⟩) hbw).trans z0
   clear HZ HS z0
   by_cases hlt2 : y.runner < x.runner
   ·have g1 : ¬ x.runner ≤ y.runner := by omega
    have HALL := Lib.hid (show ∀ j, j < q + 1 + 1 → jd2 xs j = true from fun j hj => by
     by_cases e : j = q + 1
     ·subst e; rw [HS1.out, decide_eq_true hlt2]; rfl
     ·exact HA.out j (by omega))
    have hqw : IntKind.i64.wrap (q : Int) = (q : Int) := IntWalk.i64_in _ (by omega)
    refine wp_region_held_drew (S := fun w' => w'.cell? ⟨ge, 0, none⟩ = some (.int .i64 x.runner) ∧ w'.cell? ⟨ge, 1, none⟩ = some (.bool x.started) ∧ w'.cell? ⟨ge, 2, none⟩ = some (.bool x.out) ∧ w'.cell? ⟨ge, 3, none⟩ = some (.int .i64 x.number) ∧ w'.cell? ⟨ge, 4, none⟩ = some (.int .i64 x.start) ∧ w'.cell? ⟨ge, 5, none⟩ = some (.int .i64 x.finish) ∧ w'.cell? ⟨ge, 6, none⟩ = some (.slice B0 mc cc0) ∧ w'.cell? ⟨b, off + q * 7, none⟩ = some (.int .i64 y.runner)) (by kernel_rfl) (by (try dsimp only); exact ⟨E.cell 0, E.cell 1, E.cell 2, E.cell 3, E.cell 4, E.cell 5, E.cell 6, hSP _ KB⟩) (fun hH => ?_)
    generalize w1.drew = wz at *
    refine wQ 0 ?_
    refine wR (rs := [1]) (by kernel_rfl) (by simp) ?_
    refine aC rfl (fun K hK => ?_) aN
    go_simp
    refine (jga B0 mc cc0 x _ X hmb).mono ?_
    rw [HRB.out]
    rintro e w9 ⟨rfl, b9⟩
    replace E := E.next b9
    replace KB := jaa KB b9
    clear b9
    generalize w9 = wz at *
    go_wp2_with fail
    refine hK.out _ _ (by (try dsimp only); exact ⟨E.cell 0, E.cell 1, E.cell 2, E.cell 3, E.cell 4, E.cell 5, E.cell 6, hSP _ KB⟩) (fun hH => ?_)
    clear hK K
    refine wQ 2 ?_
    refine wQ 3 ?_
    refine wQ 4 ?_
    refine wQ 5 ?_
    refine wQ 6 ?_
    refine wQ 7 ?_
    refine wQ 8 ?_
    refine wQ 9 ?_
    refine wQ 10 ?_
    refine wQ 11 ?_
    refine wQ 12 ?_
    refine wQ 13 ?_
    refine wQ 14 ?_
    refine wQ 15 ?_
    refine wQ 16 ?_
    refine wQ 17 ?_
    refine wD (by kernel_rfl) ?_ _
    clear hqw
    go_wp2_with fail
    go_roundw
    case rel => exact ⟨(q + 1) + 1, by omega, by go_num, HALL, KB⟩
    case measure => simp [intOf]; omega
   ·have g1 : x.runner ≤ y.runner := by omega
    have HNO := Lib.hid (show jat xs = false from je8 hkx (by rw [HS1.out, decide_eq_false hlt2]; rfl))
    have hqw : IntKind.i64.wrap (q : Int) = (q : Int) := IntWalk.i64_in _ (by omega)
    refine wp_region_held_drew (S := fun w' => w'.cell? ⟨ge, 0, none⟩ = some (.int .i64 x.runner) ∧ w'.cell? ⟨ge, 1, none⟩ = some (.bool x.started) ∧ w'.cell? ⟨ge, 2, none⟩ = some (.bool x.out) ∧ w'.cell? ⟨ge, 3, none⟩ = some (.int .i64 x.number) ∧ w'.cell? ⟨ge, 4, none⟩ = some (.int .i64 x.start) ∧ w'.cell? ⟨ge, 5, none⟩ = some (.int .i64 x.finish) ∧ w'.cell? ⟨ge, 6, none⟩ = some (.slice B0 mc cc0) ∧ w'.cell? ⟨b, off + q * 7, none⟩ = some (.int .i64 y.runner)) (by kernel_rfl) (by (try dsimp only); exact ⟨E.cell 0, E.cell 1, E.cell 2, E.cell 3, E.cell 4, E.cell 5, E.cell 6, hSP _ KB⟩) (fun hH => ?_)
    generalize w1.drew = wz at *
    refine wQ 0 ?_
    refine wR (rs := [1]) (by kernel_rfl) (by simp) ?_
    refine aC rfl (fun K hK => ?_) aN
    go_simp
    refine (jga B0 mc cc0 x _ X hmb).mono ?_
    rw [HRB.out]
    rintro e w9 ⟨rfl, b9⟩
    replace E := E.next b9
    replace KB := jaa KB b9
    clear b9
    generalize w9 = wz at *
    go_wp2_with fail
    refine hK.out _ _ (by (try dsimp only); exact ⟨E.cell 0, E.cell 1, E.cell 2, E.cell 3, E.cell 4, E.cell 5, E.cell 6, hSP _ KB⟩) (fun hH => ?_)
    clear hK K
    refine wQ 2 ?_
    refine wQ 3 ?_
    refine wQ 4 ?_
    refine wQ 5 ?_
    refine wQ 6 ?_
    refine wQ 7 ?_
    refine wQ 8 ?_
    refine wQ 9 ?_
    refine wQ 10 ?_
    refine wQ 11 ?_
    refine wQ 12 ?_
    refine wQ 13 ?_
    refine wQ 14 ?_
    refine wQ 15 ?_
    refine wQ 16 ?_
    refine wQ 17 ?_
    refine wD (by kernel_rfl) ?_ _
    clear hqw
    go_wp2_with fail
    go_ret
    rw [HNO.out]
    exact ⟨rfl, KB⟩
  ·obtain rfl : k = n := by omega
   have hlti : ¬ (k : Int) < (k : Int) := by omega
   have HE := Lib.hid (show jat xs = decide (xs.length ≤ 10) from ji1 (by rw [HLN.out]; exact HA.out))
   by_cases h10 : k ≤ 10
   ·have g0 : (k : Int) ≤ 10 := by omega
    have HF := Lib.hid (show jat xs = true by rw [HE.out, HLN.out]; exact decide_eq_true h10)
    go_wp2_with fail
    go_ret
    rw [HF.out]
    exact ⟨jab (by simp), KB⟩
   ·have g0 : ¬ (k : Int) ≤ 10 := by omega
    have HF := Lib.hid (show jat xs = false by rw [HE.out, HLN.out]; exact decide_eq_false h10)
    go_wp2_with fail
    go_ret
    rw [HF.out]
    exact ⟨jab (by simp), KB⟩
theorem jnb (A : Option Addr) (n c : Nat) (xs : List RunE) (w : World) (hx : SeesC w 0 A n xs) (hn : n ≤ 1048576) (hi : ∀ x ∈ xs, x.punches.length ≤ 1048576) :
  Calls Tryz.prog 162 #[.slice A n c] w fun e w' => e = .returned (.bool (jat xs)) ∧ Below w.heap.size w w' := by
 have HLN := Lib.hid hx.count
 have KB := Below.refl w.heap.size w
 go_enter Tryz.func162, Tryz.ntmps162
 go_wp2_with fail
 go_loopw [3] (fun iv wr => ∃ (k : Nat), k ≤ n ∧ iv = .int .i64 (k : Int) ∧ Hid (∀ j, j < k → jd2 xs j = true) ∧ Below w.heap.size w wr) (fun iv _ => n - (intOf iv).toNat)
 case atStart => exact ⟨0, Nat.zero_le _, rfl, Lib.hid (fun j h => absurd h (Nat.not_lt_zero _)), KB⟩
 case round =>
  clear KB
  obtain ⟨k, hk, rfl, HA, KB⟩ := hrel
  by_cases hlt : k < n
  ·obtain ⟨b, off, B0, mc, cc0, rfl, hkx, ⟨y0, y1, y2, y3, y4, y5, y6⟩, hxi, hcap⟩ := hx.elem hlt
   have hmb : mc ≤ 1048576 := by
    have h1 := hi xs[k] (List.getElem_mem hkx)
    have hmc := hxi.count (by decide) (fun _ => rfl)
    omega
   obtain ⟨rb, hrb⟩ : ∃ rb, jd3 xs[k] = rb := ⟨_, rfl⟩
   have HZ := Lib.hid (fun (e : k = 0) => show jd2 xs k = rb by subst e; rw [jjt hkx]; exact hrb)
   have HS := Lib.hid (fun (q : Nat) (e : k = q + 1) => show jd2 xs k = (rb && decide ((xs[q]'(by omega)).runner < xs[k].runner)) by subst e; rw [jgs hkx]; rw [hrb])
   obtain ⟨x, HX⟩ : ∃ x, Hid (xs[k] = x) := ⟨_, Lib.hid rfl⟩
   rw [HX.out] at y0 y1 y2 y3 y4 y5 hxi hrb
   have HRB := Lib.hid hrb
   clear hrb
   have hbw : b < w.heap.size := World.block_lt_of_cell? w _ y0
   have hlti : (k : Int) < (n : Int) := by omega
   have hSS : ∀ w' : World, Below w.heap.size w w' → w'.cell? ⟨b, off + k * 7, none⟩ = some (.int .i64 x.runner) ∧ w'.cell? ⟨b, off + k * 7 + 1, none⟩ = some (.bool x.started) ∧ w'.cell? ⟨b, off + k * 7 + 2, none⟩ = some (.bool x.out) ∧ w'.cell? ⟨b, off + k * 7 + 3, none⟩ = some (.int .i64 x.number) ∧ w'.cell? ⟨b, off + k * 7 + 4, none⟩ = some (.int .i64 x.start) ∧ w'.cell? ⟨b, off + k * 7 + 5, none⟩ = some (.int .i64 x.finish) ∧ w'.cell? ⟨b, off + k * 7 + 6, none⟩ = some (.slice B0 mc cc0) := fun w' hb => ⟨(hb.cell (p := ⟨b, off + k * 7, none⟩) hbw).trans y0, (hb.cell (p := ⟨b, off + k * 7 + 1, none⟩) hbw).trans y1, (hb.cell (p := ⟨b, off + k * 7 + 2, none⟩) hbw).trans y2, (hb.cell (p := ⟨b, off + k * 7 + 3, none⟩) hbw).trans y3, (hb.cell (p := ⟨b, off + k * 7 + 4, none⟩) hbw).trans y4, (hb.cell (p := ⟨b, off + k * 7 + 5, none⟩) hbw).trans y5, (hb.cell (p := ⟨b, off + k * 7 + 6, none⟩) hbw).trans y6⟩
   obtain ⟨x0, x1, x2, x3, x4, x5, x6⟩ := hSS wr KB
   clear y0 y1 y2 y3 y4 y5 y6
   go_upto_region 4 with fail
   clear x0 x1 x2 x3 x4 x5 x6
   replace KB := jaa KB ((Quiet.one wr).below wr.heap.size)
   have X := hxi.below KB (Nat.le_refl _)
   cases rb
   ·have HNO := Lib.hid (show jat xs = false from je8 hkx (by
     cases k with
     | zero => exact HZ.out rfl
     | succ q => rw [HS.out q rfl]; rfl))
    clear HZ HS
    refine wp_region_held_drew (S := fun w' => w'.cell? ⟨b, off + k * 7, none⟩ = some (.int .i64 x.runner) ∧ w'.cell? ⟨b, off + k * 7 + 1, none⟩ = some (.bool x.started) ∧ w'.cell? ⟨b, off + k * 7 + 2, none⟩ = some (.bool x.out) ∧ w'.cell? ⟨b, off + k * 7 + 3, none⟩ = some (.int .i64 x.number) ∧ w'.cell? ⟨b, off + k * 7 + 4, none⟩ = some (.int .i64 x.start) ∧ w'.cell? ⟨b, off + k * 7 + 5, none⟩ = some (.int .i64 x.finish) ∧ w'.cell? ⟨b, off + k * 7 + 6, none⟩ = some (.slice B0 mc cc0)) (by kernel_rfl) (by (try dsimp only); exact hSS _ KB) (fun hH => ?_)
    generalize wr.drew = wz at *
    refine wQ 0 ?_
    refine wQ 1 ?_
    refine wQ 2 ?_
    refine wQ 3 ?_
    refine wR (rs := [4]) (by kernel_rfl) (by simp) ?_
    refine aC rfl (fun K hK => ?_) aN
    go_simp
    refine (je9 B0 mc cc0 x _ X hmb).mono ?_
    rw [HRB.out]
    rintro e w9 ⟨rfl, b9⟩
    replace KB := jaa KB b9
    clear b9
    generalize w9 = wz at *
    go_wp2_with fail
    refine hK.out _ _ (by (try dsimp only); exact hSS _ KB) (fun hH => ?_)
    clear hK K
    refine wQ 5 ?_
    refine wQ 6 ?_
    refine wU 7 ?_
    refine wU 8 ?_
    refine wU 9 ?_
    refine wU 10 ?_
    refine wU 11 ?_
    refine wU 12 ?_
    refine wU 13 ?_
    refine wU 14 ?_
    refine wU 15 ?_
    refine wU 16 ?_
    refine wU 17 ?_
    refine wU 18 ?_
    refine wU 19 ?_
    refine wU 20 ?_
    refine wU 21 ?_
    refine wU 22 ?_
    refine wQ 23 ?_
    refine wD (by kernel_rfl) ?_ _
    go_wp2_with fail
    go_ret
    rw [HNO.out]
    exact ⟨rfl, KB⟩
   by_cases h0 : k = 0
   ·have HALL := Lib.hid (show ∀ j, j < k + 1 → jd2 xs j = true from fun j hj => by
     by_cases e : j = k
     ·subst e; exact HZ.out h0
     ·exact HA.out j (by omega))
    clear HZ HS
    have g0 : ¬ (0 : Int) < (k : Int) := by omega
    have g0n : ¬ 0 < k := by omega
    have g0d : decide ((0 : Int) < (k : Int)) = false := decide_eq_false g0
    have g0e : decide (0 < k) = false := decide_eq_false g0n
    clear h0
    refine wp_region_held_drew (S := fun w' => w'.cell? ⟨b, off + k * 7, none⟩ = some (.int .i64 x.runner) ∧ w'.cell? ⟨b, off + k * 7 + 1, none⟩ = some (.bool x.started) ∧ w'.cell? ⟨b, off + k * 7 + 2, none⟩ = some (.bool x.out) ∧ w'.cell? ⟨b, off + k * 7 + 3, none⟩ = some (.int .i64 x.number) ∧ w'.cell? ⟨b, off + k * 7 + 4, none⟩ = some (.int .i64 x.start) ∧ w'.cell? ⟨b, off + k * 7 + 5, none⟩ = some (.int .i64 x.finish) ∧ w'.cell? ⟨b, off + k * 7 + 6, none⟩ = some (.slice B0 mc cc0)) (by kernel_rfl) (by (try dsimp only); exact hSS _ KB) (fun hH => ?_)
    generalize wr.drew = wz at *
    refine wQ 0 ?_
    refine wQ 1 ?_
    refine wQ 2 ?_
    refine wQ 3 ?_
    refine wR (rs := [4]) (by kernel_rfl) (by simp) ?_
    refine aC rfl (fun K hK => ?_) aN
    go_simp
    refine (je9 B0 mc cc0 x _ X hmb).mono ?_
    rw [HRB.out]
    rintro e w9 ⟨rfl, b9⟩
    replace KB := jaa KB b9
    clear b9
    generalize w9 = wz at *
    go_wp2_with fail
    refine hK.out _ _ (by (try dsimp only); exact hSS _ KB) (fun hH => ?_)
    clear hK K
    refine wQ 5 ?_
    refine wQ 6 ?_
    refine wQ 7 ?_
    refine wQ 8 ?_
    refine wQ 9 ?_
    refine wU 10 ?_
    refine wU 11 ?_
    refine wU 12 ?_
    refine wU 13 ?_
    refine wU 14 ?_
    refine wU 15 ?_
    refine wU 16 ?_
    refine wU 17 ?_
    refine wU 18 ?_
    refine wU 19 ?_
    refine wU 20 ?_
    refine wU 21 ?_
    refine wQ 22 ?_
    refine wQ 23 ?_
    refine wD (by kernel_rfl) ?_ _
    go_wp2_with fail
    go_roundw
    case rel => exact ⟨k + 1, by omega, by go_num, HALL, KB⟩
    case measure => simp [intOf]; omega
   obtain ⟨q, rfl⟩ : ∃ q, k = q + 1 := ⟨k - 1, by omega⟩
   have g0 : (0 : Int) < (q : Int) + 1 := by omega
   have hq1 : (q : Int) < (n : Int) := by omega
   have hq2 : (q : Int) + 1 < (n : Int) := by omega
   have hq3 : 0 ≤ (q : Int) + 1 := by omega
   have HS1 := Lib.hid (HS.out q rfl)
   obtain ⟨b2, off2, B2, mc2, cc2, e2, hqx, ⟨z0, -⟩, -, -⟩ := hx.elem (show q < n by omega)
   injection e2 with e2
   injection e2 with e3 e4 _
   subst e3 e4
   obtain ⟨y, HY⟩ : ∃ y, Hid (xs[q]'(by omega) = y) := ⟨_, Lib.hid rfl⟩
   rw [HY.out] at z0
   rw [HX.out, HY.out] at HS1
   have hSP : ∀ w' : World, Below w.heap.size w w' → w'.cell? ⟨b, off + q * 7, none⟩ = some (.int .i64 y.runner) := fun w' hb => (hb.cell (p := ⟨b, off + q * 7, none⟩) hbw).trans z0
   have hS1 : ∀ w' : World, Below w.heap.size w w' → w'.cell? ⟨b, off + (q + 1) * 7, none⟩ = some (.int .i64 x.runner) ∧ w'.cell? ⟨b, off + (q + 1) * 7 + 1, none⟩ = some (.bool x.started) ∧ w'.cell? ⟨b, off + (q + 1) * 7 + 2, none⟩ = some (.bool x.out) ∧ w'.cell? ⟨b, off + (q + 1) * 7 + 3, none⟩ = some (.int .i64 x.number) ∧ w'.cell? ⟨b, off + (q + 1) * 7 + 4, none⟩ = some (.int .i64 x.start) ∧ w'.cell? ⟨b, off + (q + 1) * 7 + 5, none⟩ = some (.int .i64 x.finish) ∧ w'.cell? ⟨b, off + (q + 1) * 7 + 6, none⟩ = some (.slice B0 mc cc0) ∧ w'.cell? ⟨b, off + q * 7, none⟩ = some (.int .i64 y.runner) := fun w' hb => by
    obtain ⟨a0, a1, a2, a3, a4, a5, a6⟩ := hSS w' hb
    exact ⟨a0, a1, a2, a3, a4, a5, a6, hSP w' hb⟩
   clear HZ HS z0
   by_cases hlt2 : y.runner < x.runner
   ·have g1 : ¬ x.runner ≤ y.runner := by omega
    have HALL := Lib.hid (show ∀ j, j < q + 1 + 1 → jd2 xs j = true from fun j hj => by
     by_cases e : j = q + 1
     ·subst e; rw [HS1.out, decide_eq_true hlt2]; rfl
     ·exact HA.out j (by omega))
    have hqw : IntKind.i64.wrap (q : Int) = (q : Int) := IntWalk.i64_in _ (by omega)
    refine wp_region_held_drew (S := fun w' => w'.cell? ⟨b, off + (q + 1) * 7, none⟩ = some (.int .i64 x.runner) ∧ w'.cell? ⟨b, off + (q + 1) * 7 + 1, none⟩ = some (.bool x.started) ∧ w'.cell? ⟨b, off + (q + 1) * 7 + 2, none⟩ = some (.bool x.out) ∧ w'.cell? ⟨b, off + (q + 1) * 7 + 3, none⟩ = some (.int .i64 x.number) ∧ w'.cell? ⟨b, off + (q + 1) * 7 + 4, none⟩ = some (.int .i64 x.start) ∧ w'.cell? ⟨b, off + (q + 1) * 7 + 5, none⟩ = some (.int .i64 x.finish) ∧ w'.cell? ⟨b, off + (q + 1) * 7 + 6, none⟩ = some (.slice B0 mc cc0) ∧ w'.cell? ⟨b, off + q * 7, none⟩ = some (.int .i64 y.runner)) (by kernel_rfl) (by (try dsimp only); exact hS1 _ KB) (fun hH => ?_)
    generalize wr.drew = wz at *
    refine wQ 0 ?_
    refine wQ 1 ?_
    refine wQ 2 ?_
    refine wQ 3 ?_
    refine wR (rs := [4]) (by kernel_rfl) (by simp) ?_
    refine aC rfl (fun K hK => ?_) aN
    go_simp
    refine (je9 B0 mc cc0 x _ X hmb).mono ?_
    rw [HRB.out]
    rintro e w9 ⟨rfl, b9⟩
    replace KB := jaa KB b9
    clear b9
    generalize w9 = wz at *
    go_wp2_with fail
    refine hK.out _ _ (by (try dsimp only); exact hS1 _ KB) (fun hH => ?_)
    clear hK K
    refine wQ 5 ?_
    refine wQ 6 ?_
    refine wQ 7 ?_
    refine wQ 8 ?_
    refine wQ 9 ?_
    refine wQ 10 ?_
    refine wQ 11 ?_
    refine wQ 12 ?_
    refine wQ 13 ?_
    refine wQ 14 ?_
    refine wQ 15 ?_
    refine wQ 16 ?_
    refine wQ 17 ?_
    refine wQ 18 ?_
    refine wQ 19 ?_
    refine wQ 20 ?_
    refine wQ 21 ?_
    refine wQ 22 ?_
    refine wQ 23 ?_
    refine wD (by kernel_rfl) ?_ _
    clear hqw
    go_wp2_with fail
    go_roundw
    case rel => exact ⟨(q + 1) + 1, by omega, by go_num, HALL, KB⟩
    case measure => simp [intOf]; omega
   ·have g1 : x.runner ≤ y.runner := by omega
    have HNO := Lib.hid (show jat xs = false from je8 hkx (by rw [HS1.out, decide_eq_false hlt2]; rfl))
    have hqw : IntKind.i64.wrap (q : Int) = (q : Int) := IntWalk.i64_in _ (by omega)
    refine wp_region_held_drew (S := fun w' => w'.cell? ⟨b, off + (q + 1) * 7, none⟩ = some (.int .i64 x.runner) ∧ w'.cell? ⟨b, off + (q + 1) * 7 + 1, none⟩ = some (.bool x.started) ∧ w'.cell? ⟨b, off + (q + 1) * 7 + 2, none⟩ = some (.bool x.out) ∧ w'.cell? ⟨b, off + (q + 1) * 7 + 3, none⟩ = some (.int .i64 x.number) ∧ w'.cell? ⟨b, off + (q + 1) * 7 + 4, none⟩ = some (.int .i64 x.start) ∧ w'.cell? ⟨b, off + (q + 1) * 7 + 5, none⟩ = some (.int .i64 x.finish) ∧ w'.cell? ⟨b, off + (q + 1) * 7 + 6, none⟩ = some (.slice B0 mc cc0) ∧ w'.cell? ⟨b, off + q * 7, none⟩ = some (.int .i64 y.runner)) (by kernel_rfl) (by (try dsimp only); exact hS1 _ KB) (fun hH => ?_)
    generalize wr.drew = wz at *
    refine wQ 0 ?_
    refine wQ 1 ?_
    refine wQ 2 ?_
    refine wQ 3 ?_
    refine wR (rs := [4]) (by kernel_rfl) (by simp) ?_
    refine aC rfl (fun K hK => ?_) aN
    go_simp
    refine (je9 B0 mc cc0 x _ X hmb).mono ?_
    rw [HRB.out]
    rintro e w9 ⟨rfl, b9⟩
    replace KB := jaa KB b9
    clear b9
    generalize w9 = wz at *
    go_wp2_with fail
    refine hK.out _ _ (by (try dsimp only); exact hS1 _ KB) (fun hH => ?_)
    clear hK K
    refine wQ 5 ?_
    refine wQ 6 ?_
    refine wQ 7 ?_
    refine wQ 8 ?_
    refine wQ 9 ?_
    refine wQ 10 ?_
    refine wQ 11 ?_
    refine wQ 12 ?_
    refine wQ 13 ?_
    refine wQ 14 ?_
    refine wQ 15 ?_
    refine wQ 16 ?_
    refine wQ 17 ?_
    refine wQ 18 ?_
    refine wQ 19 ?_
    refine wQ 20 ?_
    refine wQ 21 ?_
    refine wQ 22 ?_
    refine wQ 23 ?_
    refine wD (by kernel_rfl) ?_ _
    clear hqw
    go_wp2_with fail
    go_ret
    rw [HNO.out]
    exact ⟨rfl, KB⟩
  ·obtain rfl : k = n := by omega
   have hlti : ¬ (k : Int) < (k : Int) := by omega
   have HE := Lib.hid (show jat xs = decide (xs.length ≤ 10) from ji1 (by rw [HLN.out]; exact HA.out))
   by_cases h10 : k ≤ 10
   ·have g0 : (k : Int) ≤ 10 := by omega
    have HF := Lib.hid (show jat xs = true by rw [HE.out, HLN.out]; exact decide_eq_true h10)
    go_wp2_with fail
    go_ret
    rw [HF.out]
    exact ⟨jab (by simp), KB⟩
   ·have g0 : ¬ (k : Int) ≤ 10 := by omega
    have HF := Lib.hid (show jat xs = false by rw [HE.out, HLN.out]; exact decide_eq_false h10)
    go_wp2_with fail
    go_ret
    rw [HF.out]
    exact ⟨jab (by simp), KB⟩
theorem jk8 (A : Option Addr) (n c : Nat) (xs : List RunE) (B : Option Addr) (m e : Nat) (cs : List Int) (limit : Int) (w : World) (hx : SeesC w 0 A n xs) (hn : n ≤ 1048576) (hi : ∀ x ∈ xs, x.punches.length ≤ 1048576) (hy : Sees w 0 1 B m (jb4 cs)) (hm : m ≤ 1048576) :
  Calls Tryz.prog 177 #[.slice A n c, .slice B m e, .int .i64 limit] w fun e' w' => e' = .returned (.bool (jd8 xs cs limit)) ∧ Below w.heap.size w w' := by
 obtain ⟨r1, h1⟩ : ∃ r1, jat xs = r1 := ⟨_, rfl⟩
 obtain ⟨r2, h2⟩ : ∃ r2, jec cs = r2 := ⟨_, rfl⟩
 obtain ⟨r3, h3⟩ : ∃ r3, inB limit 1 36000 = r3 := ⟨_, rfl⟩
 have HR := Lib.hid (show jd8 xs cs limit = (r1 && (r2 && r3)) by unfold jd8; rw [h1, h2, h3])
 have H1 := Lib.hid h1
 have H2 := Lib.hid h2
 have H3 := Lib.hid h3
 clear h1 h2 h3
 go_enter Tryz.func177, Tryz.ntmps177
 go_wp2_with fail
 refine (jmz A n c xs w hx hn hi).mono ?_
 rw [H1.out]
 rintro e9 w1 ⟨rfl, b1⟩
 cases r1
 ·go_wp2_with fail
  go_ret
  rw [HR.out]
  exact ⟨rfl, b1⟩
 go_wp2_with fail
 refine (jlr B m e cs w1 (hy.next b1) hm).mono ?_
 rw [H2.out]
 rintro e w2 ⟨rfl, b2⟩
 have K2 := jaa b1 b2
 cases r2
 ·go_wp2_with fail
  go_ret
  rw [HR.out]
  exact ⟨rfl, K2⟩
 go_wp2_with (go_at_call 70; refine (jaf _ _ _ _).mono ?_; rw [H3.out]; rintro e w' ⟨rfl, rfl⟩)
 go_ret
 rw [HR.out]
 exact ⟨jab (by cases r3 <;> rfl), K2⟩
theorem jmc (A : Option Addr) (n c : Nat) (xs : List RunE) (B : Option Addr) (m e : Nat) (cs : List Int) (limit : Int) (w : World) (hx : SeesC w 0 A n xs) (hn : n ≤ 1048576) (hi : ∀ x ∈ xs, x.punches.length ≤ 1048576) (hy : Sees w 0 1 B m (jb4 cs)) (hm : m ≤ 1048576) :
  Calls Tryz.prog 124 #[.slice A n c, .slice B m e, .int .i64 limit] w fun e' w' => e' = .returned (.bool (jd8 xs cs limit)) ∧ Below w.heap.size w w' := by
 obtain ⟨r1, h1⟩ : ∃ r1, jat xs = r1 := ⟨_, rfl⟩
 obtain ⟨r2, h2⟩ : ∃ r2, jec cs = r2 := ⟨_, rfl⟩
 obtain ⟨r3, h3⟩ : ∃ r3, inB limit 1 36000 = r3 := ⟨_, rfl⟩
 have HR := Lib.hid (show jd8 xs cs limit = (r1 && (r2 && r3)) by unfold jd8; rw [h1, h2, h3])
 have H1 := Lib.hid h1
 have H2 := Lib.hid h2
 have H3 := Lib.hid h3
 clear h1 h2 h3
 go_enter Tryz.func124, Tryz.ntmps124
 go_wp2_with fail
 refine (jnb A n c xs w hx hn hi).mono ?_
 rw [H1.out]
 rintro e9 w1 ⟨rfl, b1⟩
 cases r1
 ·go_wp2_with fail
  go_ret
  rw [HR.out]
  exact ⟨rfl, b1⟩
 go_wp2_with fail
 refine (jl6 B m e cs w1 (hy.next b1) hm).mono ?_
 rw [H2.out]
 rintro e w2 ⟨rfl, rfl⟩
 have K2 := b1
 cases r2
 ·go_wp2_with fail
  go_ret
  rw [HR.out]
  exact ⟨rfl, K2⟩
 go_wp2_with (go_at_call 111; refine (jae _ _ _ _).mono ?_; rw [H3.out]; rintro e w' ⟨rfl, rfl⟩)
 go_ret
 rw [HR.out]
 exact ⟨jab (by cases r3 <;> rfl), K2⟩
end Go.Proofs.YtflpcdffmpfdpaaGreatDoor
