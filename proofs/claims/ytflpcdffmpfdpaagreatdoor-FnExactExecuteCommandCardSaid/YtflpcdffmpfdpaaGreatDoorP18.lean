/- Joined texts of this proof: RunD, RunG, RunH. -/
import Derived.Test.YtflpcdffmpfdpaaGreatDoorP13
import Derived.Test.YtflpcdffmpfdpaaGreatDoorP17
namespace Go.Proofs.YtflpcdffmpfdpaaGreatDoor
open Go.RowKit

theorem runB_card {x : RunE} (h : runB x = true) (hs : x.started = true) : cardB x.card = true := by
  unfold runB at h
  rw [hs, if_pos rfl] at h
  simp only [Bool.and_eq_true] at h
  exact h.2
theorem statM_le (x : RunE) (cs : List Int) (limit : Int) : 0 ≤ statM x cs limit ∧ statM x cs limit ≤ 5 := by
  unfold statM
  by_cases h1 : x.started = false
  · rw [if_pos h1]; omega
  rw [if_neg h1]
  by_cases h2 : x.out = true
  · rw [if_pos h2]; omega
  rw [if_neg h2]
  by_cases h3 : x.finish = -1
  · rw [if_pos h3]; omega
  rw [if_neg h3]
  by_cases h4 : 0 < (missL x.card cs).length
  · rw [if_pos h4]; omega
  rw [if_neg h4]
  by_cases h5 : limit < x.finish - x.start
  · rw [if_pos h5]; omega
  · rw [if_neg h5]; omega

set_option maxRecDepth 100000 in
theorem runTime_any (A : Option Addr) (n c : Nat) (x : RunE) (w : World) (h0 : -1 ≤ x.finish ∧ x.finish ≤ 36000) (h1 : 0 ≤ x.start ∧ x.start ≤ 36000) :
    Calls Tryz.prog 183 #[.agg #[.int .i64 x.runner, .bool x.started, .bool x.out, .int .i64 x.number, .int .i64 x.start, .int .i64 x.finish, .slice A n c]] w fun e w' => e = .returned (.int .i64 (x.finish - x.start)) ∧ Below w.heap.size w w' := by
  obtain ⟨rn, st, ou, nu, sa, fi, ps⟩ := x
  dsimp only at *
  obtain ⟨h00, h01⟩ := h0
  obtain ⟨h10, h11⟩ := h1
  have K : Below w.heap.size w (w.alloc (.cells #[.int .i64 rn, .bool st, .bool ou, .int .i64 nu, .int .i64 sa, .int .i64 fi, .slice A n c] 160)) := (Below.refl w.heap.size w).alloc (Nat.le_refl _) _
  have P : Blk (w.alloc (.cells #[.int .i64 rn, .bool st, .bool ou, .int .i64 nu, .int .i64 sa, .int .i64 fi, .slice A n c] 160)) w.heap.size 160 [.int .i64 rn, .bool st, .bool ou, .int .i64 nu, .int .i64 sa, .int .i64 fi, .slice A n c] := Blk.at_ rfl
  have pc := P.cell
  go_enter Tryz.func183, Tryz.ntmps183
  go_wp2_with fail
  go_ret
  exact ⟨rfl, K⟩

set_option maxRecDepth 100000 in
theorem l15Time_any (A : Option Addr) (n c : Nat) (x : RunE) (w : World) (h0 : -1 ≤ x.finish ∧ x.finish ≤ 36000) (h1 : 0 ≤ x.start ∧ x.start ≤ 36000) :
    Calls Tryz.prog 165 #[.agg #[.int .i64 x.runner, .bool x.started, .bool x.out, .int .i64 x.number, .int .i64 x.start, .int .i64 x.finish, .slice A n c]] w fun e w' => e = .returned (.int .i64 (x.finish - x.start)) ∧ Below w.heap.size w w' := by
  obtain ⟨rn, st, ou, nu, sa, fi, ps⟩ := x
  dsimp only at *
  obtain ⟨h00, h01⟩ := h0
  obtain ⟨h10, h11⟩ := h1
  have K : Below w.heap.size w (w.alloc (.cells #[.int .i64 rn, .bool st, .bool ou, .int .i64 nu, .int .i64 sa, .int .i64 fi, .slice A n c] 160)) := (Below.refl w.heap.size w).alloc (Nat.le_refl _) _
  have P : Blk (w.alloc (.cells #[.int .i64 rn, .bool st, .bool ou, .int .i64 nu, .int .i64 sa, .int .i64 fi, .slice A n c] 160)) w.heap.size 160 [.int .i64 rn, .bool st, .bool ou, .int .i64 nu, .int .i64 sa, .int .i64 fi, .slice A n c] := Blk.at_ rfl
  have pc := P.cell
  go_enter Tryz.func165, Tryz.ntmps165
  go_wp2_with fail
  go_ret
  exact ⟨rfl, K⟩

set_option maxRecDepth 100000 in
set_option maxHeartbeats 2000000 in
theorem statusOf_any (A : Option Addr) (n c : Nat) (x : RunE) (B : Option Addr) (m e : Nat) (cs : List Int) (limit : Int) (w : World) (hx : Sees w 0 2 A n (x.punches.flatMap Punch.enc)) (hn : n ≤ 1048576) (hnc : n ≤ c) (hy : Sees w 0 1 B m (ints cs)) (hm : m ≤ 1048576) (hr : runB x = true) :
    Calls Tryz.prog 181 #[.agg #[.int .i64 x.runner, .bool x.started, .bool x.out, .int .i64 x.number, .int .i64 x.start, .int .i64 x.finish, .slice A n c], .slice B m e, .int .i64 limit] w fun e' w' => e' = .returned (.int .i64 (statM x cs limit)) ∧ Below w.heap.size w w' := by
  have hcd := fun h => card_bounds (runB_card hr h)
  obtain ⟨rn, st, ou, nu, sa, fi, ps⟩ := x
  dsimp only at *
  have K : Below w.heap.size w (w.alloc (.cells #[.int .i64 rn, .bool st, .bool ou, .int .i64 nu, .int .i64 sa, .int .i64 fi, .slice A n c] 160)) := (Below.refl w.heap.size w).alloc (Nat.le_refl _) _
  have P : Blk (w.alloc (.cells #[.int .i64 rn, .bool st, .bool ou, .int .i64 nu, .int .i64 sa, .int .i64 fi, .slice A n c] 160)) w.heap.size 160 [.int .i64 rn, .bool st, .bool ou, .int .i64 nu, .int .i64 sa, .int .i64 fi, .slice A n c] := Blk.at_ rfl
  go_enter Tryz.func181, Tryz.ntmps181
  go_upto_region 1 with fail
  generalize w.alloc (.cells #[.int .i64 rn, .bool st, .bool ou, .int .i64 nu, .int .i64 sa, .int .i64 fi, .slice A n c] 160) = w1 at *
  have pc := P.cell
  cases st
  · have HR := Lib.hid (show statM ⟨rn, false, ou, nu, sa, fi, ps⟩ cs limit = 5 from rfl)
    clear hcd
    go_wp2_with fail
    go_ret
    rw [HR.out]
    exact ⟨rfl, K⟩
  cases ou
  rotate_left 1
  · have HR := Lib.hid (show statM ⟨rn, true, true, nu, sa, fi, ps⟩ cs limit = 4 from rfl)
    clear hcd
    go_wp2_with fail
    go_ret
    rw [HR.out]
    exact ⟨rfl, K⟩
  obtain ⟨-, hs, hf, -, -⟩ := hcd rfl
  have hs' : 0 ≤ sa ∧ sa ≤ 36000 := hs
  have hf' : -1 ≤ fi ∧ fi ≤ 36000 := hf
  have HR0 := Lib.hid (show statM ⟨rn, true, false, nu, sa, fi, ps⟩ cs limit = (if fi = -1 then 2 else if 0 < (missL ⟨nu, sa, fi, ps⟩ cs).length then 1 else if limit < fi - sa then 3 else 0) from rfl)
  clear hcd hs hf hr
  by_cases f1 : fi = -1
  · have g1 : (fi == -1) = true := beq_iff_eq.2 f1
    have HR := Lib.hid (show statM ⟨rn, true, false, nu, sa, fi, ps⟩ cs limit = 2 by rw [HR0.out, if_pos f1])
    clear f1
    go_wp2_with fail
    go_ret
    rw [HR.out]
    exact ⟨rfl, K⟩
  have g1 : (fi == -1) = false := beq_eq_false_iff_ne.2 f1
  have HR1 := Lib.hid (HR0.out.trans (if_neg f1))
  clear f1
  obtain ⟨ML, hML⟩ : ∃ ML, missL ⟨nu, sa, fi, ps⟩ cs = ML := ⟨_, rfl⟩
  have HML := Lib.hid hML
  have hlm : ML.length ≤ 1048576 := by
    rw [← hML]
    have h1 := missL_len ⟨nu, sa, fi, ps⟩ cs
    have h2 := hy.icount
    omega
  rw [hML] at HR1
  clear hML
  go_wp2_with fail
  refine (missingCodes_any A n c ⟨nu, sa, fi, ps⟩ B m e cs w1 (hx.below K (Nat.le_refl _)) hn hnc (hy.below K (Nat.le_refl _)) hm).mono ?_
  rw [HML.out]
  rintro e9 w2 ⟨A9, c9, rfl, o9, b⟩
  replace P := P.next b
  replace K := bel_then K b
  clear b o9 pc
  have pc := P.cell
  by_cases l0 : 0 < ML.length
  · have g2 : (0 : Int) < (ML.length : Int) := by omega
    have HR := Lib.hid (HR1.out.trans (if_pos l0))
    clear l0
    go_wp2_with fail
    go_ret
    rw [HR.out]
    exact ⟨rfl, K⟩
  have g2 : ¬ (0 : Int) < (ML.length : Int) := by omega
  have HR2 := Lib.hid (HR1.out.trans (if_neg l0))
  clear l0
  go_wp2_with fail
  refine (runTime_any A n c ⟨rn, true, false, nu, sa, fi, ps⟩ w2 hf' hs').mono ?_
  rintro e9 w3 ⟨rfl, b⟩
  replace K := bel_then K b
  clear b pc P
  dsimp only
  by_cases l1 : limit < fi - sa
  · have HR := Lib.hid (HR2.out.trans (if_pos l1))
    go_wp2_with fail
    go_ret
    rw [HR.out]
    exact ⟨rfl, K⟩
  · have HR := Lib.hid (HR2.out.trans (if_neg l1))
    go_wp2_with fail
    go_ret
    rw [HR.out]
    exact ⟨rfl, K⟩

set_option maxRecDepth 100000 in
set_option maxHeartbeats 2000000 in
theorem l15Status_any (A : Option Addr) (n c : Nat) (x : RunE) (B : Option Addr) (m e : Nat) (cs : List Int) (limit : Int) (w : World) (hx : Sees w 0 2 A n (x.punches.flatMap Punch.enc)) (hn : n ≤ 1048576) (hy : Sees w 0 1 B m (ints cs)) (hm : m ≤ 1048576) (hr : runB x = true) :
    Calls Tryz.prog 164 #[.agg #[.int .i64 x.runner, .bool x.started, .bool x.out, .int .i64 x.number, .int .i64 x.start, .int .i64 x.finish, .slice A n c], .slice B m e, .int .i64 limit] w fun e' w' => e' = .returned (.int .i64 (statM x cs limit)) ∧ Below w.heap.size w w' := by
  have hcd := fun h => card_bounds (runB_card hr h)
  obtain ⟨rn, st, ou, nu, sa, fi, ps⟩ := x
  dsimp only at *
  have K : Below w.heap.size w (w.alloc (.cells #[.int .i64 rn, .bool st, .bool ou, .int .i64 nu, .int .i64 sa, .int .i64 fi, .slice A n c] 160)) := (Below.refl w.heap.size w).alloc (Nat.le_refl _) _
  have P : Blk (w.alloc (.cells #[.int .i64 rn, .bool st, .bool ou, .int .i64 nu, .int .i64 sa, .int .i64 fi, .slice A n c] 160)) w.heap.size 160 [.int .i64 rn, .bool st, .bool ou, .int .i64 nu, .int .i64 sa, .int .i64 fi, .slice A n c] := Blk.at_ rfl
  go_enter Tryz.func164, Tryz.ntmps164
  go_upto_region 1 with fail
  generalize w.alloc (.cells #[.int .i64 rn, .bool st, .bool ou, .int .i64 nu, .int .i64 sa, .int .i64 fi, .slice A n c] 160) = w1 at *
  have pc := P.cell
  cases st
  · have HR := Lib.hid (show statM ⟨rn, false, ou, nu, sa, fi, ps⟩ cs limit = 5 from rfl)
    clear hcd
    go_wp2_with fail
    go_ret
    rw [HR.out]
    exact ⟨rfl, K⟩
  cases ou
  rotate_left 1
  · have HR := Lib.hid (show statM ⟨rn, true, true, nu, sa, fi, ps⟩ cs limit = 4 from rfl)
    clear hcd
    go_wp2_with fail
    go_ret
    rw [HR.out]
    exact ⟨rfl, K⟩
  obtain ⟨-, hs, hf, -, -⟩ := hcd rfl
  have hs' : 0 ≤ sa ∧ sa ≤ 36000 := hs
  have hf' : -1 ≤ fi ∧ fi ≤ 36000 := hf
  have HR0 := Lib.hid (show statM ⟨rn, true, false, nu, sa, fi, ps⟩ cs limit = (if fi = -1 then 2 else if 0 < (missL ⟨nu, sa, fi, ps⟩ cs).length then 1 else if limit < fi - sa then 3 else 0) from rfl)
  clear hcd hs hf hr
  by_cases f1 : fi = -1
  · have g1 : (fi == -1) = true := beq_iff_eq.2 f1
    have HR := Lib.hid (show statM ⟨rn, true, false, nu, sa, fi, ps⟩ cs limit = 2 by rw [HR0.out, if_pos f1])
    clear f1
    go_wp2_with fail
    go_ret
    rw [HR.out]
    exact ⟨rfl, K⟩
  have g1 : (fi == -1) = false := beq_eq_false_iff_ne.2 f1
  have HR1 := Lib.hid (HR0.out.trans (if_neg f1))
  clear f1
  obtain ⟨ML, hML⟩ : ∃ ML, missL ⟨nu, sa, fi, ps⟩ cs = ML := ⟨_, rfl⟩
  have HML := Lib.hid hML
  have hlm : ML.length ≤ 1048576 := by
    rw [← hML]
    have h1 := missL_len ⟨nu, sa, fi, ps⟩ cs
    have h2 := hy.icount
    omega
  rw [hML] at HR1
  clear hML
  go_wp2_with fail
  refine (l12Missing_any A n c ⟨nu, sa, fi, ps⟩ B m e cs w1 (hx.below K (Nat.le_refl _)) hn (hy.below K (Nat.le_refl _)) hm).mono ?_
  rw [HML.out]
  rintro e9 w2 ⟨A9, c9, rfl, o9, b⟩
  replace P := P.next b
  replace K := bel_then K b
  clear b o9 pc
  have pc := P.cell
  by_cases l0 : 0 < ML.length
  · have g2 : (0 : Int) < (ML.length : Int) := by omega
    have HR := Lib.hid (HR1.out.trans (if_pos l0))
    clear l0
    go_wp2_with fail
    go_ret
    rw [HR.out]
    exact ⟨rfl, K⟩
  have g2 : ¬ (0 : Int) < (ML.length : Int) := by omega
  have HR2 := Lib.hid (HR1.out.trans (if_neg l0))
  clear l0
  go_wp2_with fail
  refine (l15Time_any A n c ⟨rn, true, false, nu, sa, fi, ps⟩ w2 hf' hs').mono ?_
  rintro e9 w3 ⟨rfl, b⟩
  replace K := bel_then K b
  clear b pc P
  dsimp only
  by_cases l1 : limit < fi - sa
  · have HR := Lib.hid (HR2.out.trans (if_pos l1))
    go_wp2_with fail
    go_ret
    rw [HR.out]
    exact ⟨rfl, K⟩
  · have HR := Lib.hid (HR2.out.trans (if_neg l1))
    go_wp2_with fail
    go_ret
    rw [HR.out]
    exact ⟨rfl, K⟩

end Go.Proofs.YtflpcdffmpfdpaaGreatDoor

namespace Go.Proofs.YtflpcdffmpfdpaaGreatDoor
open Go.RowKit

def okRun (xs : List RunE) (k : Nat) : Bool := match xs[k]? with
  | some x => runB x && (match k with | 0 => true | j + 1 => match xs[j]? with | some y => decide (y.runner < x.runner) | none => true)
  | none => true
def areRunsB (xs : List RunE) : Bool := allTo xs.length (okRun xs) && decide (xs.length ≤ 10)
theorem okRun_zero {xs : List RunE} (h : 0 < xs.length) : okRun xs 0 = runB xs[0] := by unfold okRun; rw [List.getElem?_eq_getElem h]; simp
theorem okRun_next {xs : List RunE} {q : Nat} (h : q + 1 < xs.length) : okRun xs (q + 1) = (runB xs[q + 1] && decide (xs[q].runner < xs[q + 1].runner)) := by
  unfold okRun
  rw [List.getElem?_eq_getElem h]
  simp only []
  rw [List.getElem?_eq_getElem (show q < xs.length by omega)]
theorem areRuns_no {xs : List RunE} {k : Nat} (hk : k < xs.length) (h : okRun xs k = false) : areRunsB xs = false := by
  unfold areRunsB
  cases ha : allTo xs.length (okRun xs) with
  | false => rfl
  | true => rw [allTo_at ha hk] at h; cases h
theorem areRuns_end {xs : List RunE} (h : ∀ j, j < xs.length → okRun xs j = true) : areRunsB xs = decide (xs.length ≤ 10) := by
  unfold areRunsB
  rw [show allTo xs.length (okRun xs) = true from List.all_eq_true.2 fun j hj => h j (List.mem_range.1 hj), Bool.true_and]
theorem okRun_runB {xs : List RunE} {k : Nat} (hk : k < xs.length) (h : okRun xs k = true) : runB xs[k] = true := by
  unfold okRun at h
  rw [List.getElem?_eq_getElem hk] at h
  simp only [Bool.and_eq_true] at h
  exact h.1
theorem areRuns_facts {xs : List RunE} (h : areRunsB xs = true) : xs.length ≤ 10 ∧ ∀ (k : Nat) (hk : k < xs.length), runB xs[k] = true := by
  unfold areRunsB at h
  simp only [Bool.and_eq_true, decide_eq_true_eq] at h
  exact ⟨h.2, fun k hk => okRun_runB hk (allTo_at h.1 hk)⟩
def judgeB (xs : List RunE) (cs : List Int) (limit : Int) : Bool := areRunsB xs && (codesB cs && inB limit 1 36000)

set_option maxRecDepth 100000 in
set_option maxHeartbeats 4000000 in
theorem AreRuns_any (A : Option Addr) (n c : Nat) (xs : List RunE) (w : World) (hx : SeesC w 0 A n xs) (hn : n ≤ 1048576) (hi : ∀ x ∈ xs, x.punches.length ≤ 1048576) :
    Calls Tryz.prog 216 #[.slice A n c] w fun e w' => e = .returned (.bool (areRunsB xs)) ∧ Below w.heap.size w w' := by
  have HLN := Lib.hid hx.count
  have KB := Below.refl w.heap.size w
  go_enter Tryz.func216, Tryz.ntmps216
  go_wp2_with fail
  go_loopw [7] (fun iv wr => ∃ (k : Nat), k ≤ n ∧ iv = .int .i64 (k : Int) ∧ Hid (∀ j, j < k → okRun xs j = true) ∧ Below w.heap.size w wr) (fun iv _ => n - (intOf iv).toNat)
  case atStart => exact ⟨0, Nat.zero_le _, rfl, Lib.hid (fun j h => absurd h (Nat.not_lt_zero _)), KB⟩
  case round =>
    clear KB
    obtain ⟨k, hk, rfl, HA, KB⟩ := hrel
    by_cases hlt : k < n
    · obtain ⟨b, off, B0, mc, cc0, rfl, hkx, ⟨y0, y1, y2, y3, y4, y5, y6⟩, hxi, hcap⟩ := hx.elem hlt
      have hmb : mc ≤ 1048576 := by
        have h1 := hi xs[k] (List.getElem_mem hkx)
        have hmc := hxi.count (by decide) (fun _ => rfl)
        omega
      obtain ⟨rb, hrb⟩ : ∃ rb, runB xs[k] = rb := ⟨_, rfl⟩
      have HZ := Lib.hid (fun (e : k = 0) => show okRun xs k = rb by subst e; rw [okRun_zero hkx]; exact hrb)
      have HS := Lib.hid (fun (q : Nat) (e : k = q + 1) => show okRun xs k = (rb && decide ((xs[q]'(by omega)).runner < xs[k].runner)) by subst e; rw [okRun_next hkx]; rw [hrb])
      obtain ⟨x, HX⟩ : ∃ x, Hid (xs[k] = x) := ⟨_, Lib.hid rfl⟩
      rw [HX.out] at y0 y1 y2 y3 y4 y5 hxi hrb
      have HRB := Lib.hid hrb
      clear hrb
      have hbw : b < w.heap.size := World.block_lt_of_cell? w _ y0
      have hlti : (k : Int) < (n : Int) := by omega
      have hSS : ∀ w' : World, Below w.heap.size w w' → w'.cell? ⟨b, off + k * 7, none⟩ = some (.int .i64 x.runner) ∧ w'.cell? ⟨b, off + k * 7 + 1, none⟩ = some (.bool x.started) ∧ w'.cell? ⟨b, off + k * 7 + 2, none⟩ = some (.bool x.out) ∧ w'.cell? ⟨b, off + k * 7 + 3, none⟩ = some (.int .i64 x.number) ∧ w'.cell? ⟨b, off + k * 7 + 4, none⟩ = some (.int .i64 x.start) ∧ w'.cell? ⟨b, off + k * 7 + 5, none⟩ = some (.int .i64 x.finish) ∧ w'.cell? ⟨b, off + k * 7 + 6, none⟩ = some (.slice B0 mc cc0) := fun w' hb => ⟨(hb.cell (p := ⟨b, off + k * 7, none⟩) hbw).trans y0, (hb.cell (p := ⟨b, off + k * 7 + 1, none⟩) hbw).trans y1, (hb.cell (p := ⟨b, off + k * 7 + 2, none⟩) hbw).trans y2, (hb.cell (p := ⟨b, off + k * 7 + 3, none⟩) hbw).trans y3, (hb.cell (p := ⟨b, off + k * 7 + 4, none⟩) hbw).trans y4, (hb.cell (p := ⟨b, off + k * 7 + 5, none⟩) hbw).trans y5, (hb.cell (p := ⟨b, off + k * 7 + 6, none⟩) hbw).trans y6⟩
      obtain ⟨x0, x1, x2, x3, x4, x5, x6⟩ := hSS wr KB
      clear y0 y1 y2 y3 y4 y5 y6
      have U : Below wr.heap.size wr (wr.alloc (.cells #[.int .i64 x.runner, .bool x.started, .bool x.out, .int .i64 x.number, .int .i64 x.start, .int .i64 x.finish, .slice B0 mc cc0] 160)) := (Below.refl _ _).alloc (Nat.le_refl _) _
      have E : Blk (wr.alloc (.cells #[.int .i64 x.runner, .bool x.started, .bool x.out, .int .i64 x.number, .int .i64 x.start, .int .i64 x.finish, .slice B0 mc cc0] 160)) wr.heap.size 160 [.int .i64 x.runner, .bool x.started, .bool x.out, .int .i64 x.number, .int .i64 x.start, .int .i64 x.finish, .slice B0 mc cc0] := Blk.at_ rfl
      replace KB := bel_then KB U
      clear U
      go_upto_region 4 with fail
      clear x0 x1 x2 x3 x4 x5 x6 hSS
      generalize wr.alloc (.cells #[.int .i64 x.runner, .bool x.started, .bool x.out, .int .i64 x.number, .int .i64 x.start, .int .i64 x.finish, .slice B0 mc cc0] 160) = w1 at *
      generalize wr.heap.size = ge at *
      replace E := E.next ((Quiet.one w1).below w1.heap.size)
      replace KB := bel_then KB ((Quiet.one w1).below w1.heap.size)
      have X := hxi.below KB (Nat.le_refl _)
      cases rb
      · have HNO := Lib.hid (show areRunsB xs = false from areRuns_no hkx (by
          cases k with
          | zero => exact HZ.out rfl
          | succ q => rw [HS.out q rfl]; rfl))
        clear HZ HS
        refine wp_region_held_drew (S := fun w' => w'.cell? ⟨ge, 0, none⟩ = some (.int .i64 x.runner) ∧ w'.cell? ⟨ge, 1, none⟩ = some (.bool x.started) ∧ w'.cell? ⟨ge, 2, none⟩ = some (.bool x.out) ∧ w'.cell? ⟨ge, 3, none⟩ = some (.int .i64 x.number) ∧ w'.cell? ⟨ge, 4, none⟩ = some (.int .i64 x.start) ∧ w'.cell? ⟨ge, 5, none⟩ = some (.int .i64 x.finish) ∧ w'.cell? ⟨ge, 6, none⟩ = some (.slice B0 mc cc0)) (by kernel_rfl) (by (try dsimp only); exact ⟨E.cell 0, E.cell 1, E.cell 2, E.cell 3, E.cell 4, E.cell 5, E.cell 6⟩) (fun hH => ?_)
        generalize w1.drew = wz at *
        refine wQ 0 ?_
        refine wR (rs := [1]) (by kernel_rfl) (by simp) ?_
        refine aC rfl (fun K hK => ?_) aN
        go_simp
        refine (isRun_any B0 mc cc0 x _ X hmb).mono ?_
        rw [HRB.out]
        rintro e w9 ⟨rfl, b9⟩
        replace E := E.next b9
        replace KB := bel_then KB b9
        clear b9
        generalize w9 = wz at *
        go_wp2_with fail
        refine hK.out _ _ (by (try dsimp only); exact ⟨E.cell 0, E.cell 1, E.cell 2, E.cell 3, E.cell 4, E.cell 5, E.cell 6⟩) (fun hH => ?_)
        clear hK K
        refine wQ 2 ?_
        refine wQ 3 ?_
        refine wU 4 ?_
        refine wU 5 ?_
        refine wU 6 ?_
        refine wU 7 ?_
        refine wU 8 ?_
        refine wU 9 ?_
        refine wU 10 ?_
        refine wU 11 ?_
        refine wU 12 ?_
        refine wU 13 ?_
        refine wU 14 ?_
        refine wU 15 ?_
        refine wU 16 ?_
        refine wQ 17 ?_
        refine wD (by kernel_rfl) ?_ _
        go_wp2_with fail
        go_ret
        rw [HNO.out]
        exact ⟨rfl, KB⟩
      by_cases h0 : k = 0
      · have HALL := Lib.hid (show ∀ j, j < k + 1 → okRun xs j = true from fun j hj => by
          by_cases e : j = k
          · subst e; exact HZ.out h0
          · exact HA.out j (by omega))
        clear HZ HS
        have g0 : ¬ (0 : Int) < (k : Int) := by omega
        have g0n : ¬ 0 < k := by omega
        have g0d : decide ((0 : Int) < (k : Int)) = false := decide_eq_false g0
        have g0e : decide (0 < k) = false := decide_eq_false g0n
        clear h0
        refine wp_region_held_drew (S := fun w' => w'.cell? ⟨ge, 0, none⟩ = some (.int .i64 x.runner) ∧ w'.cell? ⟨ge, 1, none⟩ = some (.bool x.started) ∧ w'.cell? ⟨ge, 2, none⟩ = some (.bool x.out) ∧ w'.cell? ⟨ge, 3, none⟩ = some (.int .i64 x.number) ∧ w'.cell? ⟨ge, 4, none⟩ = some (.int .i64 x.start) ∧ w'.cell? ⟨ge, 5, none⟩ = some (.int .i64 x.finish) ∧ w'.cell? ⟨ge, 6, none⟩ = some (.slice B0 mc cc0)) (by kernel_rfl) (by (try dsimp only); exact ⟨E.cell 0, E.cell 1, E.cell 2, E.cell 3, E.cell 4, E.cell 5, E.cell 6⟩) (fun hH => ?_)
        generalize w1.drew = wz at *
        refine wQ 0 ?_
        refine wR (rs := [1]) (by kernel_rfl) (by simp) ?_
        refine aC rfl (fun K hK => ?_) aN
        go_simp
        refine (isRun_any B0 mc cc0 x _ X hmb).mono ?_
        rw [HRB.out]
        rintro e w9 ⟨rfl, b9⟩
        replace E := E.next b9
        replace KB := bel_then KB b9
        clear b9
        generalize w9 = wz at *
        go_wp2_with fail
        refine hK.out _ _ (by (try dsimp only); exact ⟨E.cell 0, E.cell 1, E.cell 2, E.cell 3, E.cell 4, E.cell 5, E.cell 6⟩) (fun hH => ?_)
        clear hK K
        refine wQ 2 ?_
        refine wQ 3 ?_
        refine wQ 4 ?_
        refine wQ 5 ?_
        refine wQ 6 ?_
        refine wU 7 ?_
        refine wU 8 ?_
        refine wU 9 ?_
        refine wU 10 ?_
        refine wU 11 ?_
        refine wU 12 ?_
        refine wU 13 ?_
        refine wU 14 ?_
        refine wU 15 ?_
        refine wQ 16 ?_
        refine wQ 17 ?_
        refine wD (by kernel_rfl) ?_ _
        go_wp2_with fail
        go_roundw
        case rel => exact ⟨k + 1, by omega, by go_num, HALL, KB⟩
        case measure => simp [intOf]; omega
      obtain ⟨q, rfl⟩ : ∃ q, k = q + 1 := ⟨k - 1, by omega⟩
      have g0 : (0 : Int) < (q : Int) + 1 := by omega
      have hq1 : (q : Int) < (n : Int) := by omega
      have hq2 : (q : Int) + 1 < (n : Int) := by omega
      have hq3 : 0 ≤ (q : Int) + 1 := by omega
      have HS1 := Lib.hid (HS.out q rfl)
      obtain ⟨b2, off2, B2, mc2, cc2, e2, hqx, ⟨z0, -⟩, -, -⟩ := hx.elem (show q < n by omega)
      injection e2 with e2
      injection e2 with e3 e4 _
      subst e3 e4
      obtain ⟨y, HY⟩ : ∃ y, Hid (xs[q]'(by omega) = y) := ⟨_, Lib.hid rfl⟩
      rw [HY.out] at z0
      rw [HX.out, HY.out] at HS1
      have hSP : ∀ w' : World, Below w.heap.size w w' → w'.cell? ⟨b, off + q * 7, none⟩ = some (.int .i64 y.runner) := fun w' hb => (hb.cell (p := ⟨b, off + q * 7, none⟩) hbw).trans z0
      clear HZ HS z0
      by_cases hlt2 : y.runner < x.runner
      · have g1 : ¬ x.runner ≤ y.runner := by omega
        have HALL := Lib.hid (show ∀ j, j < q + 1 + 1 → okRun xs j = true from fun j hj => by
          by_cases e : j = q + 1
          · subst e; rw [HS1.out, decide_eq_true hlt2]; rfl
          · exact HA.out j (by omega))
        have hqw : IntKind.i64.wrap (q : Int) = (q : Int) := IntWalk.i64_in _ (by omega)
        refine wp_region_held_drew (S := fun w' => w'.cell? ⟨ge, 0, none⟩ = some (.int .i64 x.runner) ∧ w'.cell? ⟨ge, 1, none⟩ = some (.bool x.started) ∧ w'.cell? ⟨ge, 2, none⟩ = some (.bool x.out) ∧ w'.cell? ⟨ge, 3, none⟩ = some (.int .i64 x.number) ∧ w'.cell? ⟨ge, 4, none⟩ = some (.int .i64 x.start) ∧ w'.cell? ⟨ge, 5, none⟩ = some (.int .i64 x.finish) ∧ w'.cell? ⟨ge, 6, none⟩ = some (.slice B0 mc cc0) ∧ w'.cell? ⟨b, off + q * 7, none⟩ = some (.int .i64 y.runner)) (by kernel_rfl) (by (try dsimp only); exact ⟨E.cell 0, E.cell 1, E.cell 2, E.cell 3, E.cell 4, E.cell 5, E.cell 6, hSP _ KB⟩) (fun hH => ?_)
        generalize w1.drew = wz at *
        refine wQ 0 ?_
        refine wR (rs := [1]) (by kernel_rfl) (by simp) ?_
        refine aC rfl (fun K hK => ?_) aN
        go_simp
        refine (isRun_any B0 mc cc0 x _ X hmb).mono ?_
        rw [HRB.out]
        rintro e w9 ⟨rfl, b9⟩
        replace E := E.next b9
        replace KB := bel_then KB b9
        clear b9
        generalize w9 = wz at *
        go_wp2_with fail
        refine hK.out _ _ (by (try dsimp only); exact ⟨E.cell 0, E.cell 1, E.cell 2, E.cell 3, E.cell 4, E.cell 5, E.cell 6, hSP _ KB⟩) (fun hH => ?_)
        clear hK K
        refine wQ 2 ?_
        refine wQ 3 ?_
        refine wQ 4 ?_
        refine wQ 5 ?_
        refine wQ 6 ?_
        refine wQ 7 ?_
        refine wQ 8 ?_
        refine wQ 9 ?_
        refine wQ 10 ?_
        refine wQ 11 ?_
        refine wQ 12 ?_
        refine wQ 13 ?_
        refine wQ 14 ?_
        refine wQ 15 ?_
        refine wQ 16 ?_
        refine wQ 17 ?_
        refine wD (by kernel_rfl) ?_ _
        clear hqw
        go_wp2_with fail
        go_roundw
        case rel => exact ⟨(q + 1) + 1, by omega, by go_num, HALL, KB⟩
        case measure => simp [intOf]; omega
      · have g1 : x.runner ≤ y.runner := by omega
        have HNO := Lib.hid (show areRunsB xs = false from areRuns_no hkx (by rw [HS1.out, decide_eq_false hlt2]; rfl))
        have hqw : IntKind.i64.wrap (q : Int) = (q : Int) := IntWalk.i64_in _ (by omega)
        refine wp_region_held_drew (S := fun w' => w'.cell? ⟨ge, 0, none⟩ = some (.int .i64 x.runner) ∧ w'.cell? ⟨ge, 1, none⟩ = some (.bool x.started) ∧ w'.cell? ⟨ge, 2, none⟩ = some (.bool x.out) ∧ w'.cell? ⟨ge, 3, none⟩ = some (.int .i64 x.number) ∧ w'.cell? ⟨ge, 4, none⟩ = some (.int .i64 x.start) ∧ w'.cell? ⟨ge, 5, none⟩ = some (.int .i64 x.finish) ∧ w'.cell? ⟨ge, 6, none⟩ = some (.slice B0 mc cc0) ∧ w'.cell? ⟨b, off + q * 7, none⟩ = some (.int .i64 y.runner)) (by kernel_rfl) (by (try dsimp only); exact ⟨E.cell 0, E.cell 1, E.cell 2, E.cell 3, E.cell 4, E.cell 5, E.cell 6, hSP _ KB⟩) (fun hH => ?_)
        generalize w1.drew = wz at *
        refine wQ 0 ?_
        refine wR (rs := [1]) (by kernel_rfl) (by simp) ?_
        refine aC rfl (fun K hK => ?_) aN
        go_simp
        refine (isRun_any B0 mc cc0 x _ X hmb).mono ?_
        rw [HRB.out]
        rintro e w9 ⟨rfl, b9⟩
        replace E := E.next b9
        replace KB := bel_then KB b9
        clear b9
        generalize w9 = wz at *
        go_wp2_with fail
        refine hK.out _ _ (by (try dsimp only); exact ⟨E.cell 0, E.cell 1, E.cell 2, E.cell 3, E.cell 4, E.cell 5, E.cell 6, hSP _ KB⟩) (fun hH => ?_)
        clear hK K
        refine wQ 2 ?_
        refine wQ 3 ?_
        refine wQ 4 ?_
        refine wQ 5 ?_
        refine wQ 6 ?_
        refine wQ 7 ?_
        refine wQ 8 ?_
        refine wQ 9 ?_
        refine wQ 10 ?_
        refine wQ 11 ?_
        refine wQ 12 ?_
        refine wQ 13 ?_
        refine wQ 14 ?_
        refine wQ 15 ?_
        refine wQ 16 ?_
        refine wQ 17 ?_
        refine wD (by kernel_rfl) ?_ _
        clear hqw
        go_wp2_with fail
        go_ret
        rw [HNO.out]
        exact ⟨rfl, KB⟩
    · obtain rfl : k = n := by omega
      have hlti : ¬ (k : Int) < (k : Int) := by omega
      have HE := Lib.hid (show areRunsB xs = decide (xs.length ≤ 10) from areRuns_end (by rw [HLN.out]; exact HA.out))
      by_cases h10 : k ≤ 10
      · have g0 : (k : Int) ≤ 10 := by omega
        have HF := Lib.hid (show areRunsB xs = true by rw [HE.out, HLN.out]; exact decide_eq_true h10)
        go_wp2_with fail
        go_ret
        rw [HF.out]
        exact ⟨ret_bool (by simp), KB⟩
      · have g0 : ¬ (k : Int) ≤ 10 := by omega
        have HF := Lib.hid (show areRunsB xs = false by rw [HE.out, HLN.out]; exact decide_eq_false h10)
        go_wp2_with fail
        go_ret
        rw [HF.out]
        exact ⟨ret_bool (by simp), KB⟩

end Go.Proofs.YtflpcdffmpfdpaaGreatDoor

namespace Go.Proofs.YtflpcdffmpfdpaaGreatDoor
open Go.RowKit

set_option maxRecDepth 100000 in
set_option maxHeartbeats 4000000 in
theorem l15Good_any (A : Option Addr) (n c : Nat) (xs : List RunE) (w : World) (hx : SeesC w 0 A n xs) (hn : n ≤ 1048576) (hi : ∀ x ∈ xs, x.punches.length ≤ 1048576) :
    Calls Tryz.prog 162 #[.slice A n c] w fun e w' => e = .returned (.bool (areRunsB xs)) ∧ Below w.heap.size w w' := by
  have HLN := Lib.hid hx.count
  have KB := Below.refl w.heap.size w
  go_enter Tryz.func162, Tryz.ntmps162
  go_wp2_with fail
  go_loopw [3] (fun iv wr => ∃ (k : Nat), k ≤ n ∧ iv = .int .i64 (k : Int) ∧ Hid (∀ j, j < k → okRun xs j = true) ∧ Below w.heap.size w wr) (fun iv _ => n - (intOf iv).toNat)
  case atStart => exact ⟨0, Nat.zero_le _, rfl, Lib.hid (fun j h => absurd h (Nat.not_lt_zero _)), KB⟩
  case round =>
    clear KB
    obtain ⟨k, hk, rfl, HA, KB⟩ := hrel
    by_cases hlt : k < n
    · obtain ⟨b, off, B0, mc, cc0, rfl, hkx, ⟨y0, y1, y2, y3, y4, y5, y6⟩, hxi, hcap⟩ := hx.elem hlt
      have hmb : mc ≤ 1048576 := by
        have h1 := hi xs[k] (List.getElem_mem hkx)
        have hmc := hxi.count (by decide) (fun _ => rfl)
        omega
      obtain ⟨rb, hrb⟩ : ∃ rb, runB xs[k] = rb := ⟨_, rfl⟩
      have HZ := Lib.hid (fun (e : k = 0) => show okRun xs k = rb by subst e; rw [okRun_zero hkx]; exact hrb)
      have HS := Lib.hid (fun (q : Nat) (e : k = q + 1) => show okRun xs k = (rb && decide ((xs[q]'(by omega)).runner < xs[k].runner)) by subst e; rw [okRun_next hkx]; rw [hrb])
      obtain ⟨x, HX⟩ : ∃ x, Hid (xs[k] = x) := ⟨_, Lib.hid rfl⟩
      rw [HX.out] at y0 y1 y2 y3 y4 y5 hxi hrb
      have HRB := Lib.hid hrb
      clear hrb
      have hbw : b < w.heap.size := World.block_lt_of_cell? w _ y0
      have hlti : (k : Int) < (n : Int) := by omega
      have hSS : ∀ w' : World, Below w.heap.size w w' → w'.cell? ⟨b, off + k * 7, none⟩ = some (.int .i64 x.runner) ∧ w'.cell? ⟨b, off + k * 7 + 1, none⟩ = some (.bool x.started) ∧ w'.cell? ⟨b, off + k * 7 + 2, none⟩ = some (.bool x.out) ∧ w'.cell? ⟨b, off + k * 7 + 3, none⟩ = some (.int .i64 x.number) ∧ w'.cell? ⟨b, off + k * 7 + 4, none⟩ = some (.int .i64 x.start) ∧ w'.cell? ⟨b, off + k * 7 + 5, none⟩ = some (.int .i64 x.finish) ∧ w'.cell? ⟨b, off + k * 7 + 6, none⟩ = some (.slice B0 mc cc0) := fun w' hb => ⟨(hb.cell (p := ⟨b, off + k * 7, none⟩) hbw).trans y0, (hb.cell (p := ⟨b, off + k * 7 + 1, none⟩) hbw).trans y1, (hb.cell (p := ⟨b, off + k * 7 + 2, none⟩) hbw).trans y2, (hb.cell (p := ⟨b, off + k * 7 + 3, none⟩) hbw).trans y3, (hb.cell (p := ⟨b, off + k * 7 + 4, none⟩) hbw).trans y4, (hb.cell (p := ⟨b, off + k * 7 + 5, none⟩) hbw).trans y5, (hb.cell (p := ⟨b, off + k * 7 + 6, none⟩) hbw).trans y6⟩
      obtain ⟨x0, x1, x2, x3, x4, x5, x6⟩ := hSS wr KB
      clear y0 y1 y2 y3 y4 y5 y6
      go_upto_region 4 with fail
      clear x0 x1 x2 x3 x4 x5 x6
      replace KB := bel_then KB ((Quiet.one wr).below wr.heap.size)
      have X := hxi.below KB (Nat.le_refl _)
      cases rb
      · have HNO := Lib.hid (show areRunsB xs = false from areRuns_no hkx (by
          cases k with
          | zero => exact HZ.out rfl
          | succ q => rw [HS.out q rfl]; rfl))
        clear HZ HS
        refine wp_region_held_drew (S := fun w' => w'.cell? ⟨b, off + k * 7, none⟩ = some (.int .i64 x.runner) ∧ w'.cell? ⟨b, off + k * 7 + 1, none⟩ = some (.bool x.started) ∧ w'.cell? ⟨b, off + k * 7 + 2, none⟩ = some (.bool x.out) ∧ w'.cell? ⟨b, off + k * 7 + 3, none⟩ = some (.int .i64 x.number) ∧ w'.cell? ⟨b, off + k * 7 + 4, none⟩ = some (.int .i64 x.start) ∧ w'.cell? ⟨b, off + k * 7 + 5, none⟩ = some (.int .i64 x.finish) ∧ w'.cell? ⟨b, off + k * 7 + 6, none⟩ = some (.slice B0 mc cc0)) (by kernel_rfl) (by (try dsimp only); exact hSS _ KB) (fun hH => ?_)
        generalize wr.drew = wz at *
        refine wQ 0 ?_
        refine wQ 1 ?_
        refine wQ 2 ?_
        refine wQ 3 ?_
        refine wR (rs := [4]) (by kernel_rfl) (by simp) ?_
        refine aC rfl (fun K hK => ?_) aN
        go_simp
        refine (l15One_any B0 mc cc0 x _ X hmb).mono ?_
        rw [HRB.out]
        rintro e w9 ⟨rfl, b9⟩
        replace KB := bel_then KB b9
        clear b9
        generalize w9 = wz at *
        go_wp2_with fail
        refine hK.out _ _ (by (try dsimp only); exact hSS _ KB) (fun hH => ?_)
        clear hK K
        refine wQ 5 ?_
        refine wQ 6 ?_
        refine wU 7 ?_
        refine wU 8 ?_
        refine wU 9 ?_
        refine wU 10 ?_
        refine wU 11 ?_
        refine wU 12 ?_
        refine wU 13 ?_
        refine wU 14 ?_
        refine wU 15 ?_
        refine wU 16 ?_
        refine wU 17 ?_
        refine wU 18 ?_
        refine wU 19 ?_
        refine wU 20 ?_
        refine wU 21 ?_
        refine wU 22 ?_
        refine wQ 23 ?_
        refine wD (by kernel_rfl) ?_ _
        go_wp2_with fail
        go_ret
        rw [HNO.out]
        exact ⟨rfl, KB⟩
      by_cases h0 : k = 0
      · have HALL := Lib.hid (show ∀ j, j < k + 1 → okRun xs j = true from fun j hj => by
          by_cases e : j = k
          · subst e; exact HZ.out h0
          · exact HA.out j (by omega))
        clear HZ HS
        have g0 : ¬ (0 : Int) < (k : Int) := by omega
        have g0n : ¬ 0 < k := by omega
        have g0d : decide ((0 : Int) < (k : Int)) = false := decide_eq_false g0
        have g0e : decide (0 < k) = false := decide_eq_false g0n
        clear h0
        refine wp_region_held_drew (S := fun w' => w'.cell? ⟨b, off + k * 7, none⟩ = some (.int .i64 x.runner) ∧ w'.cell? ⟨b, off + k * 7 + 1, none⟩ = some (.bool x.started) ∧ w'.cell? ⟨b, off + k * 7 + 2, none⟩ = some (.bool x.out) ∧ w'.cell? ⟨b, off + k * 7 + 3, none⟩ = some (.int .i64 x.number) ∧ w'.cell? ⟨b, off + k * 7 + 4, none⟩ = some (.int .i64 x.start) ∧ w'.cell? ⟨b, off + k * 7 + 5, none⟩ = some (.int .i64 x.finish) ∧ w'.cell? ⟨b, off + k * 7 + 6, none⟩ = some (.slice B0 mc cc0)) (by kernel_rfl) (by (try dsimp only); exact hSS _ KB) (fun hH => ?_)
        generalize wr.drew = wz at *
        refine wQ 0 ?_
        refine wQ 1 ?_
        refine wQ 2 ?_
        refine wQ 3 ?_
        refine wR (rs := [4]) (by kernel_rfl) (by simp) ?_
        refine aC rfl (fun K hK => ?_) aN
        go_simp
        refine (l15One_any B0 mc cc0 x _ X hmb).mono ?_
        rw [HRB.out]
        rintro e w9 ⟨rfl, b9⟩
        replace KB := bel_then KB b9
        clear b9
        generalize w9 = wz at *
        go_wp2_with fail
        refine hK.out _ _ (by (try dsimp only); exact hSS _ KB) (fun hH => ?_)
        clear hK K
        refine wQ 5 ?_
        refine wQ 6 ?_
        refine wQ 7 ?_
        refine wQ 8 ?_
        refine wQ 9 ?_
        refine wU 10 ?_
        refine wU 11 ?_
        refine wU 12 ?_
        refine wU 13 ?_
        refine wU 14 ?_
        refine wU 15 ?_
        refine wU 16 ?_
        refine wU 17 ?_
        refine wU 18 ?_
        refine wU 19 ?_
        refine wU 20 ?_
        refine wU 21 ?_
        refine wQ 22 ?_
        refine wQ 23 ?_
        refine wD (by kernel_rfl) ?_ _
        go_wp2_with fail
        go_roundw
        case rel => exact ⟨k + 1, by omega, by go_num, HALL, KB⟩
        case measure => simp [intOf]; omega
      obtain ⟨q, rfl⟩ : ∃ q, k = q + 1 := ⟨k - 1, by omega⟩
      have g0 : (0 : Int) < (q : Int) + 1 := by omega
      have hq1 : (q : Int) < (n : Int) := by omega
      have hq2 : (q : Int) + 1 < (n : Int) := by omega
      have hq3 : 0 ≤ (q : Int) + 1 := by omega
      have HS1 := Lib.hid (HS.out q rfl)
      obtain ⟨b2, off2, B2, mc2, cc2, e2, hqx, ⟨z0, -⟩, -, -⟩ := hx.elem (show q < n by omega)
      injection e2 with e2
      injection e2 with e3 e4 _
      subst e3 e4
      obtain ⟨y, HY⟩ : ∃ y, Hid (xs[q]'(by omega) = y) := ⟨_, Lib.hid rfl⟩
      rw [HY.out] at z0
      rw [HX.out, HY.out] at HS1
      have hSP : ∀ w' : World, Below w.heap.size w w' → w'.cell? ⟨b, off + q * 7, none⟩ = some (.int .i64 y.runner) := fun w' hb => (hb.cell (p := ⟨b, off + q * 7, none⟩) hbw).trans z0
      have hS1 : ∀ w' : World, Below w.heap.size w w' → w'.cell? ⟨b, off + (q + 1) * 7, none⟩ = some (.int .i64 x.runner) ∧ w'.cell? ⟨b, off + (q + 1) * 7 + 1, none⟩ = some (.bool x.started) ∧ w'.cell? ⟨b, off + (q + 1) * 7 + 2, none⟩ = some (.bool x.out) ∧ w'.cell? ⟨b, off + (q + 1) * 7 + 3, none⟩ = some (.int .i64 x.number) ∧ w'.cell? ⟨b, off + (q + 1) * 7 + 4, none⟩ = some (.int .i64 x.start) ∧ w'.cell? ⟨b, off + (q + 1) * 7 + 5, none⟩ = some (.int .i64 x.finish) ∧ w'.cell? ⟨b, off + (q + 1) * 7 + 6, none⟩ = some (.slice B0 mc cc0) ∧ w'.cell? ⟨b, off + q * 7, none⟩ = some (.int .i64 y.runner) := fun w' hb => by
        obtain ⟨a0, a1, a2, a3, a4, a5, a6⟩ := hSS w' hb
        exact ⟨a0, a1, a2, a3, a4, a5, a6, hSP w' hb⟩
      clear HZ HS z0
      by_cases hlt2 : y.runner < x.runner
      · have g1 : ¬ x.runner ≤ y.runner := by omega
        have HALL := Lib.hid (show ∀ j, j < q + 1 + 1 → okRun xs j = true from fun j hj => by
          by_cases e : j = q + 1
          · subst e; rw [HS1.out, decide_eq_true hlt2]; rfl
          · exact HA.out j (by omega))
        have hqw : IntKind.i64.wrap (q : Int) = (q : Int) := IntWalk.i64_in _ (by omega)
        refine wp_region_held_drew (S := fun w' => w'.cell? ⟨b, off + (q + 1) * 7, none⟩ = some (.int .i64 x.runner) ∧ w'.cell? ⟨b, off + (q + 1) * 7 + 1, none⟩ = some (.bool x.started) ∧ w'.cell? ⟨b, off + (q + 1) * 7 + 2, none⟩ = some (.bool x.out) ∧ w'.cell? ⟨b, off + (q + 1) * 7 + 3, none⟩ = some (.int .i64 x.number) ∧ w'.cell? ⟨b, off + (q + 1) * 7 + 4, none⟩ = some (.int .i64 x.start) ∧ w'.cell? ⟨b, off + (q + 1) * 7 + 5, none⟩ = some (.int .i64 x.finish) ∧ w'.cell? ⟨b, off + (q + 1) * 7 + 6, none⟩ = some (.slice B0 mc cc0) ∧ w'.cell? ⟨b, off + q * 7, none⟩ = some (.int .i64 y.runner)) (by kernel_rfl) (by (try dsimp only); exact hS1 _ KB) (fun hH => ?_)
        generalize wr.drew = wz at *
        refine wQ 0 ?_
        refine wQ 1 ?_
        refine wQ 2 ?_
        refine wQ 3 ?_
        refine wR (rs := [4]) (by kernel_rfl) (by simp) ?_
        refine aC rfl (fun K hK => ?_) aN
        go_simp
        refine (l15One_any B0 mc cc0 x _ X hmb).mono ?_
        rw [HRB.out]
        rintro e w9 ⟨rfl, b9⟩
        replace KB := bel_then KB b9
        clear b9
        generalize w9 = wz at *
        go_wp2_with fail
        refine hK.out _ _ (by (try dsimp only); exact hS1 _ KB) (fun hH => ?_)
        clear hK K
        refine wQ 5 ?_
        refine wQ 6 ?_
        refine wQ 7 ?_
        refine wQ 8 ?_
        refine wQ 9 ?_
        refine wQ 10 ?_
        refine wQ 11 ?_
        refine wQ 12 ?_
        refine wQ 13 ?_
        refine wQ 14 ?_
        refine wQ 15 ?_
        refine wQ 16 ?_
        refine wQ 17 ?_
        refine wQ 18 ?_
        refine wQ 19 ?_
        refine wQ 20 ?_
        refine wQ 21 ?_
        refine wQ 22 ?_
        refine wQ 23 ?_
        refine wD (by kernel_rfl) ?_ _
        clear hqw
        go_wp2_with fail
        go_roundw
        case rel => exact ⟨(q + 1) + 1, by omega, by go_num, HALL, KB⟩
        case measure => simp [intOf]; omega
      · have g1 : x.runner ≤ y.runner := by omega
        have HNO := Lib.hid (show areRunsB xs = false from areRuns_no hkx (by rw [HS1.out, decide_eq_false hlt2]; rfl))
        have hqw : IntKind.i64.wrap (q : Int) = (q : Int) := IntWalk.i64_in _ (by omega)
        refine wp_region_held_drew (S := fun w' => w'.cell? ⟨b, off + (q + 1) * 7, none⟩ = some (.int .i64 x.runner) ∧ w'.cell? ⟨b, off + (q + 1) * 7 + 1, none⟩ = some (.bool x.started) ∧ w'.cell? ⟨b, off + (q + 1) * 7 + 2, none⟩ = some (.bool x.out) ∧ w'.cell? ⟨b, off + (q + 1) * 7 + 3, none⟩ = some (.int .i64 x.number) ∧ w'.cell? ⟨b, off + (q + 1) * 7 + 4, none⟩ = some (.int .i64 x.start) ∧ w'.cell? ⟨b, off + (q + 1) * 7 + 5, none⟩ = some (.int .i64 x.finish) ∧ w'.cell? ⟨b, off + (q + 1) * 7 + 6, none⟩ = some (.slice B0 mc cc0) ∧ w'.cell? ⟨b, off + q * 7, none⟩ = some (.int .i64 y.runner)) (by kernel_rfl) (by (try dsimp only); exact hS1 _ KB) (fun hH => ?_)
        generalize wr.drew = wz at *
        refine wQ 0 ?_
        refine wQ 1 ?_
        refine wQ 2 ?_
        refine wQ 3 ?_
        refine wR (rs := [4]) (by kernel_rfl) (by simp) ?_
        refine aC rfl (fun K hK => ?_) aN
        go_simp
        refine (l15One_any B0 mc cc0 x _ X hmb).mono ?_
        rw [HRB.out]
        rintro e w9 ⟨rfl, b9⟩
        replace KB := bel_then KB b9
        clear b9
        generalize w9 = wz at *
        go_wp2_with fail
        refine hK.out _ _ (by (try dsimp only); exact hS1 _ KB) (fun hH => ?_)
        clear hK K
        refine wQ 5 ?_
        refine wQ 6 ?_
        refine wQ 7 ?_
        refine wQ 8 ?_
        refine wQ 9 ?_
        refine wQ 10 ?_
        refine wQ 11 ?_
        refine wQ 12 ?_
        refine wQ 13 ?_
        refine wQ 14 ?_
        refine wQ 15 ?_
        refine wQ 16 ?_
        refine wQ 17 ?_
        refine wQ 18 ?_
        refine wQ 19 ?_
        refine wQ 20 ?_
        refine wQ 21 ?_
        refine wQ 22 ?_
        refine wQ 23 ?_
        refine wD (by kernel_rfl) ?_ _
        clear hqw
        go_wp2_with fail
        go_ret
        rw [HNO.out]
        exact ⟨rfl, KB⟩
    · obtain rfl : k = n := by omega
      have hlti : ¬ (k : Int) < (k : Int) := by omega
      have HE := Lib.hid (show areRunsB xs = decide (xs.length ≤ 10) from areRuns_end (by rw [HLN.out]; exact HA.out))
      by_cases h10 : k ≤ 10
      · have g0 : (k : Int) ≤ 10 := by omega
        have HF := Lib.hid (show areRunsB xs = true by rw [HE.out, HLN.out]; exact decide_eq_true h10)
        go_wp2_with fail
        go_ret
        rw [HF.out]
        exact ⟨ret_bool (by simp), KB⟩
      · have g0 : ¬ (k : Int) ≤ 10 := by omega
        have HF := Lib.hid (show areRunsB xs = false by rw [HE.out, HLN.out]; exact decide_eq_false h10)
        go_wp2_with fail
        go_ret
        rw [HF.out]
        exact ⟨ret_bool (by simp), KB⟩

end Go.Proofs.YtflpcdffmpfdpaaGreatDoor
