/- Joined texts of this proof: RunK. -/
import Derived.Test.YtflpcdffmpfdpaaGreatDoorP19
namespace Go.Proofs.YtflpcdffmpfdpaaGreatDoor
open Go.RowKit

abbrev RunH := Hd RunE
def RunH.enc (r : RunH) : List Value := [.int .i64 r.x.runner, .bool r.x.started, .bool r.x.out, .int .i64 r.x.number, .int .i64 r.x.start, .int .i64 r.x.finish, .slice r.A r.n r.c]
theorem stat_zero {x : RunE} {cs : List Int} {limit : Int} (h : statM x cs limit = 0) : x.started = true := by
  cases hs : x.started with
  | true => rfl
  | false =>
    unfold statM at h
    rw [if_pos hs] at h
    omega
theorem time_bd {x : RunE} (h : runB x = true) (hs : x.started = true) : (-1 ≤ x.finish ∧ x.finish ≤ 36000) ∧ (0 ≤ x.start ∧ x.start ≤ 36000) :=
  ⟨(card_bounds (runB_card h hs)).2.2.1, (card_bounds (runB_card h hs)).2.1⟩
/-- how the program compares two runs -/
def cfK (cs : List Int) (limit : Int) (x y : RunH) : Int := if statM x.x cs limit = 0 ∧ statM y.x cs limit = 0 then cmpI (x.x.finish - x.x.start) (y.x.finish - y.x.start) else cmpI (statM x.x cs limit) (statM y.x cs limit)
/-- how the reference does -/
def lessK (cs : List Int) (limit : Int) (x y : RunH) : Bool := if statM x.x cs limit = statM y.x cs limit then (if statM x.x cs limit = 0 ∧ ¬ x.x.finish - x.x.start = y.x.finish - y.x.start then decide (x.x.finish - x.x.start < y.x.finish - y.x.start) else decide (x.x.runner < y.x.runner)) else decide (statM x.x cs limit < statM y.x cs limit)
theorem isNaN_intK (a : Int) (w : World) : Calls Tryz.prog 220 #[.int .i64 a] w fun e w' => e = .returned (.bool false) ∧ w = w' := by
  go_enter Tryz.func220, Tryz.ntmps220
  go_wp2
  go_ret
  exact ⟨ret_bool (by simp), rfl⟩
theorem Compare_intK (a b : Int) (w : World) : Calls Tryz.prog 182 #[.int .i64 a, .int .i64 b] w fun e w' => e = .returned (.int .i64 (cmpI a b)) ∧ w = w' := by
  by_cases h1 : a < b
  · go_enter Tryz.func182, Tryz.ntmps182
    go_wp2_with (go_at_call 220; refine (isNaN_intK _ _).mono ?_; rintro e w' ⟨rfl, rfl⟩)
    go_ret
    exact ⟨ret_int (by unfold cmpI; rw [if_pos h1]), rfl⟩
  · by_cases h2 : b < a
    · go_enter Tryz.func182, Tryz.ntmps182
      go_wp2_with (go_at_call 220; refine (isNaN_intK _ _).mono ?_; rintro e w' ⟨rfl, rfl⟩)
      go_ret
      exact ⟨ret_int (by unfold cmpI; rw [if_neg (by omega), if_pos h2]), rfl⟩
    · go_enter Tryz.func182, Tryz.ntmps182
      go_wp2_with (go_at_call 220; refine (isNaN_intK _ _).mono ?_; rintro e w' ⟨rfl, rfl⟩)
      go_ret
      exact ⟨ret_int (by unfold cmpI; rw [if_neg (by omega), if_neg (by omega)]), rfl⟩

set_option maxRecDepth 100000 in
set_option maxHeartbeats 8000000 in
theorem ResultOrder1_any (x y : RunH) (bc bl : Nat) (B : Option Addr) (m e : Nat) (cs : List Int) (limit : Int) (w : World) (hx : Sees w 0 2 x.A x.n (x.x.punches.flatMap Punch.enc) ∧ x.n ≤ 1048576 ∧ x.n ≤ x.c ∧ runB x.x = true) (hz : Sees w 0 2 y.A y.n (y.x.punches.flatMap Punch.enc) ∧ y.n ≤ 1048576 ∧ y.n ≤ y.c ∧ runB y.x = true) (hy : Sees w 0 1 B m (ints cs)) (hm : m ≤ 1048576) (cbc : w.cell? ⟨bc, 0, none⟩ = some (.slice B m e)) (cbl : w.cell? ⟨bl, 0, none⟩ = some (.int .i64 limit)) :
    Calls Tryz.prog 180 #[.agg #[.int .i64 x.x.runner, .bool x.x.started, .bool x.x.out, .int .i64 x.x.number, .int .i64 x.x.start, .int .i64 x.x.finish, .slice x.A x.n x.c], .agg #[.int .i64 y.x.runner, .bool y.x.started, .bool y.x.out, .int .i64 y.x.number, .int .i64 y.x.start, .int .i64 y.x.finish, .slice y.A y.n y.c], .pointer (some ⟨bc, 0, none⟩), .pointer (some ⟨bl, 0, none⟩)] w fun e' w' => e' = .returned (.int .i64 (cfK cs limit x y)) ∧ Below w.heap.size w w' := by
  obtain ⟨sx, hsx⟩ : ∃ s, statM x.x cs limit = s := ⟨_, rfl⟩
  obtain ⟨sy, hsy⟩ : ∃ s, statM y.x cs limit = s := ⟨_, rfl⟩
  obtain ⟨tx, htx⟩ : ∃ s, x.x.finish - x.x.start = s := ⟨_, rfl⟩
  obtain ⟨ty, hty⟩ : ∃ s, y.x.finish - y.x.start = s := ⟨_, rfl⟩
  have HR0 := Lib.hid (show cfK cs limit x y = (if sx = 0 ∧ sy = 0 then cmpI tx ty else cmpI sx sy) by unfold cfK; rw [hsx, hsy, htx, hty])
  have HSX := Lib.hid hsx
  have HSY := Lib.hid hsy
  have HTX := Lib.hid htx
  have HTY := Lib.hid hty
  have HLX := statM_le x.x cs limit
  have HLY := statM_le y.x cs limit
  rw [hsx] at HLX
  rw [hsy] at HLY
  have TX := Lib.hid (fun (h : sx = 0) => time_bd hx.2.2.2 (stat_zero (hsx.trans h)))
  have TY := Lib.hid (fun (h : sy = 0) => time_bd hz.2.2.2 (stat_zero (hsy.trans h)))
  clear hsx hsy htx hty
  have K0 : Below w.heap.size w ((w.alloc (.cells #[.int .i64 x.x.runner, .bool x.x.started, .bool x.x.out, .int .i64 x.x.number, .int .i64 x.x.start, .int .i64 x.x.finish, .slice x.A x.n x.c] 160)).alloc (.cells #[.int .i64 y.x.runner, .bool y.x.started, .bool y.x.out, .int .i64 y.x.number, .int .i64 y.x.start, .int .i64 y.x.finish, .slice y.A y.n y.c] 160)) := ((Below.refl _ _).alloc (Nat.le_refl _) _).alloc (by simp) _
  have X0 : Blk ((w.alloc (.cells #[.int .i64 x.x.runner, .bool x.x.started, .bool x.x.out, .int .i64 x.x.number, .int .i64 x.x.start, .int .i64 x.x.finish, .slice x.A x.n x.c] 160)).alloc (.cells #[.int .i64 y.x.runner, .bool y.x.started, .bool y.x.out, .int .i64 y.x.number, .int .i64 y.x.start, .int .i64 y.x.finish, .slice y.A y.n y.c] 160)) w.heap.size 160 [.int .i64 x.x.runner, .bool x.x.started, .bool x.x.out, .int .i64 x.x.number, .int .i64 x.x.start, .int .i64 x.x.finish, .slice x.A x.n x.c] := (Blk.at_ rfl).alloc _
  have Y0 : Blk ((w.alloc (.cells #[.int .i64 x.x.runner, .bool x.x.started, .bool x.x.out, .int .i64 x.x.number, .int .i64 x.x.start, .int .i64 x.x.finish, .slice x.A x.n x.c] 160)).alloc (.cells #[.int .i64 y.x.runner, .bool y.x.started, .bool y.x.out, .int .i64 y.x.number, .int .i64 y.x.start, .int .i64 y.x.finish, .slice y.A y.n y.c] 160)) (w.heap.size + 1) 160 [.int .i64 y.x.runner, .bool y.x.started, .bool y.x.out, .int .i64 y.x.number, .int .i64 y.x.start, .int .i64 y.x.finish, .slice y.A y.n y.c] := Blk.at_ (by simp)
  go_enter Tryz.func180, Tryz.ntmps180
  go_upto_region 1 with fail
  generalize ((w.alloc (.cells #[.int .i64 x.x.runner, .bool x.x.started, .bool x.x.out, .int .i64 x.x.number, .int .i64 x.x.start, .int .i64 x.x.finish, .slice x.A x.n x.c] 160)).alloc (.cells #[.int .i64 y.x.runner, .bool y.x.started, .bool y.x.out, .int .i64 y.x.number, .int .i64 y.x.start, .int .i64 y.x.finish, .slice y.A y.n y.c] 160)) = w1 at *
  have PX : Sees w1 0 2 x.A x.n (x.x.punches.flatMap Punch.enc) ∧ x.n ≤ 1048576 ∧ x.n ≤ x.c ∧ runB x.x = true := ⟨hx.1.below K0 (Nat.le_refl _), hx.2⟩
  have PY : Sees w1 0 2 y.A y.n (y.x.punches.flatMap Punch.enc) ∧ y.n ≤ 1048576 ∧ y.n ≤ y.c ∧ runB y.x = true := ⟨hz.1.below K0 (Nat.le_refl _), hz.2⟩
  replace hy := hy.below K0 (Nat.le_refl _)
  have hbc : bc < w1.heap.size := Nat.lt_of_lt_of_le (World.block_lt_of_cell? w _ cbc) K0.size
  have hbl : bl < w1.heap.size := Nat.lt_of_lt_of_le (World.block_lt_of_cell? w _ cbl) K0.size
  replace cbc := (K0.cell (p := ⟨bc, 0, none⟩) (World.block_lt_of_cell? w _ cbc)).trans cbc
  replace cbl := (K0.cell (p := ⟨bl, 0, none⟩) (World.block_lt_of_cell? w _ cbl)).trans cbl
  clear hx hz
  have hSS : ∀ w' : World, Below w1.heap.size w1 w' → w'.cell? ⟨w.heap.size, 0, none⟩ = some (.int .i64 x.x.runner) ∧ w'.cell? ⟨w.heap.size, 1, none⟩ = some (.bool x.x.started) ∧ w'.cell? ⟨w.heap.size, 2, none⟩ = some (.bool x.x.out) ∧ w'.cell? ⟨w.heap.size, 3, none⟩ = some (.int .i64 x.x.number) ∧ w'.cell? ⟨w.heap.size, 4, none⟩ = some (.int .i64 x.x.start) ∧ w'.cell? ⟨w.heap.size, 5, none⟩ = some (.int .i64 x.x.finish) ∧ w'.cell? ⟨w.heap.size, 6, none⟩ = some (.slice x.A x.n x.c) ∧ w'.cell? ⟨w.heap.size + 1, 0, none⟩ = some (.int .i64 y.x.runner) ∧ w'.cell? ⟨w.heap.size + 1, 1, none⟩ = some (.bool y.x.started) ∧ w'.cell? ⟨w.heap.size + 1, 2, none⟩ = some (.bool y.x.out) ∧ w'.cell? ⟨w.heap.size + 1, 3, none⟩ = some (.int .i64 y.x.number) ∧ w'.cell? ⟨w.heap.size + 1, 4, none⟩ = some (.int .i64 y.x.start) ∧ w'.cell? ⟨w.heap.size + 1, 5, none⟩ = some (.int .i64 y.x.finish) ∧ w'.cell? ⟨w.heap.size + 1, 6, none⟩ = some (.slice y.A y.n y.c) ∧ w'.cell? ⟨bc, 0, none⟩ = some (.slice B m e) ∧ w'.cell? ⟨bl, 0, none⟩ = some (.int .i64 limit) := fun w' h => ⟨(X0.next h).cell 0, (X0.next h).cell 1, (X0.next h).cell 2, (X0.next h).cell 3, (X0.next h).cell 4, (X0.next h).cell 5, (X0.next h).cell 6, (Y0.next h).cell 0, (Y0.next h).cell 1, (Y0.next h).cell 2, (Y0.next h).cell 3, (Y0.next h).cell 4, (Y0.next h).cell 5, (Y0.next h).cell 6, (h.cell (p := ⟨bc, 0, none⟩) hbc).trans cbc, (h.cell (p := ⟨bl, 0, none⟩) hbl).trans cbl⟩
  have KW := Below.refl w1.heap.size w1
  replace KW := bel_then KW ((Quiet.one w1).below w1.heap.size)
  refine wp_region_held_drew (S := fun w' => w'.cell? ⟨w.heap.size, 0, none⟩ = some (.int .i64 x.x.runner) ∧ w'.cell? ⟨w.heap.size, 1, none⟩ = some (.bool x.x.started) ∧ w'.cell? ⟨w.heap.size, 2, none⟩ = some (.bool x.x.out) ∧ w'.cell? ⟨w.heap.size, 3, none⟩ = some (.int .i64 x.x.number) ∧ w'.cell? ⟨w.heap.size, 4, none⟩ = some (.int .i64 x.x.start) ∧ w'.cell? ⟨w.heap.size, 5, none⟩ = some (.int .i64 x.x.finish) ∧ w'.cell? ⟨w.heap.size, 6, none⟩ = some (.slice x.A x.n x.c) ∧ w'.cell? ⟨w.heap.size + 1, 0, none⟩ = some (.int .i64 y.x.runner) ∧ w'.cell? ⟨w.heap.size + 1, 1, none⟩ = some (.bool y.x.started) ∧ w'.cell? ⟨w.heap.size + 1, 2, none⟩ = some (.bool y.x.out) ∧ w'.cell? ⟨w.heap.size + 1, 3, none⟩ = some (.int .i64 y.x.number) ∧ w'.cell? ⟨w.heap.size + 1, 4, none⟩ = some (.int .i64 y.x.start) ∧ w'.cell? ⟨w.heap.size + 1, 5, none⟩ = some (.int .i64 y.x.finish) ∧ w'.cell? ⟨w.heap.size + 1, 6, none⟩ = some (.slice y.A y.n y.c) ∧ w'.cell? ⟨bc, 0, none⟩ = some (.slice B m e) ∧ w'.cell? ⟨bl, 0, none⟩ = some (.int .i64 limit)) (by kernel_rfl) (by (try dsimp only); exact hSS _ KW) (fun hH => ?_)
  generalize w1.drew = wz at *
  refine wQ 0 ?_
  refine wQ 1 ?_
  refine wQ 2 ?_
  refine wQ 4 ?_
  refine wQ 5 ?_
  refine wQ 6 ?_
  refine wR (rs := [3]) (by kernel_rfl) (by simp) ?_
  refine aC rfl (fun K hK => ?_) aN
  go_simp
  refine (statusOf_any x.A x.n x.c x.x B m e cs limit _ (PX.1.next KW) PX.2.1 PX.2.2.1 (hy.next KW) hm PX.2.2.2).mono ?_
  rw [HSX.out]
  rintro e w9 ⟨rfl, b9⟩
  replace KW := bel_then KW b9
  clear b9
  generalize w9 = wz at *
  go_wp2_with fail
  refine hK.out _ _ (by (try dsimp only); exact hSS _ KW) (fun hH => ?_)
  clear hK K
  refine wR (rs := [7]) (by kernel_rfl) (by simp) ?_
  refine aC rfl (fun K hK => ?_) aN
  go_simp
  refine (statusOf_any y.A y.n y.c y.x B m e cs limit _ (PY.1.next KW) PY.2.1 PY.2.2.1 (hy.next KW) hm PY.2.2.2).mono ?_
  rw [HSY.out]
  rintro e w9 ⟨rfl, b9⟩
  replace KW := bel_then KW b9
  clear b9
  generalize w9 = wz at *
  go_wp2_with fail
  refine hK.out _ _ (by (try dsimp only); exact hSS _ KW) (fun hH => ?_)
  clear hK K
  refine wQ 8 ?_
  refine wQ 9 ?_
  refine wD (by kernel_rfl) ?_ _
  by_cases h0 : sx = 0
  · subst h0
    by_cases h1 : sy = 0
    · subst h1
      obtain ⟨cf, hcf⟩ : ∃ z, cmpI tx ty = z := ⟨_, rfl⟩
      have HR := Lib.hid (show cfK cs limit x y = cf by rw [HR0.out, if_pos ⟨rfl, rfl⟩]; exact hcf)
      have HCF := Lib.hid hcf
      clear hcf
      go_upto_region 3 with fail
      replace KW := bel_then KW ((Quiet.one wz).below wz.heap.size)
      refine wp_region_held_drew (S := fun w' => w'.cell? ⟨w.heap.size, 0, none⟩ = some (.int .i64 x.x.runner) ∧ w'.cell? ⟨w.heap.size, 1, none⟩ = some (.bool x.x.started) ∧ w'.cell? ⟨w.heap.size, 2, none⟩ = some (.bool x.x.out) ∧ w'.cell? ⟨w.heap.size, 3, none⟩ = some (.int .i64 x.x.number) ∧ w'.cell? ⟨w.heap.size, 4, none⟩ = some (.int .i64 x.x.start) ∧ w'.cell? ⟨w.heap.size, 5, none⟩ = some (.int .i64 x.x.finish) ∧ w'.cell? ⟨w.heap.size, 6, none⟩ = some (.slice x.A x.n x.c) ∧ w'.cell? ⟨w.heap.size + 1, 0, none⟩ = some (.int .i64 y.x.runner) ∧ w'.cell? ⟨w.heap.size + 1, 1, none⟩ = some (.bool y.x.started) ∧ w'.cell? ⟨w.heap.size + 1, 2, none⟩ = some (.bool y.x.out) ∧ w'.cell? ⟨w.heap.size + 1, 3, none⟩ = some (.int .i64 y.x.number) ∧ w'.cell? ⟨w.heap.size + 1, 4, none⟩ = some (.int .i64 y.x.start) ∧ w'.cell? ⟨w.heap.size + 1, 5, none⟩ = some (.int .i64 y.x.finish) ∧ w'.cell? ⟨w.heap.size + 1, 6, none⟩ = some (.slice y.A y.n y.c) ∧ w'.cell? ⟨bc, 0, none⟩ = some (.slice B m e) ∧ w'.cell? ⟨bl, 0, none⟩ = some (.int .i64 limit)) (by kernel_rfl) (by (try dsimp only); exact hSS _ KW) (fun hH => ?_)
      generalize wz.drew = wz at *
      refine wQ 0 ?_
      refine wQ 2 ?_
      refine wR (rs := [1]) (by kernel_rfl) (by simp) ?_
      refine aC rfl (fun K hK => ?_) aN
      go_simp
      refine (runTime_any x.A x.n x.c x.x _ (TX.out (by trivial)).1 (TX.out (by trivial)).2).mono ?_
      rw [HTX.out]
      rintro e w9 ⟨rfl, b9⟩
      replace KW := bel_then KW b9
      clear b9
      generalize w9 = wz at *
      go_wp2_with fail
      refine hK.out _ _ (by (try dsimp only); exact hSS _ KW) (fun hH => ?_)
      clear hK K
      refine wR (rs := [3]) (by kernel_rfl) (by simp) ?_
      refine aC rfl (fun K hK => ?_) aN
      go_simp
      refine (runTime_any y.A y.n y.c y.x _ (TY.out (by trivial)).1 (TY.out (by trivial)).2).mono ?_
      rw [HTY.out]
      rintro e w9 ⟨rfl, b9⟩
      replace KW := bel_then KW b9
      clear b9
      generalize w9 = wz at *
      go_wp2_with fail
      refine hK.out _ _ (by (try dsimp only); exact hSS _ KW) (fun hH => ?_)
      clear hK K
      refine wR (rs := [4]) (by kernel_rfl) (by simp) ?_
      refine aC rfl (fun K hK => ?_) aN
      go_simp
      refine (Compare_intK tx ty _).mono ?_
      rw [HCF.out]
      rintro e w' ⟨rfl, rfl⟩
      go_wp2_with fail
      refine hK.out _ _ (by (try dsimp only); exact hSS _ KW) (fun hH => ?_)
      clear hK K
      refine wQ 5 ?_
      refine wD (by kernel_rfl) ?_ _
      go_wp2_with fail
      go_ret
      rw [HR.out]
      exact ⟨rfl, bel_then K0 KW⟩
    · have e1 : (sy == 0) = false := beq_eq_false_iff_ne.2 h1
      have HR := Lib.hid (show cfK cs limit x y = cmpI 0 sy by rw [HR0.out, if_neg (fun h => h1 h.2)])
      go_wp2_with (go_at_call 182; refine (Compare_intK _ _ _).mono ?_; rintro e w' ⟨rfl, rfl⟩)
      go_ret
      rw [HR.out]
      exact ⟨rfl, bel_then K0 KW⟩
  · have e0 : (sx == 0) = false := beq_eq_false_iff_ne.2 h0
    have HR := Lib.hid (show cfK cs limit x y = cmpI sx sy by rw [HR0.out, if_neg (fun h => h0 h.1)])
    go_wp2_with (go_at_call 182; refine (Compare_intK _ _ _).mono ?_; rintro e w' ⟨rfl, rfl⟩)
    go_ret
    rw [HR.out]
    exact ⟨rfl, bel_then K0 KW⟩

set_option maxRecDepth 100000 in
set_option maxHeartbeats 8000000 in
theorem l15Before_any (x y : RunH) (B : Option Addr) (m e : Nat) (cs : List Int) (limit : Int) (w : World) (hx : Sees w 0 2 x.A x.n (x.x.punches.flatMap Punch.enc) ∧ x.n ≤ 1048576 ∧ x.n ≤ x.c ∧ runB x.x = true) (hz : Sees w 0 2 y.A y.n (y.x.punches.flatMap Punch.enc) ∧ y.n ≤ 1048576 ∧ y.n ≤ y.c ∧ runB y.x = true) (hy : Sees w 0 1 B m (ints cs)) (hm : m ≤ 1048576) :
    Calls Tryz.prog 125 #[.agg #[.int .i64 x.x.runner, .bool x.x.started, .bool x.x.out, .int .i64 x.x.number, .int .i64 x.x.start, .int .i64 x.x.finish, .slice x.A x.n x.c], .agg #[.int .i64 y.x.runner, .bool y.x.started, .bool y.x.out, .int .i64 y.x.number, .int .i64 y.x.start, .int .i64 y.x.finish, .slice y.A y.n y.c], .slice B m e, .int .i64 limit] w fun e' w' => e' = .returned (.bool (lessK cs limit x y)) ∧ Below w.heap.size w w' := by
  obtain ⟨sx, hsx⟩ : ∃ s, statM x.x cs limit = s := ⟨_, rfl⟩
  obtain ⟨sy, hsy⟩ : ∃ s, statM y.x cs limit = s := ⟨_, rfl⟩
  obtain ⟨tx, htx⟩ : ∃ s, x.x.finish - x.x.start = s := ⟨_, rfl⟩
  obtain ⟨ty, hty⟩ : ∃ s, y.x.finish - y.x.start = s := ⟨_, rfl⟩
  have HR0 := Lib.hid (show lessK cs limit x y = (if sx = sy then (if sx = 0 ∧ ¬ tx = ty then decide (tx < ty) else decide (x.x.runner < y.x.runner)) else decide (sx < sy)) by unfold lessK; rw [hsx, hsy, htx, hty])
  have HSX := Lib.hid hsx
  have HSY := Lib.hid hsy
  have HTX := Lib.hid htx
  have HTY := Lib.hid hty
  have HLX := statM_le x.x cs limit
  have HLY := statM_le y.x cs limit
  rw [hsx] at HLX
  rw [hsy] at HLY
  have TX := Lib.hid (fun (h : sx = 0) => time_bd hx.2.2.2 (stat_zero (hsx.trans h)))
  have TY := Lib.hid (fun (h : sy = 0) => time_bd hz.2.2.2 (stat_zero (hsy.trans h)))
  clear hsx hsy htx hty
  have K0 : Below w.heap.size w ((w.alloc (.cells #[.int .i64 x.x.runner, .bool x.x.started, .bool x.x.out, .int .i64 x.x.number, .int .i64 x.x.start, .int .i64 x.x.finish, .slice x.A x.n x.c] 160)).alloc (.cells #[.int .i64 y.x.runner, .bool y.x.started, .bool y.x.out, .int .i64 y.x.number, .int .i64 y.x.start, .int .i64 y.x.finish, .slice y.A y.n y.c] 160)) := ((Below.refl _ _).alloc (Nat.le_refl _) _).alloc (by simp) _
  have X0 : Blk ((w.alloc (.cells #[.int .i64 x.x.runner, .bool x.x.started, .bool x.x.out, .int .i64 x.x.number, .int .i64 x.x.start, .int .i64 x.x.finish, .slice x.A x.n x.c] 160)).alloc (.cells #[.int .i64 y.x.runner, .bool y.x.started, .bool y.x.out, .int .i64 y.x.number, .int .i64 y.x.start, .int .i64 y.x.finish, .slice y.A y.n y.c] 160)) w.heap.size 160 [.int .i64 x.x.runner, .bool x.x.started, .bool x.x.out, .int .i64 x.x.number, .int .i64 x.x.start, .int .i64 x.x.finish, .slice x.A x.n x.c] := (Blk.at_ rfl).alloc _
  have Y0 : Blk ((w.alloc (.cells #[.int .i64 x.x.runner, .bool x.x.started, .bool x.x.out, .int .i64 x.x.number, .int .i64 x.x.start, .int .i64 x.x.finish, .slice x.A x.n x.c] 160)).alloc (.cells #[.int .i64 y.x.runner, .bool y.x.started, .bool y.x.out, .int .i64 y.x.number, .int .i64 y.x.start, .int .i64 y.x.finish, .slice y.A y.n y.c] 160)) (w.heap.size + 1) 160 [.int .i64 y.x.runner, .bool y.x.started, .bool y.x.out, .int .i64 y.x.number, .int .i64 y.x.start, .int .i64 y.x.finish, .slice y.A y.n y.c] := Blk.at_ (by simp)
  go_enter Tryz.func125, Tryz.ntmps125
  go_upto_region 1 with fail
  generalize ((w.alloc (.cells #[.int .i64 x.x.runner, .bool x.x.started, .bool x.x.out, .int .i64 x.x.number, .int .i64 x.x.start, .int .i64 x.x.finish, .slice x.A x.n x.c] 160)).alloc (.cells #[.int .i64 y.x.runner, .bool y.x.started, .bool y.x.out, .int .i64 y.x.number, .int .i64 y.x.start, .int .i64 y.x.finish, .slice y.A y.n y.c] 160)) = w1 at *
  have PX : Sees w1 0 2 x.A x.n (x.x.punches.flatMap Punch.enc) ∧ x.n ≤ 1048576 ∧ x.n ≤ x.c ∧ runB x.x = true := ⟨hx.1.below K0 (Nat.le_refl _), hx.2⟩
  have PY : Sees w1 0 2 y.A y.n (y.x.punches.flatMap Punch.enc) ∧ y.n ≤ 1048576 ∧ y.n ≤ y.c ∧ runB y.x = true := ⟨hz.1.below K0 (Nat.le_refl _), hz.2⟩
  replace hy := hy.below K0 (Nat.le_refl _)
  clear hx hz
  have hSS : ∀ w' : World, Below w1.heap.size w1 w' → w'.cell? ⟨w.heap.size, 0, none⟩ = some (.int .i64 x.x.runner) ∧ w'.cell? ⟨w.heap.size, 1, none⟩ = some (.bool x.x.started) ∧ w'.cell? ⟨w.heap.size, 2, none⟩ = some (.bool x.x.out) ∧ w'.cell? ⟨w.heap.size, 3, none⟩ = some (.int .i64 x.x.number) ∧ w'.cell? ⟨w.heap.size, 4, none⟩ = some (.int .i64 x.x.start) ∧ w'.cell? ⟨w.heap.size, 5, none⟩ = some (.int .i64 x.x.finish) ∧ w'.cell? ⟨w.heap.size, 6, none⟩ = some (.slice x.A x.n x.c) ∧ w'.cell? ⟨w.heap.size + 1, 0, none⟩ = some (.int .i64 y.x.runner) ∧ w'.cell? ⟨w.heap.size + 1, 1, none⟩ = some (.bool y.x.started) ∧ w'.cell? ⟨w.heap.size + 1, 2, none⟩ = some (.bool y.x.out) ∧ w'.cell? ⟨w.heap.size + 1, 3, none⟩ = some (.int .i64 y.x.number) ∧ w'.cell? ⟨w.heap.size + 1, 4, none⟩ = some (.int .i64 y.x.start) ∧ w'.cell? ⟨w.heap.size + 1, 5, none⟩ = some (.int .i64 y.x.finish) ∧ w'.cell? ⟨w.heap.size + 1, 6, none⟩ = some (.slice y.A y.n y.c) := fun w' h => ⟨(X0.next h).cell 0, (X0.next h).cell 1, (X0.next h).cell 2, (X0.next h).cell 3, (X0.next h).cell 4, (X0.next h).cell 5, (X0.next h).cell 6, (Y0.next h).cell 0, (Y0.next h).cell 1, (Y0.next h).cell 2, (Y0.next h).cell 3, (Y0.next h).cell 4, (Y0.next h).cell 5, (Y0.next h).cell 6⟩
  have KW := Below.refl w1.heap.size w1
  replace KW := bel_then KW ((Quiet.one w1).below w1.heap.size)
  refine wp_region_held_drew (S := fun w' => w'.cell? ⟨w.heap.size, 0, none⟩ = some (.int .i64 x.x.runner) ∧ w'.cell? ⟨w.heap.size, 1, none⟩ = some (.bool x.x.started) ∧ w'.cell? ⟨w.heap.size, 2, none⟩ = some (.bool x.x.out) ∧ w'.cell? ⟨w.heap.size, 3, none⟩ = some (.int .i64 x.x.number) ∧ w'.cell? ⟨w.heap.size, 4, none⟩ = some (.int .i64 x.x.start) ∧ w'.cell? ⟨w.heap.size, 5, none⟩ = some (.int .i64 x.x.finish) ∧ w'.cell? ⟨w.heap.size, 6, none⟩ = some (.slice x.A x.n x.c) ∧ w'.cell? ⟨w.heap.size + 1, 0, none⟩ = some (.int .i64 y.x.runner) ∧ w'.cell? ⟨w.heap.size + 1, 1, none⟩ = some (.bool y.x.started) ∧ w'.cell? ⟨w.heap.size + 1, 2, none⟩ = some (.bool y.x.out) ∧ w'.cell? ⟨w.heap.size + 1, 3, none⟩ = some (.int .i64 y.x.number) ∧ w'.cell? ⟨w.heap.size + 1, 4, none⟩ = some (.int .i64 y.x.start) ∧ w'.cell? ⟨w.heap.size + 1, 5, none⟩ = some (.int .i64 y.x.finish) ∧ w'.cell? ⟨w.heap.size + 1, 6, none⟩ = some (.slice y.A y.n y.c)) (by kernel_rfl) (by (try dsimp only); exact hSS _ KW) (fun hH => ?_)
  generalize w1.drew = wz at *
  refine wQ 0 ?_
  refine wQ 1 ?_
  refine wQ 2 ?_
  refine wQ 4 ?_
  refine wQ 5 ?_
  refine wQ 6 ?_
  refine wR (rs := [3]) (by kernel_rfl) (by simp) ?_
  refine aC rfl (fun K hK => ?_) aN
  go_simp
  refine (l15Status_any x.A x.n x.c x.x B m e cs limit _ (PX.1.next KW) PX.2.1 (hy.next KW) hm PX.2.2.2).mono ?_
  rw [HSX.out]
  rintro e w9 ⟨rfl, b9⟩
  replace KW := bel_then KW b9
  clear b9
  generalize w9 = wz at *
  go_wp2_with fail
  refine hK.out _ _ (by (try dsimp only); exact hSS _ KW) (fun hH => ?_)
  clear hK K
  refine wR (rs := [7]) (by kernel_rfl) (by simp) ?_
  refine aC rfl (fun K hK => ?_) aN
  go_simp
  refine (l15Status_any y.A y.n y.c y.x B m e cs limit _ (PY.1.next KW) PY.2.1 (hy.next KW) hm PY.2.2.2).mono ?_
  rw [HSY.out]
  rintro e w9 ⟨rfl, b9⟩
  replace KW := bel_then KW b9
  clear b9
  generalize w9 = wz at *
  go_wp2_with fail
  refine hK.out _ _ (by (try dsimp only); exact hSS _ KW) (fun hH => ?_)
  clear hK K
  refine wQ 8 ?_
  refine wQ 9 ?_
  refine wD (by kernel_rfl) ?_ _
  by_cases hss : sx = sy
  · subst hss
    by_cases h0 : sx = 0
    · subst h0
      by_cases ht : tx = ty
      · have et : (tx != ty) = false := by simp [ht]
        have HR := Lib.hid (show lessK cs limit x y = decide (x.x.runner < y.x.runner) by rw [HR0.out, if_pos rfl, if_neg (fun h => h.2 ht)])
        clear ht
        go_upto_region 4 with fail
        replace KW := bel_then KW ((Quiet.one wz).below wz.heap.size)
        refine wp_region_held_drew (S := fun w' => w'.cell? ⟨w.heap.size, 0, none⟩ = some (.int .i64 x.x.runner) ∧ w'.cell? ⟨w.heap.size, 1, none⟩ = some (.bool x.x.started) ∧ w'.cell? ⟨w.heap.size, 2, none⟩ = some (.bool x.x.out) ∧ w'.cell? ⟨w.heap.size, 3, none⟩ = some (.int .i64 x.x.number) ∧ w'.cell? ⟨w.heap.size, 4, none⟩ = some (.int .i64 x.x.start) ∧ w'.cell? ⟨w.heap.size, 5, none⟩ = some (.int .i64 x.x.finish) ∧ w'.cell? ⟨w.heap.size, 6, none⟩ = some (.slice x.A x.n x.c) ∧ w'.cell? ⟨w.heap.size + 1, 0, none⟩ = some (.int .i64 y.x.runner) ∧ w'.cell? ⟨w.heap.size + 1, 1, none⟩ = some (.bool y.x.started) ∧ w'.cell? ⟨w.heap.size + 1, 2, none⟩ = some (.bool y.x.out) ∧ w'.cell? ⟨w.heap.size + 1, 3, none⟩ = some (.int .i64 y.x.number) ∧ w'.cell? ⟨w.heap.size + 1, 4, none⟩ = some (.int .i64 y.x.start) ∧ w'.cell? ⟨w.heap.size + 1, 5, none⟩ = some (.int .i64 y.x.finish) ∧ w'.cell? ⟨w.heap.size + 1, 6, none⟩ = some (.slice y.A y.n y.c)) (by kernel_rfl) (by (try dsimp only); exact hSS _ KW) (fun hH => ?_)
        generalize wz.drew = wz at *
        refine wQ 0 ?_
        refine wQ 1 ?_
        refine wQ 2 ?_
        refine wQ 3 ?_
        refine wQ 5 ?_
        refine wR (rs := [4]) (by kernel_rfl) (by simp) ?_
        refine aC rfl (fun K hK => ?_) aN
        go_simp
        refine (l15Time_any x.A x.n x.c x.x _ (TX.out (by trivial)).1 (TX.out (by trivial)).2).mono ?_
        rw [HTX.out]
        rintro e w9 ⟨rfl, b9⟩
        replace KW := bel_then KW b9
        clear b9
        generalize w9 = wz at *
        go_wp2_with fail
        refine hK.out _ _ (by (try dsimp only); exact hSS _ KW) (fun hH => ?_)
        clear hK K
        refine wR (rs := [6]) (by kernel_rfl) (by simp) ?_
        refine aC rfl (fun K hK => ?_) aN
        go_simp
        refine (l15Time_any y.A y.n y.c y.x _ (TY.out (by trivial)).1 (TY.out (by trivial)).2).mono ?_
        rw [HTY.out]
        rintro e w9 ⟨rfl, b9⟩
        replace KW := bel_then KW b9
        clear b9
        generalize w9 = wz at *
        go_wp2_with fail
        refine hK.out _ _ (by (try dsimp only); exact hSS _ KW) (fun hH => ?_)
        clear hK K
        refine wQ 7 ?_
        refine wQ 8 ?_
        refine wD (by kernel_rfl) ?_ _
        go_wp2_with fail
        have hq := hSS _ KW
        go_wp2_with fail
        go_ret
        rw [HR.out]
        exact ⟨rfl, bel_then K0 KW⟩
      · have et : (tx != ty) = true := by simp [ht]
        have HR := Lib.hid (show lessK cs limit x y = decide (tx < ty) by rw [HR0.out, if_pos rfl, if_pos ⟨rfl, ht⟩])
        clear ht
        go_upto_region 4 with fail
        replace KW := bel_then KW ((Quiet.one wz).below wz.heap.size)
        refine wp_region_held_drew (S := fun w' => w'.cell? ⟨w.heap.size, 0, none⟩ = some (.int .i64 x.x.runner) ∧ w'.cell? ⟨w.heap.size, 1, none⟩ = some (.bool x.x.started) ∧ w'.cell? ⟨w.heap.size, 2, none⟩ = some (.bool x.x.out) ∧ w'.cell? ⟨w.heap.size, 3, none⟩ = some (.int .i64 x.x.number) ∧ w'.cell? ⟨w.heap.size, 4, none⟩ = some (.int .i64 x.x.start) ∧ w'.cell? ⟨w.heap.size, 5, none⟩ = some (.int .i64 x.x.finish) ∧ w'.cell? ⟨w.heap.size, 6, none⟩ = some (.slice x.A x.n x.c) ∧ w'.cell? ⟨w.heap.size + 1, 0, none⟩ = some (.int .i64 y.x.runner) ∧ w'.cell? ⟨w.heap.size + 1, 1, none⟩ = some (.bool y.x.started) ∧ w'.cell? ⟨w.heap.size + 1, 2, none⟩ = some (.bool y.x.out) ∧ w'.cell? ⟨w.heap.size + 1, 3, none⟩ = some (.int .i64 y.x.number) ∧ w'.cell? ⟨w.heap.size + 1, 4, none⟩ = some (.int .i64 y.x.start) ∧ w'.cell? ⟨w.heap.size + 1, 5, none⟩ = some (.int .i64 y.x.finish) ∧ w'.cell? ⟨w.heap.size + 1, 6, none⟩ = some (.slice y.A y.n y.c)) (by kernel_rfl) (by (try dsimp only); exact hSS _ KW) (fun hH => ?_)
        generalize wz.drew = wz at *
        refine wQ 0 ?_
        refine wQ 1 ?_
        refine wQ 2 ?_
        refine wQ 3 ?_
        refine wQ 5 ?_
        refine wR (rs := [4]) (by kernel_rfl) (by simp) ?_
        refine aC rfl (fun K hK => ?_) aN
        go_simp
        refine (l15Time_any x.A x.n x.c x.x _ (TX.out (by trivial)).1 (TX.out (by trivial)).2).mono ?_
        rw [HTX.out]
        rintro e w9 ⟨rfl, b9⟩
        replace KW := bel_then KW b9
        clear b9
        generalize w9 = wz at *
        go_wp2_with fail
        refine hK.out _ _ (by (try dsimp only); exact hSS _ KW) (fun hH => ?_)
        clear hK K
        refine wR (rs := [6]) (by kernel_rfl) (by simp) ?_
        refine aC rfl (fun K hK => ?_) aN
        go_simp
        refine (l15Time_any y.A y.n y.c y.x _ (TY.out (by trivial)).1 (TY.out (by trivial)).2).mono ?_
        rw [HTY.out]
        rintro e w9 ⟨rfl, b9⟩
        replace KW := bel_then KW b9
        clear b9
        generalize w9 = wz at *
        go_wp2_with fail
        refine hK.out _ _ (by (try dsimp only); exact hSS _ KW) (fun hH => ?_)
        clear hK K
        refine wQ 7 ?_
        refine wQ 8 ?_
        refine wD (by kernel_rfl) ?_ _
        go_upto_region 5 with fail
        replace KW := bel_then KW ((Quiet.one wz).below wz.heap.size)
        refine wp_region_held_drew (S := fun w' => w'.cell? ⟨w.heap.size, 0, none⟩ = some (.int .i64 x.x.runner) ∧ w'.cell? ⟨w.heap.size, 1, none⟩ = some (.bool x.x.started) ∧ w'.cell? ⟨w.heap.size, 2, none⟩ = some (.bool x.x.out) ∧ w'.cell? ⟨w.heap.size, 3, none⟩ = some (.int .i64 x.x.number) ∧ w'.cell? ⟨w.heap.size, 4, none⟩ = some (.int .i64 x.x.start) ∧ w'.cell? ⟨w.heap.size, 5, none⟩ = some (.int .i64 x.x.finish) ∧ w'.cell? ⟨w.heap.size, 6, none⟩ = some (.slice x.A x.n x.c) ∧ w'.cell? ⟨w.heap.size + 1, 0, none⟩ = some (.int .i64 y.x.runner) ∧ w'.cell? ⟨w.heap.size + 1, 1, none⟩ = some (.bool y.x.started) ∧ w'.cell? ⟨w.heap.size + 1, 2, none⟩ = some (.bool y.x.out) ∧ w'.cell? ⟨w.heap.size + 1, 3, none⟩ = some (.int .i64 y.x.number) ∧ w'.cell? ⟨w.heap.size + 1, 4, none⟩ = some (.int .i64 y.x.start) ∧ w'.cell? ⟨w.heap.size + 1, 5, none⟩ = some (.int .i64 y.x.finish) ∧ w'.cell? ⟨w.heap.size + 1, 6, none⟩ = some (.slice y.A y.n y.c)) (by kernel_rfl) (by (try dsimp only); exact hSS _ KW) (fun hH => ?_)
        generalize wz.drew = wz at *
        refine wQ 0 ?_
        refine wQ 2 ?_
        refine wR (rs := [1]) (by kernel_rfl) (by simp) ?_
        refine aC rfl (fun K hK => ?_) aN
        go_simp
        refine (l15Time_any x.A x.n x.c x.x _ (TX.out (by trivial)).1 (TX.out (by trivial)).2).mono ?_
        rw [HTX.out]
        rintro e w9 ⟨rfl, b9⟩
        replace KW := bel_then KW b9
        clear b9
        generalize w9 = wz at *
        go_wp2_with fail
        refine hK.out _ _ (by (try dsimp only); exact hSS _ KW) (fun hH => ?_)
        clear hK K
        refine wR (rs := [3]) (by kernel_rfl) (by simp) ?_
        refine aC rfl (fun K hK => ?_) aN
        go_simp
        refine (l15Time_any y.A y.n y.c y.x _ (TY.out (by trivial)).1 (TY.out (by trivial)).2).mono ?_
        rw [HTY.out]
        rintro e w9 ⟨rfl, b9⟩
        replace KW := bel_then KW b9
        clear b9
        generalize w9 = wz at *
        go_wp2_with fail
        refine hK.out _ _ (by (try dsimp only); exact hSS _ KW) (fun hH => ?_)
        clear hK K
        refine wQ 4 ?_
        refine wQ 5 ?_
        refine wD (by kernel_rfl) ?_ _
        go_wp2_with fail
        go_ret
        rw [HR.out]
        exact ⟨rfl, bel_then K0 KW⟩
    · have e0 : (sx == 0) = false := beq_eq_false_iff_ne.2 h0
      have HR := Lib.hid (show lessK cs limit x y = decide (x.x.runner < y.x.runner) by rw [HR0.out, if_pos rfl, if_neg (fun h => h0 h.1)])
      go_upto_region 4 with fail
      replace KW := bel_then KW ((Quiet.one wz).below wz.heap.size)
      refine wp_region_held_drew (S := fun w' => w'.cell? ⟨w.heap.size, 0, none⟩ = some (.int .i64 x.x.runner) ∧ w'.cell? ⟨w.heap.size, 1, none⟩ = some (.bool x.x.started) ∧ w'.cell? ⟨w.heap.size, 2, none⟩ = some (.bool x.x.out) ∧ w'.cell? ⟨w.heap.size, 3, none⟩ = some (.int .i64 x.x.number) ∧ w'.cell? ⟨w.heap.size, 4, none⟩ = some (.int .i64 x.x.start) ∧ w'.cell? ⟨w.heap.size, 5, none⟩ = some (.int .i64 x.x.finish) ∧ w'.cell? ⟨w.heap.size, 6, none⟩ = some (.slice x.A x.n x.c) ∧ w'.cell? ⟨w.heap.size + 1, 0, none⟩ = some (.int .i64 y.x.runner) ∧ w'.cell? ⟨w.heap.size + 1, 1, none⟩ = some (.bool y.x.started) ∧ w'.cell? ⟨w.heap.size + 1, 2, none⟩ = some (.bool y.x.out) ∧ w'.cell? ⟨w.heap.size + 1, 3, none⟩ = some (.int .i64 y.x.number) ∧ w'.cell? ⟨w.heap.size + 1, 4, none⟩ = some (.int .i64 y.x.start) ∧ w'.cell? ⟨w.heap.size + 1, 5, none⟩ = some (.int .i64 y.x.finish) ∧ w'.cell? ⟨w.heap.size + 1, 6, none⟩ = some (.slice y.A y.n y.c)) (by kernel_rfl) (by (try dsimp only); exact hSS _ KW) (fun hH => ?_)
      generalize wz.drew = wz at *
      refine wQ 0 ?_
      refine wQ 1 ?_
      refine wQ 2 ?_
      refine wU 3 ?_
      refine wU 4 ?_
      refine wU 5 ?_
      refine wU 6 ?_
      refine wU 7 ?_
      refine wQ 8 ?_
      refine wD (by kernel_rfl) ?_ _
      go_wp2_with fail
      have hq := hSS _ KW
      go_wp2_with fail
      go_ret
      rw [HR.out]
      exact ⟨rfl, bel_then K0 KW⟩
  · have es : (sx != sy) = true := by simp [hss]
    have HR := Lib.hid (show lessK cs limit x y = decide (sx < sy) by rw [HR0.out, if_neg hss])
    go_wp2_with fail
    go_ret
    rw [HR.out]
    exact ⟨rfl, bel_then K0 KW⟩

end Go.Proofs.YtflpcdffmpfdpaaGreatDoor
