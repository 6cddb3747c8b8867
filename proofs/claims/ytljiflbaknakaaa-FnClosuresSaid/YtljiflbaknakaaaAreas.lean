/- Areas: when a list of them is valid, as the program and as the reference ask. -/
import Derived.Test.YtljiflbaknakaaaAreaM
import Derived.Test.YtljiflbaknakaaaMapF
import Derived.Test.YtljiflbaknakaaaInts
namespace Go.Proofs.Ytljiflbaknakaaa
open Go.RowKit

theorem quiet_right {P : Program} {f : FuncId} {args : Array Value} {w : World} {n : Nat} {v : Value} (h : Calls P f args (w.drewN n) fun e w' => e = .returned v ∧ Quiet (w.drewN n) w') : Calls P f args (w.drewN n) fun e w'' => e = .returned v ∧ ∃ m, w'' = w.drewN m :=
  h.mono fun _ _ ⟨he, q, hq⟩ => ⟨he, n + q, by rw [hq, World.drewN_drewN]⟩
def areaOK (N : Int) (a : Area) : Bool := inB a.id 1 99 && !a.cells.isEmpty && risingB 0 (N - 1) a.cells && inB a.first 0 364 && inB a.last a.first 364
def GoodAreas (m : MapV) (xs : List Area) : Prop := isMapB m = true ∧ xs.length ≤ 6 ∧ (∀ (j : Nat) (hj : j < xs.length), areaOK (m.width * m.height) xs[j] = true) ∧ ∀ (j : Nat) (hj : j + 1 < xs.length), xs[j].id < xs[j + 1].id
instance (m : MapV) (xs : List Area) : Decidable (GoodAreas m xs) := by
  unfold GoodAreas
  haveI : Decidable (∀ (j : Nat) (hj : j + 1 < xs.length), xs[j].id < xs[j + 1].id) := decidable_of_iff (∀ (j : Nat) (hj : j < xs.length - 1), (xs[j]'(by omega)).id < (xs[j + 1]'(by omega)).id) ⟨fun h j hj => h j (by omega), fun h j hj => h j (by omega)⟩
  infer_instance
def areasB (m : MapV) (xs : List Area) : Bool := decide (GoodAreas m xs)
theorem areasB_true {m : MapV} {xs : List Area} (h : GoodAreas m xs) : areasB m xs = true := decide_eq_true h
theorem areasB_at {m : MapV} {xs : List Area} (h : areasB m xs = true) : GoodAreas m xs := of_decide_eq_true h
theorem areasB_false {m : MapV} {xs : List Area} (h : ¬ GoodAreas m xs) : areasB m xs = false := decide_eq_false h
theorem areasB_not {m : MapV} {xs : List Area} {k : Nat} (hk : k < xs.length) (h : areaOK (m.width * m.height) xs[k] = false) : areasB m xs = false :=
  areasB_false fun g => by rw [g.2.2.1 k hk] at h; cases h
theorem mapB_size {m : MapV} (h : isMapB m = true) : (1 ≤ m.width * m.height ∧ m.width * m.height ≤ 36) ∧ (m.cost.length : Int) = m.width * m.height ∧ m.rise.length = m.cost.length := by
  unfold isMapB at h
  simp only [Bool.and_eq_true, decide_eq_true_eq] at h
  obtain ⟨⟨⟨⟨h1, h2⟩, h3⟩, h4⟩, _⟩ := h
  exact ⟨prod_bd (inB_true h1) (inB_true h2), by omega, h4.symm⟩
theorem mapB_sides {m : MapV} (h : isMapB m = true) : (1 ≤ m.width ∧ m.width ≤ 6) ∧ (1 ≤ m.height ∧ m.height ≤ 6) := by
  unfold isMapB at h
  simp only [Bool.and_eq_true] at h
  exact ⟨inB_true h.1.1.1.1, inB_true h.1.1.1.2⟩
theorem areaOK_facts {N : Int} {a : Area} (h : areaOK N a = true) : (1 ≤ a.id ∧ a.id ≤ 99) ∧ a.cells ≠ [] ∧ risingB 0 (N - 1) a.cells = true ∧ (0 ≤ a.first ∧ a.first ≤ 364) ∧ (a.first ≤ a.last ∧ a.last ≤ 364) := by
  unfold areaOK at h
  simp only [Bool.and_eq_true, Bool.not_eq_true', List.isEmpty_eq_false_iff] at h
  exact ⟨inB_true h.1.1.1.1, h.1.1.1.2, h.1.1.2, inB_true h.1.2, inB_true h.2⟩

theorem isYearDay_any (n : Int) (w : World) : Calls Try.prog 69 #[.int .i64 n] w fun e w' => e = .returned (.bool (inB n 0 364)) ∧ w = w' := by
  go_enter Try.func69, Try.ntmps69
  go_wp2_with (go_at_call 67; refine (inside_any _ _ _ _).mono ?_; rintro e w' ⟨rfl, rfl⟩)
  go_ret
  exact ⟨rfl, rfl⟩

theorem l24Day_any (n : Int) (w : World) : Calls Try.prog 71 #[.int .i64 n] w fun e w' => e = .returned (.bool (inB n 0 364)) ∧ w = w' := by
  go_enter Try.func71, Try.ntmps71
  go_wp2_with (go_at_call 77; refine (l1In_any _ _ _ _).mono ?_; rintro e w' ⟨rfl, rfl⟩)
  go_ret
  exact ⟨rfl, rfl⟩

def GoodTo (m : MapV) (xs : List Area) (k : Nat) : Prop := (∀ (j : Nat) (hj : j < xs.length), j < k → areaOK (m.width * m.height) xs[j] = true) ∧ ∀ (j : Nat) (hj : j + 1 < xs.length), j + 1 < k → xs[j].id < xs[j + 1].id
theorem goodTo_zero {m : MapV} {xs : List Area} : GoodTo m xs 0 := ⟨fun _ _ h => absurd h (by omega), fun _ _ h => absurd h (by omega)⟩
theorem goodTo_next {m : MapV} {xs : List Area} {k : Nat} (h : GoodTo m xs k) (hk : k < xs.length) (ho : areaOK (m.width * m.height) xs[k] = true) (hi : ∀ (j : Nat) (hj : j + 1 = k), xs[j].id < xs[k].id) : GoodTo m xs (k + 1) := by
  refine ⟨fun j hj hjk => ?_, fun j hj hjk => ?_⟩
  · by_cases e : j = k
    · subst e; exact ho
    · exact h.1 j hj (by omega)
  · by_cases e : j + 1 = k
    · subst e; exact hi j rfl
    · exact h.2 j hj (by omega)
theorem goodTo_all {m : MapV} {xs : List Area} {k : Nat} (h0 : isMapB m = true) (h6 : xs.length ≤ 6) (h : GoodTo m xs k) (hk : xs.length ≤ k) : GoodAreas m xs :=
  ⟨h0, h6, fun j hj => h.1 j hj (by omega), fun j hj => h.2 j hj (by omega)⟩
theorem inB_mk {n lo hi : Int} (h : lo ≤ n ∧ n ≤ hi) : inB n lo hi = true := by simp [inB, h]

set_option maxRecDepth 100000 in
set_option maxHeartbeats 4000000 in
theorem AreAreas_any (A1 A2 : Option Addr) (n1 n2 c1 c2 : Nat) (m : MapV) (A : Option Addr) (n c : Nat) (xs : List Area) (w : World) (hm : SeesMap w A1 n1 A2 n2 m) (hn' : n1 ≤ 1048576 ∧ n2 ≤ 1048576) (hx : SeesN areaSh w 0 A n xs) (hn : n ≤ 1048576) (hi : ∀ x ∈ xs, x.cnt ≤ 1048576) :
    Calls Try.prog 19 #[.agg #[.int .i64 m.width, .int .i64 m.height, .slice A1 n1 c1, .slice A2 n2 c2], .slice A n c] w fun e w' => e = .returned (.bool (areasB m xs)) ∧ Below w.heap.size w w' := by
  have hl := hx.count
  have hl2 := hm.f2.icount
  go_enter Try.func19, Try.ntmps19
  go_wp2_with fail
  have K0 : Below w.heap.size w (w.alloc (.cells #[.int .i64 m.width, .int .i64 m.height, .slice A1 n1 c1, .slice A2 n2 c2] 29)) := (Below.refl _ _).alloc (Nat.le_refl _) _
  have Bm0 : Blk (w.alloc (.cells #[.int .i64 m.width, .int .i64 m.height, .slice A1 n1 c1, .slice A2 n2 c2] 29)) w.heap.size 29 [.int .i64 m.width, .int .i64 m.height, .slice A1 n1 c1, .slice A2 n2 c2] := Blk.at_ rfl
  refine (IsMap_any _ _ _ _ _ _ m _ (hm.next K0) hn').mono ?_
  cases g0 : isMapB m
  · rintro e w1 ⟨rfl, b1⟩
    have HF := Lib.hid (areasB_false (m := m) (xs := xs) (fun g => by rw [g.1] at g0; cases g0))
    go_wp2_with fail
    go_ret
    exact ⟨ret_bool HF.out.symm, bel_then K0 b1⟩
  · rintro e w1 ⟨rfl, b1⟩
    have K1 := bel_then K0 b1
    have Bm1 := Bm0.next b1
    obtain ⟨hp, hcl, hrl⟩ := mapB_size g0
    obtain ⟨hs1, hs2⟩ := mapB_sides g0
    have G0 := Lib.hid g0
    have HN := Lib.hid (show (n2 : Int) = m.width * m.height by omega)
    have hn36 : n2 ≤ 36 := by omega
    clear K0 Bm0 b1 g0 hcl hrl
    by_cases h6 : 6 < n
    · have HF := Lib.hid (areasB_false (m := m) (xs := xs) (fun g => by have := g.2.1; omega))
      go_wp2_with fail
      go_ret
      exact ⟨ret_bool HF.out.symm, K1⟩
    go_wp2_with fail
    go_loopw [17] (fun i wr => ∃ k : Nat, k ≤ n ∧ i = .int .i64 k ∧ Hid (GoodTo m xs k) ∧ Blk wr w.heap.size 29 [.int .i64 m.width, .int .i64 m.height, .slice A1 n1 c1, .slice A2 n2 c2] ∧ Below w.heap.size w wr) (fun i _ => n - (intOf i).toNat)
    case atStart => exact ⟨0, Nat.zero_le _, rfl, Lib.hid goodTo_zero, Bm1, K1⟩
    case round =>
      obtain ⟨k, hk, rfl, HA, Bm, hb⟩ := hrel
      by_cases hlt : k < n
      · obtain ⟨b, off, B0, mc, cc0, rfl, hkx, x0, x1, x2, x3, hxi⟩ := SeesArea.elem (hx.next hb) hlt
        have hmc := hxi.icount
        have hmb : mc ≤ 1048576 := by
          have h1 := hi xs[k] (List.getElem_mem hkx)
          unfold Area.cnt at h1
          omega
        have hblt : b < wr.heap.size := World.block_lt_of_cell? wr _ x0
        go_wp2_with fail
        have K2 : Below w.heap.size w (wr.alloc (.cells #[.int .i64 xs[k].id, .slice B0 mc cc0, .int .i64 xs[k].first, .int .i64 xs[k].last] 62)) := hb.alloc hb.size _
        have Ba : Blk (wr.alloc (.cells #[.int .i64 xs[k].id, .slice B0 mc cc0, .int .i64 xs[k].first, .int .i64 xs[k].last] 62)) wr.heap.size 62 [.int .i64 xs[k].id, .slice B0 mc cc0, .int .i64 xs[k].first, .int .i64 xs[k].last] := Blk.at_ rfl
        replace Bm := Bm.alloc (.cells #[.int .i64 xs[k].id, .slice B0 mc cc0, .int .i64 xs[k].first, .int .i64 xs[k].last] 62)
        replace hxi := hxi.next ((Below.refl wr.heap.size wr).alloc (Nat.le_refl _) (.cells #[.int .i64 xs[k].id, .slice B0 mc cc0, .int .i64 xs[k].first, .int .i64 xs[k].last] 62))
        generalize wr.heap.size = ga at *
        generalize wr.alloc (.cells #[.int .i64 xs[k].id, .slice B0 mc cc0, .int .i64 xs[k].first, .int .i64 xs[k].last] 62) = w2 at *
        clear x0 x1 x2 x3
        have ca := Ba.cell
        have cm := Bm.cell
        cases g1 : inB xs[k].id 1 99
        · have HF := Lib.hid (areasB_not (m := m) hkx (by
            unfold areaOK
            rw [g1]; rfl))
          go_wp2_with fail
          go_quiet ((first | (go_at_call 67; exact quiet_left (inside_any _ _ _ _)) | (go_at_call 69; exact quiet_left (isYearDay_any _ _)) | (go_at_call 68; exact quiet_right (ascending_any _ _ _ _ _ _ _ (hxi.quiet (Quiet.mk _ _)) hmb))))
          go_wp2_with fail
          go_ret
          exact ⟨ret_bool HF.out.symm, bel_drewN K2 _⟩
        · by_cases g2 : mc = 0
          · have e2 : ((mc : Int) == 0) = true := by simp [g2]
            have HF := Lib.hid (areasB_not (m := m) hkx (by unfold areaOK; rw [List.isEmpty_iff.2 (List.length_eq_zero_iff.1 (hmc.trans g2))]; simp))
            go_wp2_with fail
            go_quiet ((first | (go_at_call 67; exact quiet_left (inside_any _ _ _ _)) | (go_at_call 69; exact quiet_left (isYearDay_any _ _)) | (go_at_call 68; exact quiet_right (ascending_any _ _ _ _ _ _ _ (hxi.quiet (Quiet.mk _ _)) hmb))))
            go_wp2_with fail
            go_ret
            exact ⟨ret_bool HF.out.symm, bel_drewN K2 _⟩
          · have e2 : ((mc : Int) == 0) = false := by simp [g2]
            cases g3 : risingB 0 ((n2 : Int) - 1) xs[k].cells
            · have HF := Lib.hid (areasB_not (m := m) hkx (by
                unfold areaOK
                rw [← HN.out, g3]; simp))
              go_wp2_with fail
              go_quiet ((first | (go_at_call 67; exact quiet_left (inside_any _ _ _ _)) | (go_at_call 69; exact quiet_left (isYearDay_any _ _)) | (go_at_call 68; exact quiet_right (ascending_any _ _ _ _ _ _ _ (hxi.quiet (Quiet.mk _ _)) hmb))))
              go_wp2_with fail
              go_ret
              exact ⟨ret_bool HF.out.symm, bel_drewN K2 _⟩
            · cases g4 : inB xs[k].first 0 364
              · have HF := Lib.hid (areasB_not (m := m) hkx (by
                  unfold areaOK
                  rw [g4]; simp))
                go_wp2_with fail
                go_quiet ((first | (go_at_call 67; exact quiet_left (inside_any _ _ _ _)) | (go_at_call 69; exact quiet_left (isYearDay_any _ _)) | (go_at_call 68; exact quiet_right (ascending_any _ _ _ _ _ _ _ (hxi.quiet (Quiet.mk _ _)) hmb))))
                go_wp2_with fail
                go_ret
                exact ⟨ret_bool HF.out.symm, bel_drewN K2 _⟩
              · cases g5 : inB xs[k].last xs[k].first 364
                · have HF := Lib.hid (areasB_not (m := m) hkx (by
                    unfold areaOK
                    rw [g5]; simp))
                  go_wp2_with fail
                  go_quiet ((first | (go_at_call 67; exact quiet_left (inside_any _ _ _ _)) | (go_at_call 69; exact quiet_left (isYearDay_any _ _)) | (go_at_call 68; exact quiet_right (ascending_any _ _ _ _ _ _ _ (hxi.quiet (Quiet.mk _ _)) hmb))))
                  go_wp2_with fail
                  go_ret
                  exact ⟨ret_bool HF.out.symm, bel_drewN K2 _⟩
                · have HOK := Lib.hid (show areaOK (m.width * m.height) xs[k] = true by
                                                                                          unfold areaOK; rw [← HN.out, g1, g3, g4, g5]; have e6 : xs[k].cells ≠ [] := fun h => by rw [h] at hmc; simp at hmc; omega
                                                                                          simp [e6])
                  rcases Nat.eq_zero_or_pos k with hk0 | hk0
                  · subst hk0
                    have HA' := Lib.hid (goodTo_next HA.out hkx HOK.out (fun j hj => absurd hj (by omega)))
                    clear HA
                    go_wp2_with fail
                    go_quiet ((first | (go_at_call 67; exact quiet_left (inside_any _ _ _ _)) | (go_at_call 69; exact quiet_left (isYearDay_any _ _)) | (go_at_call 68; exact quiet_right (ascending_any _ _ _ _ _ _ _ (hxi.quiet (Quiet.mk _ _)) hmb))))
                    go_wp2_with fail
                    go_roundw
                    case rel => exact ⟨0 + 1, by omega, by go_num, HA', Bm.drewN _, bel_drewN K2 _⟩
                    case measure => simp [intOf]; omega
                  · obtain ⟨j, rfl⟩ : ∃ j, k = j + 1 := ⟨k - 1, by omega⟩
                    have hz : decide ((0 : Int) < ((j + 1 : Nat) : Int)) = true := decide_eq_true (by omega)
                    obtain ⟨b', off', B1, m1, cc1, hA', hjx, y0, y1, y2, y3, hyi⟩ := SeesArea.elem (hx.next K2) (show j < n by omega)
                    cases hA'
                    have hw1 : IntKind.i64.wrap (((j + 1 : Nat) : Int) - 1) = (j : Int) := by rw [IntWalk.i64_in _ (by omega)]; omega
                    by_cases hlt2 : xs[j].id < xs[j + 1].id
                    · have HA' := Lib.hid (goodTo_next HA.out hkx HOK.out (fun i hi => by obtain rfl : i = j := by omega
                                                                                          exact hlt2))
                      clear HA
                      have hge : decide (xs[j + 1].id ≤ xs[j].id) = false := decide_eq_false (by omega)
                      go_wp2_with fail
                      go_quiet ((first | (go_at_call 67; exact quiet_left (inside_any _ _ _ _)) | (go_at_call 69; exact quiet_left (isYearDay_any _ _)) | (go_at_call 68; exact quiet_right (ascending_any _ _ _ _ _ _ _ (hxi.quiet (Quiet.mk _ _)) hmb))))
                      go_wp2_with fail
                      go_roundw
                      case rel => exact ⟨j + 1 + 1, by omega, by go_num, HA', Bm.drewN _, bel_drewN K2 _⟩
                      case measure => simp [intOf]; omega
                    · have HF := Lib.hid (areasB_false (m := m) (fun g => hlt2 (g.2.2.2 j hkx)))
                      have hge : decide (xs[j + 1].id ≤ xs[j].id) = true := decide_eq_true (by omega)
                      go_wp2_with fail
                      go_quiet ((first | (go_at_call 67; exact quiet_left (inside_any _ _ _ _)) | (go_at_call 69; exact quiet_left (isYearDay_any _ _)) | (go_at_call 68; exact quiet_right (ascending_any _ _ _ _ _ _ _ (hxi.quiet (Quiet.mk _ _)) hmb))))
                      go_wp2_with fail
                      go_ret
                      exact ⟨ret_bool HF.out.symm, bel_drewN K2 _⟩
      · obtain rfl : k = n := by omega
        have HR := Lib.hid (areasB_true (goodTo_all G0.out (by omega) HA.out (by omega)))
        clear HA
        go_wp2_with fail
        go_ret
        exact ⟨ret_bool HR.out.symm, hb⟩

set_option maxRecDepth 100000 in
set_option maxHeartbeats 4000000 in
theorem l24Good_any (A1 A2 : Option Addr) (n1 n2 c1 c2 : Nat) (m : MapV) (A : Option Addr) (n c : Nat) (xs : List Area) (w : World) (hm : SeesMap w A1 n1 A2 n2 m) (hn' : n1 ≤ 1048576 ∧ n2 ≤ 1048576) (hx : SeesN areaSh w 0 A n xs) (hn : n ≤ 1048576) (hi : ∀ x ∈ xs, x.cnt ≤ 1048576) :
    Calls Try.prog 65 #[.agg #[.int .i64 m.width, .int .i64 m.height, .slice A1 n1 c1, .slice A2 n2 c2], .slice A n c] w fun e w' => e = .returned (.bool (areasB m xs)) ∧ Below w.heap.size w w' := by
  have hl := hx.count
  have hl2 := hm.f2.icount
  go_enter Try.func65, Try.ntmps65
  go_wp2_with fail
  have K0 : Below w.heap.size w (w.alloc (.cells #[.int .i64 m.width, .int .i64 m.height, .slice A1 n1 c1, .slice A2 n2 c2] 29)) := (Below.refl _ _).alloc (Nat.le_refl _) _
  have Bm0 : Blk (w.alloc (.cells #[.int .i64 m.width, .int .i64 m.height, .slice A1 n1 c1, .slice A2 n2 c2] 29)) w.heap.size 29 [.int .i64 m.width, .int .i64 m.height, .slice A1 n1 c1, .slice A2 n2 c2] := Blk.at_ rfl
  refine (l2Map_any _ _ _ _ _ _ m _ (hm.next K0) hn').mono ?_
  cases g0 : isMapB m
  · rintro e w1 ⟨rfl, b1⟩
    have HF := Lib.hid (areasB_false (m := m) (xs := xs) (fun g => by rw [g.1] at g0; cases g0))
    go_wp2_with fail
    go_ret
    exact ⟨ret_bool HF.out.symm, bel_then K0 b1⟩
  · rintro e w1 ⟨rfl, b1⟩
    have K1 := bel_then K0 b1
    have Bm1 := Bm0.next b1
    obtain ⟨hp, hcl, hrl⟩ := mapB_size g0
    obtain ⟨hs1, hs2⟩ := mapB_sides g0
    have G0 := Lib.hid g0
    have HN := Lib.hid (show (n2 : Int) = m.width * m.height by omega)
    have hn36 : n2 ≤ 36 := by omega
    clear K0 Bm0 b1 g0 hcl hrl
    go_wp2_with fail
    go_loopw [5, 6] (fun i _ wr => ∃ k : Nat, k ≤ n ∧ i = .int .i64 k ∧ Hid (GoodTo m xs k) ∧ Blk wr w.heap.size 29 [.int .i64 m.width, .int .i64 m.height, .slice A1 n1 c1, .slice A2 n2 c2] ∧ Below w.heap.size w wr) (fun i _ _ => n - (intOf i).toNat)
    case atStart => exact ⟨0, Nat.zero_le _, rfl, Lib.hid goodTo_zero, Bm1, K1⟩
    case round =>
      obtain ⟨k, hk, rfl, HA, Bm, hb⟩ := hrel
      by_cases hlt : k < n
      · obtain ⟨b, off, B0, mc, cc0, rfl, hkx, x0, x1, x2, x3, hxi⟩ := SeesArea.elem (hx.next hb) hlt
        have hmc := hxi.icount
        have hmb : mc ≤ 1048576 := by
          have h1 := hi xs[k] (List.getElem_mem hkx)
          unfold Area.cnt at h1
          omega
        have hblt : b < wr.heap.size := World.block_lt_of_cell? wr _ x0
        go_wp2_with fail
        have K2 : Below w.heap.size w (wr.alloc (.cells #[.int .i64 xs[k].id, .slice B0 mc cc0, .int .i64 xs[k].first, .int .i64 xs[k].last] 62)) := hb.alloc hb.size _
        have Ba : Blk (wr.alloc (.cells #[.int .i64 xs[k].id, .slice B0 mc cc0, .int .i64 xs[k].first, .int .i64 xs[k].last] 62)) wr.heap.size 62 [.int .i64 xs[k].id, .slice B0 mc cc0, .int .i64 xs[k].first, .int .i64 xs[k].last] := Blk.at_ rfl
        replace Bm := Bm.alloc (.cells #[.int .i64 xs[k].id, .slice B0 mc cc0, .int .i64 xs[k].first, .int .i64 xs[k].last] 62)
        replace hxi := hxi.next ((Below.refl wr.heap.size wr).alloc (Nat.le_refl _) (.cells #[.int .i64 xs[k].id, .slice B0 mc cc0, .int .i64 xs[k].first, .int .i64 xs[k].last] 62))
        generalize wr.heap.size = ga at *
        generalize wr.alloc (.cells #[.int .i64 xs[k].id, .slice B0 mc cc0, .int .i64 xs[k].first, .int .i64 xs[k].last] 62) = w2 at *
        clear x0 x1 x2 x3
        have ca := Ba.cell
        have cm := Bm.cell
        cases g1 : inB xs[k].id 1 99
        · have HF := Lib.hid (areasB_not (m := m) hkx (by
            unfold areaOK
            rw [g1]; rfl))
          go_wp2_with fail
          go_quiet ((first | (go_at_call 77; exact quiet_left (l1In_any _ _ _ _)) | (go_at_call 71; exact quiet_left (l24Day_any _ _)) | (go_at_call 102; exact quiet_right (l1Rising_any _ _ _ _ _ _ _ (hxi.quiet (Quiet.mk _ _)) hmb))))
          go_wp2_with fail
          go_ret
          exact ⟨ret_bool HF.out.symm, bel_drewN K2 _⟩
        · by_cases g2 : mc = 0
          · have e2 : ((mc : Int) == 0) = true := by simp [g2]
            have HF := Lib.hid (areasB_not (m := m) hkx (by unfold areaOK; rw [List.isEmpty_iff.2 (List.length_eq_zero_iff.1 (hmc.trans g2))]; simp))
            go_wp2_with fail
            go_quiet ((first | (go_at_call 77; exact quiet_left (l1In_any _ _ _ _)) | (go_at_call 71; exact quiet_left (l24Day_any _ _)) | (go_at_call 102; exact quiet_right (l1Rising_any _ _ _ _ _ _ _ (hxi.quiet (Quiet.mk _ _)) hmb))))
            go_wp2_with fail
            go_ret
            exact ⟨ret_bool HF.out.symm, bel_drewN K2 _⟩
          · have e2 : ((mc : Int) == 0) = false := by simp [g2]
            cases g3 : risingB 0 (m.width * m.height - 1) xs[k].cells
            · have HF := Lib.hid (areasB_not (m := m) hkx (by
                unfold areaOK
                rw [g3]; simp))
              go_wp2_with fail
              go_quiet ((first | (go_at_call 77; exact quiet_left (l1In_any _ _ _ _)) | (go_at_call 71; exact quiet_left (l24Day_any _ _)) | (go_at_call 102; exact quiet_right (l1Rising_any _ _ _ _ _ _ _ (hxi.quiet (Quiet.mk _ _)) hmb))))
              go_wp2_with fail
              go_ret
              exact ⟨ret_bool HF.out.symm, bel_drewN K2 _⟩
            · cases g4 : inB xs[k].last 0 364
              · have HF := Lib.hid (areasB_not (m := m) hkx (by
                  unfold areaOK
                  have e4 : ¬ (0 ≤ xs[k].last ∧ xs[k].last ≤ 364) := fun h => by rw [inB_mk h] at g4; cases g4
                  simp [inB]; omega))
                go_wp2_with fail
                go_quiet ((first | (go_at_call 77; exact quiet_left (l1In_any _ _ _ _)) | (go_at_call 71; exact quiet_left (l24Day_any _ _)) | (go_at_call 102; exact quiet_right (l1Rising_any _ _ _ _ _ _ _ (hxi.quiet (Quiet.mk _ _)) hmb))))
                go_wp2_with fail
                go_ret
                exact ⟨ret_bool HF.out.symm, bel_drewN K2 _⟩
              · cases g5 : inB xs[k].first 0 xs[k].last
                · have HF := Lib.hid (areasB_not (m := m) hkx (by
                    unfold areaOK
                    have e4 := inB_true g4; have e5 : ¬ (0 ≤ xs[k].first ∧ xs[k].first ≤ xs[k].last) := fun h => by rw [inB_mk h] at g5; cases g5
                    simp [inB]; omega))
                  go_wp2_with fail
                  go_quiet ((first | (go_at_call 77; exact quiet_left (l1In_any _ _ _ _)) | (go_at_call 71; exact quiet_left (l24Day_any _ _)) | (go_at_call 102; exact quiet_right (l1Rising_any _ _ _ _ _ _ _ (hxi.quiet (Quiet.mk _ _)) hmb))))
                  go_wp2_with fail
                  go_ret
                  exact ⟨ret_bool HF.out.symm, bel_drewN K2 _⟩
                · have HOK := Lib.hid (show areaOK (m.width * m.height) xs[k] = true by
                                                                                          unfold areaOK; rw [g1, g3]; have e4 := inB_true g4; have e5 := inB_true g5; have e6 : xs[k].cells ≠ [] := fun h => by rw [h] at hmc; simp at hmc; omega
                                                                                          simp [inB, e6]; omega)
                  rcases Nat.eq_zero_or_pos k with hk0 | hk0
                  · subst hk0
                    have HA' := Lib.hid (goodTo_next HA.out hkx HOK.out (fun j hj => absurd hj (by omega)))
                    clear HA
                    go_wp2_with fail
                    go_quiet ((first | (go_at_call 77; exact quiet_left (l1In_any _ _ _ _)) | (go_at_call 71; exact quiet_left (l24Day_any _ _)) | (go_at_call 102; exact quiet_right (l1Rising_any _ _ _ _ _ _ _ (hxi.quiet (Quiet.mk _ _)) hmb))))
                    go_wp2_with fail
                    go_roundw
                    case rel => exact ⟨0 + 1, by omega, by go_num, HA', Bm.drewN _, bel_drewN K2 _⟩
                    case measure => simp [intOf]; omega
                  · obtain ⟨j, rfl⟩ : ∃ j, k = j + 1 := ⟨k - 1, by omega⟩
                    have hz : decide ((0 : Int) < ((j + 1 : Nat) : Int)) = true := decide_eq_true (by omega)
                    obtain ⟨b', off', B1, m1, cc1, hA', hjx, y0, y1, y2, y3, hyi⟩ := SeesArea.elem (hx.next K2) (show j < n by omega)
                    cases hA'
                    have hw1 : IntKind.i64.wrap (((j + 1 : Nat) : Int) - 1) = (j : Int) := by rw [IntWalk.i64_in _ (by omega)]; omega
                    by_cases hlt2 : xs[j].id < xs[j + 1].id
                    · have HA' := Lib.hid (goodTo_next HA.out hkx HOK.out (fun i hi => by obtain rfl : i = j := by omega
                                                                                          exact hlt2))
                      clear HA
                      have hge : decide (xs[j + 1].id ≤ xs[j].id) = false := decide_eq_false (by omega)
                      go_wp2_with fail
                      go_quiet ((first | (go_at_call 77; exact quiet_left (l1In_any _ _ _ _)) | (go_at_call 71; exact quiet_left (l24Day_any _ _)) | (go_at_call 102; exact quiet_right (l1Rising_any _ _ _ _ _ _ _ (hxi.quiet (Quiet.mk _ _)) hmb))))
                      go_wp2_with fail
                      go_roundw
                      case rel => exact ⟨j + 1 + 1, by omega, by go_num, HA', Bm.drewN _, bel_drewN K2 _⟩
                      case measure => simp [intOf]; omega
                    · have HF := Lib.hid (areasB_false (m := m) (fun g => hlt2 (g.2.2.2 j hkx)))
                      have hge : decide (xs[j + 1].id ≤ xs[j].id) = true := decide_eq_true (by omega)
                      go_wp2_with fail
                      go_quiet ((first | (go_at_call 77; exact quiet_left (l1In_any _ _ _ _)) | (go_at_call 71; exact quiet_left (l24Day_any _ _)) | (go_at_call 102; exact quiet_right (l1Rising_any _ _ _ _ _ _ _ (hxi.quiet (Quiet.mk _ _)) hmb))))
                      go_wp2_with fail
                      go_ret
                      exact ⟨ret_bool HF.out.symm, bel_drewN K2 _⟩
      · obtain rfl : k = n := by omega
        have HR := Lib.hid (show areasB m xs = decide (k ≤ 6) by
          by_cases h6 : k ≤ 6
          · rw [decide_eq_true h6]; exact areasB_true (goodTo_all G0.out (by omega) HA.out (by omega))
          · rw [decide_eq_false h6]; exact areasB_false (fun g => h6 (by have := g.2.1; omega)))
        clear HA
        go_wp2_with fail
        go_ret
        exact ⟨ret_bool (by rw [HR.out]; first | rfl | (rw [Bool.eq_iff_iff]; simp; try omega)), hb⟩

theorem specAreAreas_any (A1 A2 : Option Addr) (n1 n2 c1 c2 : Nat) (m : MapV) (A : Option Addr) (n c : Nat) (xs : List Area) (w : World) (hm : SeesMap w A1 n1 A2 n2 m) (hn' : n1 ≤ 1048576 ∧ n2 ≤ 1048576) (hx : SeesN areaSh w 0 A n xs) (hn : n ≤ 1048576) (hi : ∀ x ∈ xs, x.cnt ≤ 1048576) :
    Calls Try.prog 16 #[.agg #[.int .i64 m.width, .int .i64 m.height, .slice A1 n1 c1, .slice A2 n2 c2], .slice A n c] w fun e w' => e = .returned (.bool (areasB m xs)) ∧ Below w.heap.size w w' := by
  go_enter Try.func16, Try.ntmps16
  go_wp2_with fail
  have K0 : Below w.heap.size w (w.alloc (.cells #[.int .i64 m.width, .int .i64 m.height, .slice A1 n1 c1, .slice A2 n2 c2] 29)) := (Below.refl _ _).alloc (Nat.le_refl _) _
  refine (l24Good_any _ _ _ _ _ _ m _ _ _ xs _ (hm.next K0) hn' (hx.next K0) hn hi).mono ?_
  rintro e w1 ⟨rfl, b1⟩
  go_wp2_with fail
  go_ret
  exact ⟨rfl, bel_then K0 b1⟩

end Go.Proofs.Ytljiflbaknakaaa
