/- The fewest steps from a cell, as the program finds them: a search by rings. -/
import Derived.Test.YtjcmlloglnkbfaaNextTo
import Derived.Test.YtjcmlloglnkbfaaQue
import Derived.Test.YtjcmlloglnkbfaaBoxed
import Derived.Deep.LoopGhost
namespace Go.Proofs.Ytjcmlloglnkbfaa
open Go.RowKit

theorem take_set_next {α : Type} : ∀ (l : List α) (k : Nat) (v : α), k < l.length → (l.set k v).take (k + 1) = l.take k ++ [v]
  | x :: l, 0, v, _ => by simp
  | x :: l, k + 1, v, h => by
    have := take_set_next l k v (by simpa using h)
    simpa using this
theorem ints_set (l : List Int) (i : Nat) (x : Int) : (ints l).set i (.int .i64 x) = ints (l.set i x) := by simp [ints, List.map_set]
theorem unmarked_le (D : List Int) : unmarked D ≤ D.length := List.length_filter_le _ _
theorem nextL_in {m : MapV} (b : Int) : ∀ x ∈ nextL m b, 0 ≤ x ∧ x < m.cost.length := fun _ hx => (mem_nextL.1 hx).1
def GivesD (w : World) (m : MapV) (a : Int) (e : Ending) (w' : World) : Prop := ∃ (D : List Int) (A : Option Addr) (c : Nat), (Bfs m.cost.length (nextL m) a D [] ∧ ∀ x : Int, 0 ≤ x → x < m.cost.length → dAt D x ≤ m.cost.length) ∧ e = .returned (.slice A D.length c) ∧ w'.ownsRow w.heap.size 3 1 (.slice A D.length c) D.length (ints D) ∧ Below w.heap.size w w'
/-- The search's state at the head of a round. -/
structure Ring (w wr : World) (m : MapV) (a : Int) (n2 gk g off c : Nat) (D Q : List Int) (cs : List Value) : Prop where
  que : Que wr (w.heap.size + 2) g off Q.length c Q
  out : Blk wr (w.heap.size + 1) 3 (ints D)
  inv : Bfs m.cost.length (nextL m) a D Q
  num : unmarked D + Q.length ≤ gk
  big : gk ≤ 40
  lim : ∀ x : Int, 0 ≤ x → x < m.cost.length → dAt D x + unmarked D ≤ m.cost.length
  map : Blk wr w.heap.size 29 cs
  kept : Below w.heap.size w wr
/-- Within a round: the first k cells beside q are done. -/
structure Inner (w wx : World) (m : MapV) (a q : Int) (k base g off c U : Nat) (A3 : Option Addr) (c3 : Nat) (D Q : List Int) (cs : List Value) : Prop where
  que : Que wx (w.heap.size + 2) g off (Q.length + 1) c (q :: Q)
  out : Blk wx (w.heap.size + 1) 3 (ints D)
  inv : BfsIn m.cost.length (nextL m) a q k D Q
  num : unmarked D + Q.length = U
  lim : ∀ x : Int, 0 ≤ x → x < m.cost.length → dAt D x + unmarked D ≤ m.cost.length
  own : wx.ownsRow base 3 1 (.slice A3 (nextL m q).length c3) (nextL m q).length (ints (nextL m q))
  far : ∀ b, OwnB A3 b → b ≠ g
  map : Blk wx w.heap.size 29 cs
  kept : Below w.heap.size w wx
theorem lim_set {N : Nat} {D : List Int} {x : Int} {v : Int} (h : ∀ y : Int, 0 ≤ y → y < N → dAt D y + unmarked D ≤ N) (hx : 0 ≤ x) (hl : x < D.length) (hD : dAt D x < 0) (hv : 0 ≤ v) (hv1 : v + unmarked D ≤ N + 1) : ∀ y : Int, 0 ≤ y → y < N → dAt (D.set x.toNat v) y + unmarked (D.set x.toNat v) ≤ N := by
  intro y hy hyN
  have h1 := unmarked_set (D := D) (i := x.toNat) (x := v) (by omega) (by rw [← dAt_get (by omega)]; exact hD) hv
  by_cases e : y = x
  · subst e
    rw [dAt_set_self hx hl]
    omega
  · rw [dAt_set_ne hx hy e]
    have := h y hy hyN
    omega

set_option maxRecDepth 100000 in
set_option maxHeartbeats 8000000 in
theorem stepsFrom_any (A1 A2 : Option Addr) (n1 n2 c1 c2 : Nat) (m : MapV) (a : Nat) (w : World) (hm : SeesMap w A1 n1 A2 n2 m) (hn : n2 ≤ 36) (hw : 1 ≤ m.width ∧ m.width ≤ 6) (ha : a < n2) :
    Calls Try.prog 85 #[.agg #[.int .i64 m.width, .int .i64 m.height, .slice A1 n1 c1, .slice A2 n2 c2], .int .i64 (a : Int)] w (GivesD w m a) := by
  have HL2 := Lib.hid hm.f2.icount
  obtain ⟨zs, hzs, hmk⟩ := make_zeros (P := Try.prog) n2 Try.underlying22 info_int (by omega) (by omega)
  have K0 : Below w.heap.size w ((w.alloc (.cells #[.int .i64 m.width, .int .i64 m.height, .slice A1 n1 c1, .slice A2 n2 c2] 29)).alloc (.cells zs.toArray 3)) := ((Below.refl _ _).alloc (Nat.le_refl _) _).alloc (by simp) _
  have B0 : Blk ((w.alloc (.cells #[.int .i64 m.width, .int .i64 m.height, .slice A1 n1 c1, .slice A2 n2 c2] 29)).alloc (.cells zs.toArray 3)) (w.heap.size + 1) 3 zs := Blk.at_ (by simp)
  have M0 : Blk ((w.alloc (.cells #[.int .i64 m.width, .int .i64 m.height, .slice A1 n1 c1, .slice A2 n2 c2] 29)).alloc (.cells zs.toArray 3)) w.heap.size 29 [.int .i64 m.width, .int .i64 m.height, .slice A1 n1 c1, .slice A2 n2 c2] := (Blk.at_ rfl).alloc _
  have ha' : (a : Int) < (n2 : Int) := by omega
  go_enter Try.func85, Try.ntmps85
  go_wp2_with fail
  clear hmk
  go_loopw [16] (fun i wr => ∃ (k : Nat) (cs : List Value), k ≤ n2 ∧ i = .int .i64 (k : Int) ∧ Blk wr (w.heap.size + 1) 3 cs ∧ cs.length = n2 ∧ Hid (cs.take k = ints (List.replicate k (-1))) ∧ Blk wr w.heap.size 29 [.int .i64 m.width, .int .i64 m.height, .slice A1 n1 c1, .slice A2 n2 c2] ∧ Below w.heap.size w wr) (fun i _ => n2 - (intOf i).toNat)
  case atStart => exact ⟨0, zs, Nat.zero_le _, rfl, B0, by omega, Lib.hid rfl, M0, K0⟩
  case round =>
    obtain ⟨k, cs, hk, rfl, B, hcl, HT, M, K⟩ := hrel
    have HCL := Lib.hid hcl
    by_cases hlt : k < n2
    · obtain ⟨v, hv⟩ : ∃ v, wr.cell? ⟨w.heap.size + 1, k, none⟩ = some v := ⟨_, (B.cell k).trans (List.getElem?_eq_getElem (by omega))⟩
      have fz := B.frozen k
      clear hcl
      go_wp2_with fail
      go_roundw
      case rel => exact ⟨k + 1, _, by omega, by go_num, B.set_ k (.int .i64 (-1)), by rw [List.length_set]; exact HCL.out, Lib.hid (by rw [take_set_next _ _ _ (by rw [HCL.out]; exact hlt), HT.out, List.replicate_succ', ints_append]; rfl), M.far (p := ⟨w.heap.size + 1, k, none⟩) (by show w.heap.size ≠ w.heap.size + 1; omega) _, K.setCell (p := ⟨w.heap.size + 1, k, none⟩) (Nat.le_succ _) _⟩
      case measure => simp [intOf]; omega
    · obtain rfl : n2 = k := by omega
      have hcs : cs = ints (List.replicate n2 (-1)) := by rw [← HT.out, List.take_of_length_le (by omega)]
      subst hcs
      clear HT HCL hcl B0 M0 K0 hlt hk
      have HN := Lib.hid (show m.cost.length = n2 from HL2.out)
      have c0 : wr.cell? ⟨w.heap.size + 1, a, none⟩ = some (.int .i64 (-1)) := by
        rw [B.cell a, ints_get _ a (by simpa using ha)]
        simp
      have fz := B.frozen a
      have lt := B.lt
      have B1 := (B.set_ a (.int .i64 0)).alloc (.cells #[.int .i64 (a : Int)] 3)
      have M1 := (M.far (p := ⟨w.heap.size + 1, a, none⟩) (by show w.heap.size ≠ w.heap.size + 1; omega) (.int .i64 0)).alloc (.cells #[.int .i64 (a : Int)] 3)
      have K1 := (K.setCell (p := ⟨w.heap.size + 1, a, none⟩) (Nat.le_succ _) (.int .i64 0)).alloc (by simp; omega) (.cells #[.int .i64 (a : Int)] 3)
      have Q1 : Blk ((wr.setCell ⟨w.heap.size + 1, a, none⟩ (.int .i64 0)).alloc (.cells #[.int .i64 (a : Int)] 3)) wr.heap.size 3 [.int .i64 (a : Int)] := Blk.at_ (by simp [World.setCell])
      rw [ints_set] at B1
      go_wp2_with fail
      generalize (wr.setCell ⟨w.heap.size + 1, a, none⟩ (.int .i64 0)).alloc (.cells #[.int .i64 (a : Int)] 3) = w1 at *
      have HR : Ring w w1 m a n2 (n2 + 1) wr.heap.size 0 1 ((List.replicate n2 (-1 : Int)).set a 0) [(a : Int)] [.int .i64 m.width, .int .i64 m.height, .slice A1 n1 c1, .slice A2 n2 c2] := by
        refine ⟨⟨by omega, ⟨_, Q1, by simp, fun j hj => ?_⟩, rfl, Nat.le_refl _⟩, B1, ?_, ?_, by omega, ?_, M1, K1⟩
        · have : j = 0 := by simpa using hj
          subst this; rfl
        · have h0 := bfs_start (N := m.cost.length) (nx := nextL m) (a := (a : Int)) (by omega) (by rw [HN.out]; exact ha')
          rw [HN.out] at h0
          rw [HN.out]
          simpa using h0
        · have h0 := unmarked_set (D := List.replicate n2 (-1 : Int)) (i := a) (x := 0) (by simpa using ha) (by simp) (by omega)
          have h1 := unmarked_le (List.replicate n2 (-1 : Int))
          simp only [List.length_replicate] at h1
          show unmarked _ + 1 ≤ n2 + 1
          omega
        · intro y hy hyN
          have h0 := unmarked_set (D := List.replicate n2 (-1 : Int)) (i := a) (x := 0) (by simpa using ha) (by simp) (by omega)
          have h1 := unmarked_le (List.replicate n2 (-1 : Int))
          simp only [List.length_replicate] at h1
          rw [HN.out] at hyN ⊢
          by_cases e : y = (a : Int)
          · subst e
            have h2 := dAt_set_self (D := List.replicate n2 (-1 : Int)) (c := (a : Int)) (x := 0) (by omega) (by simpa using ha)
            simp only [Int.toNat_natCast] at h2
            rw [h2]; omega
          · have h2 := dAt_set_ne (D := List.replicate n2 (-1 : Int)) (c := (a : Int)) (d := y) (x := 0) (by omega) hy e
            simp only [Int.toNat_natCast] at h2
            rw [h2, dAt_get (by simp; omega)]
            simp only [List.getElem_replicate]
            omega
      clear c0 fz B1 M1 K1 Q1 B M K
      go_loopg [7] (n2 + 1) (fun gk v wr => ∃ (D Q : List Int) (g off c : Nat), v = .slice (some ⟨g, off, none⟩) Q.length c ∧ Ring w wr m a n2 gk g off c D Q [.int .i64 m.width, .int .i64 m.height, .slice A1 n1 c1, .slice A2 n2 c2])
      case atStart => exact ⟨_, _, _, _, _, rfl, HR⟩
      case round =>
        obtain ⟨D, Q, g, off, c, rfl, R⟩ := hrel
        obtain ⟨RQ, RB, RI, RN, RG, RL, RM, RK⟩ := R
        have HN := Lib.hid (show m.cost.length = n2 from HL2.out)
        have hD : D.length = n2 := by rw [RI.len]; exact HN.out
        rcases Q with _ | ⟨q, Q⟩
        · have HD := Lib.hid hD
          clear hD
          go_wp2_with fail
          go_ret
          exact ⟨D, some ⟨w.heap.size + 1, 0, none⟩, n2, ⟨RI, fun x h1 h2 => by have := RL x h1 h2; omega⟩, by rw [HD.out]; rfl, by rw [HD.out]; exact RB.own (Nat.le_succ _) (by rw [ints_length, HD.out]; omega) (by simp only [maxLen]; omega), RK⟩
        · obtain ⟨⟨q0, q1⟩, qD⟩ := RI.qin q (by simp)
          obtain ⟨qn, rfl⟩ := Int.eq_ofNat_of_zero_le q0
          rw [HN.out] at q1
          have hwr := (Quiet.one wr).below wr.heap.size
          replace RQ := RQ.next hwr
          replace RB := RB.next hwr
          replace RM := RM.next hwr
          replace RK := bel_then RK hwr
          clear hwr
          have cm := RM.cell
          obtain ⟨_, cq0⟩ := RQ.cell (j := 0) (Nat.succ_pos _)
          have cq : wr.drew.cell? ⟨g, off, none⟩ = some (.int .i64 (qn : Int)) := by rw [Nat.add_zero] at cq0; exact cq0
          clear cq0
          have HD := Lib.hid hD
          have hlen : (0 : Int) < ((Q.length + 1 : Nat) : Int) := by omega
          clear hD
          go_wp2_with fail
          go_region_held3 (fun w' => w'.cell? ⟨g, off, none⟩ = some (.int .i64 (qn : Int)) ∧ w'.cell? ⟨w.heap.size, 0, none⟩ = some (.int .i64 m.width) ∧ w'.cell? ⟨w.heap.size, 1, none⟩ = some (.int .i64 m.height) ∧ w'.cell? ⟨w.heap.size, 2, none⟩ = some (.slice A1 n1 c1) ∧ w'.cell? ⟨w.heap.size, 3, none⟩ = some (.slice A2 n2 c2)) (go_keep)
            (first
              | (go_at_call 109
                 refine (cellsNextTo_any _ _ _ _ _ _ m qn _ (hm.next RK) hn hw (by omega)).mono ?_
                 rintro e w2 ⟨A3, c3, rfl, o3, b3⟩
                 have L2 := RM.lt
                 have gb0 := RB.lt
                 clear cm cq
                 have J := RQ.next b3
                 replace RB := RB.next b3
                 have J3 := RM.next b3
                 replace RK := bel_then RK b3
                 have cm := J3.cell
                 have gq := RQ.lt
                 obtain ⟨_, cq0⟩ := J.cell (j := 0) (Nat.succ_pos _)
                 have cq : w2.cell? ⟨g, off, none⟩ = some (.int .i64 (qn : Int)) := by rw [Nat.add_zero] at cq0; exact cq0
                 clear cq0 b3))
          go_wp2_with fail
          have HU : ∃ U, U = unmarked D + Q.length := ⟨_, rfl⟩
          obtain ⟨U, hU⟩ := HU
          have HU := Lib.hid hU
          clear hU
          have hlow : w.heap.size + 1 < w2.heap.size := RB.lt
          have hfar : ∀ b, OwnB A3 b → b ≠ g := fun b hb => by have := (own_top o3 hb).1; have := RQ.lt; omega
          have HI : Inner w w2 m a (qn : Int) 0 wr.drew.heap.size g off c U A3 c3 D Q [.int .i64 m.width, .int .i64 m.height, .slice A1 n1 c1, .slice A2 n2 c2] := ⟨J, RB, bfsIn_start RI, HU.out.symm, RL, o3, hfar, J3, RK⟩
          have hbase : w.heap.size + 1 < wr.drew.heap.size := gb0
          clear J RB RL o3 hfar J3 RK RQ RM cm cq RI
          generalize wr.drew.heap.size = base at *
          have hnl : (nextL m (qn : Int)).length ≤ 36 := by
            have h0 := nextTo_len m (qn : Int) m.cost.length
            have h1 : m.cost.length ≤ 36 := by rw [HN.out]; exact hn
            exact Nat.le_trans h0 h1
          obtain ⟨wo, hwo⟩ : ∃ wo : World, wo = w2 := ⟨_, rfl⟩
          subst hwo
          go_loopw [7, 39] (fun v i wx => ∃ (k : Nat) (D1 Q1 : List Int) (g1 off1 d1 : Nat), k ≤ (nextL m (qn : Int)).length ∧ i = .int .i64 (k : Int) ∧ v = .slice (some ⟨g1, off1, none⟩) (Q1.length + 1) d1 ∧ Inner w wx m a (qn : Int) k base g1 off1 d1 U A3 c3 D1 Q1 [.int .i64 m.width, .int .i64 m.height, .slice A1 n1 c1, .slice A2 n2 c2]) (fun _ i _ => (nextL m (qn : Int)).length - (intOf i).toNat)
          case atStart => exact ⟨0, D, Q, g, off, c, Nat.zero_le _, rfl, rfl, HI⟩
          case round =>
            obtain ⟨k, D1, Q1, g1, off1, d1, hk, rfl, rfl, I⟩ := hrel
            clear HI
            have hk36 : k ≤ 36 := by omega
            have hlD : D1.length = n2 := by rw [I.inv.inv.len]; exact HN.out
            have hQ1 : Q1.length ≤ 100 := by have h1 := I.num; have h2 := HU.out; simp only [List.length_cons] at RN; omega
            by_cases hlt : k < (nextL m (qn : Int)).length
            · obtain ⟨b3, o3, rfl, hx3, x3⟩ := (Sees.of_own I.own).int hlt
              have HK := Lib.hid (show k + 1 ≤ (nextL m (qn : Int)).length by omega)
              obtain ⟨hx0, hx1⟩ := nextL_in _ _ (List.getElem_mem hx3)
              obtain ⟨xn, hxn⟩ := Int.eq_ofNat_of_zero_le hx0
              rw [hxn] at hx1 x3
              rw [HN.out] at hx1
              have hx2 : xn < D1.length := by omega
              have hq2 : qn < D1.length := by omega
              have cx : wr.cell? ⟨w.heap.size + 1, xn, none⟩ = some (.int .i64 D1[xn]) := by rw [I.out.cell, ints_get _ _ hx2]
              have cqq : wr.cell? ⟨w.heap.size + 1, qn, none⟩ = some (.int .i64 D1[qn]) := by rw [I.out.cell, ints_get _ _ hq2]
              have fx := I.out.frozen xn
              have hdx : dAt D1 (xn : Int) = D1[xn] := by rw [dAt_get (by simpa using hx2)]; simp
              have hdq : dAt D1 (qn : Int) = D1[qn] := by rw [dAt_get (by simpa using hq2)]; simp
              have hqD := (I.inv.inv.qin (qn : Int) (by simp)).2
              have hlq := I.lim (qn : Int) (by omega) (by rw [HN.out]; omega)
              rw [HN.out] at hlq
              obtain ⟨_, cq0⟩ := I.que.cell (j := 0) (Nat.succ_pos _)
              have cq : wr.cell? ⟨g1, off1, none⟩ = some (.int .i64 (qn : Int)) := by rw [Nat.add_zero] at cq0; exact cq0
              clear cq0
              have lt1 := I.out.lt
              have hm1 := I.map.lt
              have hgg := I.que.lt
              have hgl := I.que.ge
              by_cases hneg : D1[xn] < 0
              · have hnew := bfsIn_new nextL_in I.inv hlt hxn (by rw [hdx]; exact hneg)
                have hlim := lim_set (v := dAt D1 (qn : Int) + 1) I.lim (x := (xn : Int)) (by omega) (by omega) (by rw [hdx]; exact hneg) (by omega) (by rw [HN.out]; omega)
                simp only [Int.toNat_natCast] at hnew hlim
                rw [hdq] at hnew hlim hqD hlq
                have hb1 : D1[qn] ≤ 100 := by omega
                have O1 := I.out.set_ xn (.int .i64 (D1[qn] + 1))
                rw [ints_set] at O1
                have o := only_set (g := w.heap.size + 1) (Only.refl (fun b => b = w.heap.size + 1) wr) xn (.int .i64 (D1[qn] + 1))
                have Q2 := I.que.only o (fun (h : _ = _) => by omega)
                have W2 := own_only I.own o (fun b hb (h : _ = _) => by have := (own_top I.own hb).1; omega)
                have M2 := I.map.only o (fun (h : _ = _) => by omega)
                have K2 := I.kept.setCell (p := ⟨w.heap.size + 1, xn, none⟩) (Nat.le_succ _) (.int .i64 (D1[qn] + 1))
                have hfar := I.far
                have hnum := I.num
                have HH := Lib.hid (And.intro hnew (And.intro hlim (And.intro hfar hnum)))
                have hneg' : decide (D1[xn] < 0) = true := decide_eq_true hneg
                have hz : (wr.setCell ⟨w.heap.size + 1, xn, none⟩ (.int .i64 (D1[qn] + 1))).heap.size = wr.heap.size := by simp [World.setCell]
                clear hnew hlim hfar hnum hdx hdq I hlD o
                go_wp2_with (at_builtin; go_loud (refine wpList_quePush rfl _ _ rfl rfl Q2 rfl hz (by omega) (by omega) ?_); intro g4 off4 d4 w4 Q4 o4 h4)
                go_roundw
                case rel =>
                  have hout := O1.only o4 (fun (h : _ = _) => by omega)
                  have hmap := M2.only o4 (fun (h : _ = _) => by omega)
                  have hown := own_only W2 o4 (fun b hb (h : _ = _) => HH.out.2.2.1 b hb h)
                  have hkept := K2.trans (o4.below (B := w.heap.size) (fun _ (h : _ = _) => by omega) (by omega))
                  have hfar4 : ∀ b, OwnB (some ⟨b3, o3, none⟩) b → b ≠ g4 := fun b hb e => by
                    rcases h4 with h4 | h4
                    · exact HH.out.2.2.1 b hb (e.trans h4)
                    · have := (own_top W2 hb).2; omega
                  exact ⟨k + 1, D1.set xn (D1[qn] + 1), Q1 ++ [(xn : Int)], g4, off4, d4, HK.out, by go_num, by simp, ⟨by simpa using Q4, hout, HH.out.1.1, by rw [← HH.out.2.2.2]; exact HH.out.1.2, HH.out.2.1, hown, hfar4, hmap, hkept⟩⟩
                case measure => have hk9 := HK.out; simp [intOf]; omega
              · have hinv := bfsIn_old I.inv hlt hxn ⟨by omega, by rw [HN.out]; exact hx1⟩ (by rw [hdx]; omega)
                have HI2 := Lib.hid (show Inner w wr m a (qn : Int) (k + 1) base g1 off1 d1 U (some ⟨b3, o3, none⟩) c3 D1 Q1 [.int .i64 m.width, .int .i64 m.height, .slice A1 n1 c1, .slice A2 n2 c2] from ⟨I.que, I.out, hinv, I.num, I.lim, I.own, I.far, I.map, I.kept⟩)
                have hneg' : decide (D1[xn] < 0) = false := decide_eq_false hneg
                clear hinv hdx hdq hqD hlq I hlD
                go_wp2_with fail
                go_roundw
                case rel => exact ⟨k + 1, D1, Q1, g1, off1, d1, HK.out, by go_num, rfl, HI2.out⟩
                case measure => have hk9 := HK.out; simp [intOf]; omega
            · have hend := bfsIn_end I.inv (by omega)
              have hnum := I.num
              have hU := HU.out
              simp only [List.length_cons] at RN
              have hsm : unmarked D1 + Q1.length < gk := by omega
              by_cases hd1 : d1 = 1
              · subst hd1
                have hq0 : Q1.length = 0 := by have := I.que.cap; omega
                have hq1 : Q1 = [] := List.eq_nil_of_length_eq_zero hq0
                subst hq1
                have hR : Ring w wr m a n2 (unmarked D1 + 0) g1 off1 0 D1 [] [.int .i64 m.width, .int .i64 m.height, .slice A1 n1 c1, .slice A2 n2 c2] := ⟨I.que.last, I.out, hend, Nat.le_refl _, by omega, I.lim, I.map, I.kept⟩
                have HR2 := Lib.hid hR
                clear hR hend I
                go_wp2_with fail
                go_roundg (unmarked D1 + 0)
                case rel => exact ⟨D1, [], g1, off1, 0, rfl, HR2.out⟩
                case measure => simpa using hsm
              · have hcap := I.que.cap
                have hd2 : ¬ d1 = 1 := hd1
                have hR : Ring w wr m a n2 (unmarked D1 + Q1.length) g1 (off1 + 1) (d1 - 1) D1 Q1 [.int .i64 m.width, .int .i64 m.height, .slice A1 n1 c1, .slice A2 n2 c2] := ⟨I.que.pop, I.out, hend, Nat.le_refl _, by omega, I.lim, I.map, I.kept⟩
                have HR2 := Lib.hid hR
                clear hR hend I
                go_wp2_with fail
                go_roundg (unmarked D1 + Q1.length)
                case rel => exact ⟨D1, Q1, g1, off1 + 1, d1 - 1, rfl, HR2.out⟩
                case measure => exact hsm

end Go.Proofs.Ytjcmlloglnkbfaa
