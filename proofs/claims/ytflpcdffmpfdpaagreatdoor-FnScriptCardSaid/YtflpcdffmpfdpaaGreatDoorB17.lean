/- Joined texts of this proof: RunS2, OrdP, Make. -/
import Derived.Laws.OwnMore
import Derived.Test.YtflpcdffmpfdpaaGreatDoorB16
import Derived.Test.YtflpcdffmpfdpaaGreatDoorB01
set_option maxRecDepth 100000
set_option maxHeartbeats 8000000
namespace Go.Proofs.YtflpcdffmpfdpaaGreatDoor
open Go.RowKit
structure ComparesB {α : Type} (w0 : World) (g : Nat) (lb : Array Value) (enc : α → Value) (cf : α → α → Int) (D : α → Prop) : Prop where
 enters : ∀ args w, (callFunc g args).run Tryz.prog w = .ok (.enter g args) w
 at' : ∀ (x y : α), D x → D y → ∀ W : World, Below w0.heap.size w0 W → Calls Tryz.prog g (#[enc x, enc y] ++ lb) W fun e W' => e = .returned (.int .i64 (cf x y)) ∧ Below W.heap.size W W'
def jbr (lt : RunH → RunH → Bool) (xs : List RunH) (a i : Nat) : List RunH := xs.take a ++ jbm lt ((xs.drop a).take (i - a)) ++ xs.drop i
theorem jku (lt : RunH → RunH → Bool) (xs : List RunH) (a : Nat) : jbr lt xs a a = xs := by
 unfold jbr
 rw [Nat.sub_self, List.take_zero, jle, List.append_nil, List.take_append_drop]
theorem jgz (lt : RunH → RunH → Bool) (xs : List RunH) (a : Nat) : jbr lt xs a (a + 1) = xs := by
 unfold jbr
 rw [show a + 1 - a = 1 by omega]
 by_cases h : a < xs.length
 ·have h1 : xs.drop a = xs[a] :: xs.drop (a + 1) := List.drop_eq_getElem_cons h
  rw [h1, List.take_succ_cons, List.take_zero, jow]
  have h2 := List.take_append_drop a xs
  rw [h1] at h2
  simp
 ·rw [List.drop_of_length_le (by omega), List.take_nil, jle, List.drop_of_length_le (by omega), List.append_nil, List.append_nil, List.take_of_length_le (by omega)]
theorem jja (lt : RunH → RunH → Bool) (xs : List RunH) (a i : Nat) (hi : i < xs.length) (ha : a ≤ i) :
  (jbm lt ((xs.drop a).take (i - a))).length = i - a ∧ jbr lt xs a i = xs.take a ++ ((jbm lt ((xs.drop a).take (i - a))).take (i - a) ++ xs[i] :: (jbm lt ((xs.drop a).take (i - a))).drop (i - a)) ++ xs.drop (i + 1) ∧ jbr lt xs a (i + 1) = xs.take a ++ jlv lt (jbm lt ((xs.drop a).take (i - a))) xs[i] ++ xs.drop (i + 1) := by
 have hl : (jbm lt ((xs.drop a).take (i - a))).length = i - a := by rw [jc6, List.length_take, List.length_drop]; omega
 refine ⟨hl, ?_, ?_⟩
 ·rw [List.take_of_length_le (Nat.le_of_eq hl), List.drop_of_length_le (Nat.le_of_eq hl)]
  have h1 : xs.drop i = xs[i] :: xs.drop (i + 1) := List.drop_eq_getElem_cons hi
  unfold jbr
  rw [h1]
  simp only [List.append_assoc, List.cons_append, List.nil_append]
 ·unfold jbr
  have h2 : i - a < (xs.drop a).length := by rw [List.length_drop]; omega
  rw [show i + 1 - a = (i - a) + 1 by omega, jjv lt h2]
  congr 3
  rw [List.getElem_drop]
  congr 1
  omega
theorem jly (lt : RunH → RunH → Bool) {xs : List RunH} {a i : Nat} {x : RunH} (h : x ∈ jbm lt ((xs.drop a).take (i - a))) : x ∈ xs := List.mem_of_mem_drop (List.mem_of_mem_take ((jfu lt).1 h))
theorem jgc (g : Nat) (lb : Array Value) (cf : RunH → RunH → Int) (D : RunH → Prop) (blk c n : Nat) (t : TypeId) (xs : List RunH) (rest : List Value) (a b : Nat) (w : World) (hB : Blk w blk t (xs.flatMap RunH.enc ++ rest)) (hn : xs.length = n) (hn1 : n ≤ 1000) (hab : a ≤ b) (hb : b ≤ n)
  (w0 : World) (hw0 : Below w0.heap.size w0 w) (hb0 : w0.heap.size ≤ blk) (hc : ComparesB w0 g lb (fun x : RunH => .agg (RunH.enc x).toArray) cf D) (hD : ∀ x ∈ xs, D x) :
  Calls Tryz.prog 240 #[.slice (some ⟨blk, 0, none⟩) n c, .int .i64 (a : Int), .int .i64 (b : Int), .func (.func g) #[] lb] w fun e w' => e = .returned (.tuple #[]) ∧ Blk w' blk t ((jbr (jc8 cf) xs a b).flatMap RunH.enc ++ rest) ∧ Only (fun z => z = blk) w w' := by
 have eg := hc.enters
 have HN := Lib.hid hn
 have HD := Lib.hid hD
 have hB0 := hB
 clear hn hD hB
 go_enter Tryz.func240, Tryz.ntmps240
 go_wp2_with fail
 go_loopw [8] (fun v wr => ∃ (i : Nat) (ys : List RunH), v = .int .i64 (i : Int) ∧ a + 1 ≤ i ∧ i ≤ b + 1 ∧ Hid (a < b → i ≤ b) ∧ Hid (ys = jbr (jc8 cf) xs a i) ∧ Blk wr blk t (ys.flatMap RunH.enc ++ rest) ∧ Only (fun z => z = blk) w wr) (fun v _ => b + 1 - (intOf v).toNat)
 case atStart => exact ⟨a + 1, xs, by go_num, Nat.le_refl _, by omega, Lib.hid (fun h => h), Lib.hid (jgz _ _ _).symm, hB0, Only.refl _ _⟩
 case round =>
  obtain ⟨i, ys, rfl, hai, hib, HIB, HY, B1, o1⟩ := hrel
  clear hB0
  by_cases hlt : i < b
  ·have hix : i < xs.length := by rw [HN.out]; omega
   obtain ⟨hP0, hY1, hY2⟩ := jja (jc8 cf) xs a i hix (by omega)
   have HDP := Lib.hid (show (∀ x ∈ jbm (jc8 cf) ((xs.drop a).take (i - a)), D x) ∧ D xs[i] from ⟨fun x hx => HD.out x (jly _ hx), HD.out _ (List.getElem_mem hix)⟩)
   have hpre : (xs.take a).length = a := by rw [List.length_take, HN.out]; omega
   have hylen : ys.length = n := by rw [HY.out, hY1]; simp only [List.length_append, List.length_take, List.length_cons, List.length_drop, hP0]; have := HN.out; omega
   obtain ⟨P, hP⟩ : ∃ P, jbm (jc8 cf) ((xs.drop a).take (i - a)) = P := ⟨_, rfl⟩
   obtain ⟨y, hy⟩ : ∃ y, xs[i] = y := ⟨_, rfl⟩
   obtain ⟨pre, hpr⟩ : ∃ pre, xs.take a = pre := ⟨_, rfl⟩
   obtain ⟨R, hR⟩ : ∃ R, xs.drop (i + 1) = R := ⟨_, rfl⟩
   rw [hP] at hP0 hY1 hY2 HDP
   rw [hy] at hY1 hY2 HDP
   rw [hpr] at hpre hY1 hY2
   rw [hR] at hY1 hY2
   have HY1 := Lib.hid (HY.out.trans hY1)
   have HY2 := Lib.hid hY2
   have HPL := Lib.hid hP0
   have HPR := Lib.hid hpre
   have HYL := Lib.hid hylen
   clear hY1 hY2 hP hy hpr hR HY hP0 hpre hylen hix
   have hai' : a ≤ i := by omega
   go_wp2_with fail
   obtain ⟨wo, hwo⟩ : ∃ wo : World, wo = wr := ⟨_, rfl⟩
   subst hwo
   go_loopw [9] (fun v wx => ∃ (m j : Nat) (zs : List RunH), v = .int .i64 (m : Int) ∧ m = a + j ∧ j ≤ i - a ∧ Hid (jhj (jc8 cf) P y P.length = jhj (jc8 cf) P y j) ∧ Hid (zs = pre ++ (P.take j ++ y :: P.drop j) ++ R) ∧ Blk wx blk t (zs.flatMap RunH.enc ++ rest) ∧ Only (fun z => z = blk) w wx) (fun v _ => (intOf v).toNat)
   case atStart => exact ⟨i, i - a, ys, rfl, by omega, Nat.le_refl _, Lib.hid (by rw [HPL.out]), HY1, B1, o1⟩
   case round =>
    obtain ⟨m, j, zs, rfl, hm, hj, HP, HZ, B1x, o1x⟩ := hrel
    clear B1 o1
    cases j with
    | zero =>
     have HE := Lib.hid (show jbr (jc8 cf) xs a (i + 1) = zs by rw [HY2.out, HZ.out, jmy _ (show jhj (jc8 cf) P y P.length = 0 from HP.out)])
     have hnot : ¬ a < m := by omega
     clear HP
     go_wp2_with fail
     go_quiet (fail)
     go_wp2_with fail
     go_roundw
     case rel => exact ⟨i + 1, zs, by go_num, by omega, by omega, Lib.hid (fun _ => by omega), Lib.hid HE.out.symm, B1x, o1x.quiet (Quiet.mk _ _)⟩
     case measure => simp [intOf]; omega
    | succ j =>
     obtain ⟨q, rfl⟩ : ∃ q, m = q + 1 := ⟨m - 1, by omega⟩
     have hjP : j < P.length := by rw [HPL.out]; omega
     obtain ⟨L, M, hz1, hz2, hz3⟩ := jpe (pre := pre) (P := P) (R := R) (row := zs) (e := y) (j := j) (m := q + 1) (by rw [HPR.out]; omega) hjP HZ.out
     have hDy := HDP.out.2
     have hDp := HDP.out.1 P[j] (List.getElem_mem hjP)
     have HT := Lib.hid (fun (h : jc8 cf y P[j] = true) => HP.out.trans (jnp (jc8 cf) hjP h))
     have HF := Lib.hid (fun (h : jc8 cf y P[j] = false) => HP.out.trans (jov (jc8 cf) hjP h))
     have hLq : L.length = q := by omega
     subst hz1
     have hlen : (L ++ P[j] :: y :: M).length = n := by
      have h1 := HYL.out
      rw [HY1.out] at h1
      have h2 := congrArg List.length HZ.out
      simp only [List.length_append, List.length_take, List.length_cons, List.length_drop, HPL.out] at h1 h2 ⊢
      omega
     generalize P[j] = p at *
     obtain ⟨gp, gy⟩ := jqv (L := L) (M := M) (p := p) (e := y)
     rw [hLq] at gp gy
     have hq1 : q + 1 < n := by rw [← hlen]; simp; omega
     have hq0 : q < n := by omega
     have hgt : decide ((a : Int) < (q : Int) + 1) = true := decide_eq_true (by omega)
     have hw1 : IntKind.i64.wrap (q : Int) = (q : Int) := IntWalk.i64_in _ (by omega)
     have hi0 : (0 : Int) ≤ (q : Int) + 1 := by omega
     have hi1 : (q : Int) + 1 < (n : Int) := by omega
     have hi2 : (0 : Int) ≤ (q : Int) := by omega
     have hi3 : (q : Int) < (n : Int) := by omega
     have bq := (Quiet.one wr).below wr.heap.size
     have B2 := B1x.next bq
     have o2 := o1x.quiet (Quiet.one wr)
     have HLEN := Lib.hid hlen
     have e0 : wr.drew.cell? ⟨blk, (q + 1) * 7, none⟩ = some (.int .i64 y.x.runner) := row_cell? (enc := RunH.enc) (s := 7) (k := q + 1) (fun _ => rfl) B2 gy 0 _ rfl
     have e1 : wr.drew.cell? ⟨blk, (q + 1) * 7 + 1, none⟩ = some (.bool y.x.started) := row_cell? (enc := RunH.enc) (s := 7) (k := q + 1) (fun _ => rfl) B2 gy 1 _ rfl
     have e2 : wr.drew.cell? ⟨blk, (q + 1) * 7 + 2, none⟩ = some (.bool y.x.out) := row_cell? (enc := RunH.enc) (s := 7) (k := q + 1) (fun _ => rfl) B2 gy 2 _ rfl
     have e3 : wr.drew.cell? ⟨blk, (q + 1) * 7 + 3, none⟩ = some (.int .i64 y.x.number) := row_cell? (enc := RunH.enc) (s := 7) (k := q + 1) (fun _ => rfl) B2 gy 3 _ rfl
     have e4 : wr.drew.cell? ⟨blk, (q + 1) * 7 + 4, none⟩ = some (.int .i64 y.x.start) := row_cell? (enc := RunH.enc) (s := 7) (k := q + 1) (fun _ => rfl) B2 gy 4 _ rfl
     have e5 : wr.drew.cell? ⟨blk, (q + 1) * 7 + 5, none⟩ = some (.int .i64 y.x.finish) := row_cell? (enc := RunH.enc) (s := 7) (k := q + 1) (fun _ => rfl) B2 gy 5 _ rfl
     have e6 : wr.drew.cell? ⟨blk, (q + 1) * 7 + 6, none⟩ = some (.slice y.A y.n y.c) := row_cell? (enc := RunH.enc) (s := 7) (k := q + 1) (fun _ => rfl) B2 gy 6 _ rfl
     have p0 : wr.drew.cell? ⟨blk, q * 7, none⟩ = some (.int .i64 p.x.runner) := row_cell? (enc := RunH.enc) (s := 7) (k := q) (fun _ => rfl) B2 gp 0 _ rfl
     have p1 : wr.drew.cell? ⟨blk, q * 7 + 1, none⟩ = some (.bool p.x.started) := row_cell? (enc := RunH.enc) (s := 7) (k := q) (fun _ => rfl) B2 gp 1 _ rfl
     have p2 : wr.drew.cell? ⟨blk, q * 7 + 2, none⟩ = some (.bool p.x.out) := row_cell? (enc := RunH.enc) (s := 7) (k := q) (fun _ => rfl) B2 gp 2 _ rfl
     have p3 : wr.drew.cell? ⟨blk, q * 7 + 3, none⟩ = some (.int .i64 p.x.number) := row_cell? (enc := RunH.enc) (s := 7) (k := q) (fun _ => rfl) B2 gp 3 _ rfl
     have p4 : wr.drew.cell? ⟨blk, q * 7 + 4, none⟩ = some (.int .i64 p.x.start) := row_cell? (enc := RunH.enc) (s := 7) (k := q) (fun _ => rfl) B2 gp 4 _ rfl
     have p5 : wr.drew.cell? ⟨blk, q * 7 + 5, none⟩ = some (.int .i64 p.x.finish) := row_cell? (enc := RunH.enc) (s := 7) (k := q) (fun _ => rfl) B2 gp 5 _ rfl
     have p6 : wr.drew.cell? ⟨blk, q * 7 + 6, none⟩ = some (.slice p.A p.n p.c) := row_cell? (enc := RunH.enc) (s := 7) (k := q) (fun _ => rfl) B2 gp 6 _ rfl
     have HGP := Lib.hid gp
     have HGY := Lib.hid gy
     have HZ3 := Lib.hid hz3
     have HLq := Lib.hid hLq
     have HM := Lib.hid hm
     clear bq hz2 hz3 hlen gp gy hLq hm HP B1x o1x
     go_wp2_with fail
     go_region_held3 (fun w' => w'.cell? ⟨blk, (q + 1) * 7, none⟩ = some (.int .i64 y.x.runner) ∧ w'.cell? ⟨blk, (q + 1) * 7 + 1, none⟩ = some (.bool y.x.started) ∧ w'.cell? ⟨blk, (q + 1) * 7 + 2, none⟩ = some (.bool y.x.out) ∧ w'.cell? ⟨blk, (q + 1) * 7 + 3, none⟩ = some (.int .i64 y.x.number) ∧ w'.cell? ⟨blk, (q + 1) * 7 + 4, none⟩ = some (.int .i64 y.x.start) ∧ w'.cell? ⟨blk, (q + 1) * 7 + 5, none⟩ = some (.int .i64 y.x.finish) ∧ w'.cell? ⟨blk, (q + 1) * 7 + 6, none⟩ = some (.slice y.A y.n y.c) ∧ w'.cell? ⟨blk, q * 7, none⟩ = some (.int .i64 p.x.runner) ∧ w'.cell? ⟨blk, q * 7 + 1, none⟩ = some (.bool p.x.started) ∧ w'.cell? ⟨blk, q * 7 + 2, none⟩ = some (.bool p.x.out) ∧ w'.cell? ⟨blk, q * 7 + 3, none⟩ = some (.int .i64 p.x.number) ∧ w'.cell? ⟨blk, q * 7 + 4, none⟩ = some (.int .i64 p.x.start) ∧ w'.cell? ⟨blk, q * 7 + 5, none⟩ = some (.int .i64 p.x.finish) ∧ w'.cell? ⟨blk, q * 7 + 6, none⟩ = some (.slice p.A p.n p.c)) (go_keep)
      (first
        | (refine (hc.at' y p hDy hDp _ (hw0.trans (o2.below (B := w0.heap.size) (fun z hz => by cases hz; exact hb0) hw0.size))).mono ?_
           rintro e w3 ⟨rfl, b3⟩
           have B3 := B2.next b3
           have o3 := o2.then_ b3
           have gp := HGP.out
           have gy := HGY.out
           have hlen := HLEN.out
           clear e0 p0 e1 p1 e2 p2 e3 p3 e4 p4 e5 p5 e6 p6
           have e0 : w3.cell? ⟨blk, (q + 1) * 7, none⟩ = some (.int .i64 y.x.runner) := row_cell? (enc := RunH.enc) (s := 7) (k := q + 1) (fun _ => rfl) B3 gy 0 _ rfl
           have e1 : w3.cell? ⟨blk, (q + 1) * 7 + 1, none⟩ = some (.bool y.x.started) := row_cell? (enc := RunH.enc) (s := 7) (k := q + 1) (fun _ => rfl) B3 gy 1 _ rfl
           have e2 : w3.cell? ⟨blk, (q + 1) * 7 + 2, none⟩ = some (.bool y.x.out) := row_cell? (enc := RunH.enc) (s := 7) (k := q + 1) (fun _ => rfl) B3 gy 2 _ rfl
           have e3 : w3.cell? ⟨blk, (q + 1) * 7 + 3, none⟩ = some (.int .i64 y.x.number) := row_cell? (enc := RunH.enc) (s := 7) (k := q + 1) (fun _ => rfl) B3 gy 3 _ rfl
           have e4 : w3.cell? ⟨blk, (q + 1) * 7 + 4, none⟩ = some (.int .i64 y.x.start) := row_cell? (enc := RunH.enc) (s := 7) (k := q + 1) (fun _ => rfl) B3 gy 4 _ rfl
           have e5 : w3.cell? ⟨blk, (q + 1) * 7 + 5, none⟩ = some (.int .i64 y.x.finish) := row_cell? (enc := RunH.enc) (s := 7) (k := q + 1) (fun _ => rfl) B3 gy 5 _ rfl
           have e6 : w3.cell? ⟨blk, (q + 1) * 7 + 6, none⟩ = some (.slice y.A y.n y.c) := row_cell? (enc := RunH.enc) (s := 7) (k := q + 1) (fun _ => rfl) B3 gy 6 _ rfl
           have p0 : w3.cell? ⟨blk, q * 7, none⟩ = some (.int .i64 p.x.runner) := row_cell? (enc := RunH.enc) (s := 7) (k := q) (fun _ => rfl) B3 gp 0 _ rfl
           have p1 : w3.cell? ⟨blk, q * 7 + 1, none⟩ = some (.bool p.x.started) := row_cell? (enc := RunH.enc) (s := 7) (k := q) (fun _ => rfl) B3 gp 1 _ rfl
           have p2 : w3.cell? ⟨blk, q * 7 + 2, none⟩ = some (.bool p.x.out) := row_cell? (enc := RunH.enc) (s := 7) (k := q) (fun _ => rfl) B3 gp 2 _ rfl
           have p3 : w3.cell? ⟨blk, q * 7 + 3, none⟩ = some (.int .i64 p.x.number) := row_cell? (enc := RunH.enc) (s := 7) (k := q) (fun _ => rfl) B3 gp 3 _ rfl
           have p4 : w3.cell? ⟨blk, q * 7 + 4, none⟩ = some (.int .i64 p.x.start) := row_cell? (enc := RunH.enc) (s := 7) (k := q) (fun _ => rfl) B3 gp 4 _ rfl
           have p5 : w3.cell? ⟨blk, q * 7 + 5, none⟩ = some (.int .i64 p.x.finish) := row_cell? (enc := RunH.enc) (s := 7) (k := q) (fun _ => rfl) B3 gp 5 _ rfl
           have p6 : w3.cell? ⟨blk, q * 7 + 6, none⟩ = some (.slice p.A p.n p.c) := row_cell? (enc := RunH.enc) (s := 7) (k := q) (fun _ => rfl) B3 gp 6 _ rfl
           clear b3 gp gy hlen))
     clear B2 o2
     cases hlt2 : jc8 cf y p
     ·have hlt3 : ¬ cf y p < 0 := by simpa [jc8] using hlt2
      have HE := Lib.hid (show jbr (jc8 cf) xs a (i + 1) = L ++ p :: y :: M by rw [HY2.out, jmy _ (HF.out hlt2)]; exact HZ.out.symm)
      clear hlt2
      go_wp2_with fail
      go_roundw
      case rel => exact ⟨i + 1, _, by go_num, by omega, by omega, Lib.hid (fun _ => by omega), Lib.hid HE.out.symm, B3, o3⟩
      case measure => simp [intOf]; omega
     ·have hlt3 : cf y p < 0 := by simpa [jc8] using hlt2
      have HTT := Lib.hid (HT.out hlt2)
      clear hlt2 hw1
      have fe0 := B3.frozen ((q + 1) * 7)
      have fp0 := B3.frozen (q * 7)
      have fe1 := B3.frozen ((q + 1) * 7 + 1)
      have fp1 := B3.frozen (q * 7 + 1)
      have fe2 := B3.frozen ((q + 1) * 7 + 2)
      have fp2 := B3.frozen (q * 7 + 2)
      have fe3 := B3.frozen ((q + 1) * 7 + 3)
      have fp3 := B3.frozen (q * 7 + 3)
      have fe4 := B3.frozen ((q + 1) * 7 + 4)
      have fp4 := B3.frozen (q * 7 + 4)
      have fe5 := B3.frozen ((q + 1) * 7 + 5)
      have fp5 := B3.frozen (q * 7 + 5)
      have fe6 := B3.frozen ((q + 1) * 7 + 6)
      have fp6 := B3.frozen (q * 7 + 6)
      have hw1 : IntKind.i64.wrap (q : Int) = (q : Int) := IntWalk.i64_in _ (by omega)
      go_wp2_with fail
      go_region
      all_goals
       go_wp2_with fail
       go_roundw
       case rel =>
        have B5 := (Blk.many (RunH.enc p) B3 ((q + 1) * 7)).many (RunH.enc y) (q * 7)
        rw [jpi (enc := RunH.enc) (s := 7) (fun _ => rfl) _ _ (q + 1) p (by rw [HLEN.out]; omega), jpi (enc := RunH.enc) (s := 7) (fun _ => rfl) _ _ q y (by rw [List.length_set, HLEN.out]; omega), jqr HLq.out] at B5
        have O5 := Only.many (S := fun z => z = blk) (g := blk) rfl (RunH.enc y) (Only.many (S := fun z => z = blk) (g := blk) rfl (RunH.enc p) o3 ((q + 1) * 7)) (q * 7)
        have hm := HM.out
        exact ⟨q, j, _, by go_num, by omega, by omega, HTT, Lib.hid HZ3.out.symm, B5.quiet (Quiet.one _), O5.quiet (Quiet.one _)⟩
       case measure => simp [intOf]
  ·have HE := Lib.hid (show ys = jbr (jc8 cf) xs a b by
    rw [HY.out]
    by_cases h : a < b
    ·have := HIB.out h
     obtain rfl : i = b := by omega
     rfl
    ·obtain rfl : a = b := by omega
     obtain rfl : i = a + 1 := by omega
     rw [jgz, jku])
   go_wp2_with fail
   go_end0
   exact ⟨rfl, by rw [← HE.out]; exact B1, o1⟩
theorem jqh (lt : RunH → RunH → Bool) (xs : List RunH) (n : Nat) (hn : xs.length = n) : jbr lt xs 0 n = jbm lt xs := by
 unfold jbr
 rw [List.take_zero, List.nil_append, List.drop_zero, Nat.sub_zero, List.take_of_length_le (by omega), List.drop_of_length_le (by omega), List.append_nil]
theorem jm2 (w0 : World) (g : Nat) (lb : Array Value) (cf : RunH → RunH → Int) (D : RunH → Prop) (hc : ComparesB w0 g lb (fun x : RunH => .agg (RunH.enc x).toArray) cf D) (blk c n : Nat) (t : TypeId) (xs : List RunH) (rest : List Value) (w : World) (hw0 : Below w0.heap.size w0 w) (hb0 : w0.heap.size ≤ blk) (hB : Blk w blk t (xs.flatMap RunH.enc ++ rest)) (hn : xs.length = n) (hn2 : n ≤ 10) (hD : ∀ x ∈ xs, D x) :
  Calls Tryz.prog 218 #[.slice (some ⟨blk, 0, none⟩) n c, .int .i64 (n : Int), .func (.func g) #[] lb] w fun e w' => e = .returned (.tuple #[]) ∧ Blk w' blk t ((jbm (jc8 cf) xs).flatMap RunH.enc ++ rest) ∧ Only (fun z => z = blk) w w' := by
 have HN := Lib.hid hn
 have HD := Lib.hid hD
 have hk1 : ¬ (20 : Int) ≤ (n : Int) := by omega
 have hk2 : ¬ (20 : Int) < (n : Int) := by omega
 have CC := Lib.hid (jgc g lb cf D blk c n t xs rest 0 n w hB hn (by omega) (Nat.zero_le _) (Nat.le_refl _) w0 hw0 hb0 hc hD)
 clear hn hD hB
 go_enter Tryz.func218, Tryz.ntmps218
 go_wp2_with fail
 refine wp_loop_rounds 1 ?_
 rw [rounds_succ]
 go_wp2_with fail
 refine CC.out.mono ?_
 rintro e w1 ⟨rfl, B1, o1⟩
 rw [jqh _ _ _ HN.out] at B1
 go_wp2_with fail
 refine wp_loop_rounds 1 ?_
 rw [rounds_succ]
 go_wp2_with fail
 go_end0
 exact ⟨rfl, B1, o1⟩
theorem jig (w0 : World) (g : Nat) (lb : Array Value) (cf : RunH → RunH → Int) (D : RunH → Prop) (hc : ComparesB w0 g lb (fun x : RunH => .agg (RunH.enc x).toArray) cf D) (blk c n : Nat) (t : TypeId) (xs : List RunH) (rest : List Value) (w : World) (hw0 : Below w0.heap.size w0 w) (hb0 : w0.heap.size ≤ blk) (hB : Blk w blk t (xs.flatMap RunH.enc ++ rest)) (hn : xs.length = n) (hn2 : n ≤ 10) (hD : ∀ x ∈ xs, D x) :
  Calls Tryz.prog 179 #[.slice (some ⟨blk, 0, none⟩) n c, .func (.func g) #[] lb] w fun e w' => e = .returned (.tuple #[]) ∧ Blk w' blk t ((jbm (jc8 cf) xs).flatMap RunH.enc ++ rest) ∧ Only (fun z => z = blk) w w' := by
 have CC := Lib.hid (jm2 w0 g lb cf D hc blk c n t xs rest w hw0 hb0 hB hn hn2 hD)
 have hlen := hn2
 clear hc hw0 hb0 hB hn hD hn2
 go_enter Tryz.func179, Tryz.ntmps179
 go_wp2_with fail
 refine CC.out.mono ?_
 rintro e w1 ⟨rfl, h1⟩
 go_wp2_with fail
 go_end0
 exact ⟨rfl, h1⟩
theorem jb8 (xs : List RunH) : (xs.flatMap RunH.enc).all Value.oneCell' = true := by
 rw [List.all_eq_true]
 intro u hu
 obtain ⟨x, _, hx⟩ := List.mem_flatMap.1 hu
 simp only [RunH.enc, List.mem_cons, List.not_mem_nil, or_false] at hx
 rcases hx with rfl | rfl | rfl | rfl | rfl | rfl | rfl <;> rfl
theorem joj (A : Option Addr) (n c : Nat) (xs : List RunH) (w : World) (hx : Sees w 0 7 A n (xs.flatMap RunH.enc)) (h0 : 0 < n) (hn : n ≤ 1000) :
  Calls Tryz.prog 178 #[.slice A n c] w fun e w' => ∃ A' c', e = .returned (.slice A' n c') ∧ w'.ownsRow w.heap.size 160 7 (.slice A' n c') n (xs.flatMap RunH.enc) ∧ Below w.heap.size w w' := by
 obtain ⟨b, off, rfl, _, _, _⟩ := hx.at' h0
 have U := nB w (.cells #[] 160)
 have O0 := ja4 w 160 7
 have hs := hx.next U
 have hnil : ∀ (w : World) (a : Option Addr) (n c n' c' : Nat), (binOp .eql 115 (.slice a n c) (.slice none n' c')).run Tryz.prog w = .ok (.bool a.isNone) w := fun w a n c n' c' => Lib.run_eql_slice_nil w _ _ a n c n' c' Tryz.underlying115
 go_enter Tryz.func178, Tryz.ntmps178
 go_wp2_with (at_builtin; go_loud (refine jj0 rfl _ _ _ rfl Tryz.underlying115 jah rfl (by decide) rfl O0 rfl hs (jb8 _) (by omega) (by omega) (by decide) (by simp) ?_); intro A1 c1 w1 o1 h1 b1 q1)
 simp only [Nat.zero_add, List.nil_append] at o1 ⊢
 go_wp2_with fail
 go_ret
 exact ⟨A1, c1, rfl, o1, U.trans b1⟩
theorem jmf {α : Type} (l1 l2 : α → α → Bool) (P : List α) (e : α) (h : ∀ p ∈ P, l1 e p = l2 e p) : ∀ k, jhj l1 P e k = jhj l2 P e k
 | 0 => rfl
 | k + 1 => by
  unfold jhj
  cases hp : P[k]? with
  | none => rfl
  | some p =>
   simp only []
   rw [h p (List.mem_of_getElem? hp), jmf l1 l2 P e h k]
theorem jpp {α : Type} (l1 l2 : α → α → Bool) (P : List α) (e : α) (h : ∀ p ∈ P, l1 e p = l2 e p) : jlv l1 P e = jlv l2 P e := by
 unfold jlv
 rw [jmf l1 l2 P e h]
theorem jjx {α : Type} (l1 l2 : α → α → Bool) : ∀ (n : Nat) (xs : List α), xs.length = n → (∀ (i k : Nat) (hi : i < xs.length) (hk : k < xs.length), i < k → l1 xs[k] xs[i] = l2 xs[k] xs[i]) → jbm l1 xs = jbm l2 xs
 | 0, xs, hn, _ => by rw [List.eq_nil_of_length_eq_zero hn]; rfl
 | n + 1, xs, hn, h => by
  have hlast : xs = xs.take n ++ [xs[n]'(by omega)] := by
   rw [← List.take_succ_eq_append_getElem (by omega), ← hn, List.take_length]
  have hl : (xs.take n).length = n := by rw [List.length_take]; omega
  have ih := jjx l1 l2 n (xs.take n) hl (fun i k hi hk hik => by
   have h1 := h i k (by omega) (by omega) hik
   rw [List.getElem_take, List.getElem_take]
   exact h1)
  rw [hlast, jef, jef, ih]
  refine jpp l1 l2 _ _ (fun p hp => ?_)
  rw [jfu] at hp
  obtain ⟨i, hi, rfl⟩ := List.getElem_of_mem hp
  rw [List.getElem_take]
  exact h i n (by omega) (by omega) (by omega)
theorem jnl {α β : Type} (f : α → β) (l1 : α → α → Bool) (l2 : β → β → Bool) (h : ∀ x y, l1 x y = l2 (f x) (f y)) (P : List α) (e : α) : ∀ k, jhj l1 P e k = jhj l2 (P.map f) (f e) k
 | 0 => rfl
 | k + 1 => by
  unfold jhj
  rw [List.getElem?_map]
  cases hp : P[k]? with
  | none => rfl
  | some p =>
   simp only [Option.map_some]
   rw [h e p, jnl f l1 l2 h P e k]
theorem jp9 {α β : Type} (f : α → β) (l1 : α → α → Bool) (l2 : β → β → Bool) (h : ∀ x y, l1 x y = l2 (f x) (f y)) (P : List α) (e : α) : (jlv l1 P e).map f = jlv l2 (P.map f) (f e) := by
 unfold jlv
 rw [jnl f l1 l2 h, List.length_map, List.map_append, List.map_cons, List.map_take, List.map_drop]
theorem jhs {α β : Type} (f : α → β) (l1 : α → α → Bool) (l2 : β → β → Bool) (h : ∀ x y, l1 x y = l2 (f x) (f y)) : ∀ (n : Nat) (xs : List α), xs.length = n → (jbm l1 xs).map f = jbm l2 (xs.map f)
 | 0, xs, hn => by rw [List.eq_nil_of_length_eq_zero hn]; rfl
 | n + 1, xs, hn => by
  have hlast : xs = xs.take n ++ [xs[n]'(by omega)] := by
   rw [← List.take_succ_eq_append_getElem (by omega), ← hn, List.take_length]
  have hl : (xs.take n).length = n := by rw [List.length_take]; omega
  have ih := jhs f l1 l2 h n (xs.take n) hl
  rw [hlast, List.map_append, List.map_cons, List.map_nil, jef, jef, jp9 f l1 l2 h, ih]
def jmu (cs : List Int) (limit : Int) (x y : RunE) : Bool := if jb0 x cs limit = jb0 y cs limit then (if jb0 x cs limit = 0 ∧ ¬ x.finish - x.start = y.finish - y.start then decide (x.finish - x.start < y.finish - y.start) else decide (x.runner < y.runner)) else decide (jb0 x cs limit < jb0 y cs limit)
def jb9 (xs : List RunE) (cs : List Int) (limit : Int) : Option (List Int) := if jd8 xs cs limit then some ((jbm (jmu cs limit) xs).map RunE.runner) else none
theorem jnm (cs : List Int) (limit : Int) (x y : RunH) : jbt cs limit x y = jmu cs limit x.x y.x := rfl
theorem jn9 (xs : List RunE) (cs : List Int) (limit : Int) : ((jb9 xs cs limit).getD []).length ≤ xs.length := by
 unfold jb9
 split
 ·simp [jc6]
 ·simp
theorem jjk {xs : List RunE} (h : jat xs = true) : ∀ (i k : Nat) (hi : i < xs.length) (hk : k < xs.length), i < k → xs[i].runner < xs[k].runner := by
 have hall : ∀ (q : Nat) (hq : q + 1 < xs.length), xs[q].runner < xs[q + 1].runner := fun q hq => by
  unfold jat at h
  simp only [Bool.and_eq_true, decide_eq_true_eq] at h
  have h1 := jhk h.1 hq
  rw [jgs hq] at h1
  simp only [Bool.and_eq_true, decide_eq_true_eq] at h1
  exact h1.2
 intro i k hi hk hik
 induction k with
 | zero => omega
 | succ k ih =>
  have h2 := hall k hk
  rcases Nat.lt_or_ge i k with h3 | h3
  ·have h4 := ih (by omega) h3
   omega
  ·obtain rfl : i = k := by omega
   exact h2
theorem jo4 {cs : List Int} {limit : Int} {x y : RunH} (h : y.x.runner < x.x.runner) : jc8 (cfK cs limit) x y = jbt cs limit x y := by
 unfold jc8 cfK jbt
 by_cases h1 : jb0 x.x cs limit = jb0 y.x cs limit
 ·rw [if_pos h1]
  by_cases h0 : jb0 x.x cs limit = 0
  ·rw [if_pos ⟨h0, by rw [← h1]; exact h0⟩]
   by_cases ht : x.x.finish - x.x.start = y.x.finish - y.x.start
   ·rw [if_neg (fun h => h.2 ht), ht, decide_eq_false (fun h => by have := (jhl _ _).1 h; omega), decide_eq_false (by omega)]
   ·rw [if_pos ⟨h0, ht⟩]
    exact decide_eq_decide.2 (jhl _ _)
  ·rw [if_neg (fun h => h0 h.1), if_neg (fun h => h0 h.1), ← h1, decide_eq_false (fun h => by have := (jhl _ _).1 h; omega), decide_eq_false (by omega)]
 ·rw [if_neg h1, if_neg (fun h => h1 (by rw [h.1, h.2]))]
  exact decide_eq_decide.2 (jhl _ _)
theorem jn6 {rs : List RunH} {cs : List Int} {limit : Int} (h : jat (rs.map Hd.x) = true) : (jbm (jc8 (cfK cs limit)) rs).map (fun r => r.x.runner) = (jbm (jmu cs limit) (rs.map Hd.x)).map RunE.runner := by
 have hr := jjk h
 rw [jjx (jc8 (cfK cs limit)) (jbt cs limit) rs.length rs rfl (fun i k hi hk hik => by
  have h1 := hr i k (by simpa using hi) (by simpa using hk) hik
  simp only [List.getElem_map] at h1
  exact jo4 h1), ← jhs Hd.x (jbt cs limit) (jmu cs limit) (jnm cs limit) rs.length rs rfl, List.map_map]
 rfl
theorem jm1 {rs : List RunH} {cs : List Int} {limit : Int} : (jbm (jbt cs limit) rs).map (fun r => r.x.runner) = (jbm (jmu cs limit) (rs.map Hd.x)).map RunE.runner := by
 rw [← jhs Hd.x (jbt cs limit) (jmu cs limit) (jnm cs limit) rs.length rs rfl, List.map_map]
 rfl
theorem jmj {xs : List RunE} {cs : List Int} {limit : Int} (h : jat xs = true) : ∀ z ∈ (jbm (jmu cs limit) xs).map RunE.runner, 1 ≤ z ∧ z ≤ 99 := by
 intro z hz
 obtain ⟨x, hx, rfl⟩ := List.mem_map.1 hz
 rw [jfu] at hx
 obtain ⟨k, hk, rfl⟩ := List.getElem_of_mem hx
 have h1 := (jdk h).2 k hk
 unfold jd3 inB at h1
 simp only [Bool.and_eq_true, decide_eq_true_eq] at h1
 exact h1.1
theorem jme {P : Program} {t e : TypeId} {z : Value} {bytes : Nat} (n : Nat) (ht : P.underlying t = some (.slice e)) (hi : (P.info? e).map (fun i => (i.zero, i.size, i.bytes)) = some (some z, 1, bytes)) (hz : z.cells = #[z]) (hb : bytes * n ≤ 281474976710656) (hn : n ≤ 1000000000000) (w : World) :
  (Instr.makeSlice t (.int .i64 (n : Int)) (.int .i64 (n : Int))).run P w = .ok (.slice (some ⟨w.heap.size, 0, none⟩) n n) (w.alloc (.cells (List.replicate n z).toArray e)) := by
 obtain ⟨i0, hi, hz0, hz1, hz2⟩ := info_parts hi
 have := run_make (P := P) w t e i0 z ht hi hz0 .i64 .i64 n n (by omega) (by omega) (by rw [hz2]; have h : ((bytes * n : Nat) : Int) ≤ 281474976710656 := by omega
                                                                                        rwa [Int.natCast_mul] at h) (by omega)
 rw [hz1, Nat.mul_one, hz] at this
 rw [← toList_madeCells_one]
 simpa using this
end Go.Proofs.YtflpcdffmpfdpaaGreatDoor
