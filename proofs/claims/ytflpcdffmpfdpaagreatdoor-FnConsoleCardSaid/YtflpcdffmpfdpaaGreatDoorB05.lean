/- Joined texts of this proof: RaceE, RaceF, RaceP. -/
import Derived.Deep.CutBlock
import Derived.Test.YtflpcdffmpfdpaaGreatDoorB04
import Derived.Test.YtflpcdffmpfdpaaGreatDoorB02
import Derived.Test.YtflpcdffmpfdpaaGreatDoorB03
set_option maxRecDepth 100000
set_option maxHeartbeats 8000000
namespace Go.Proofs.YtflpcdffmpfdpaaGreatDoor
open Go.RowKit
theorem jay (g : Nat) (lb : Array Value) (p : Punch → Bool) (A : Option Addr) (n c : Nat) (xs : List Punch) (w : World) (hx : Sees w 0 2 A n (xs.flatMap Punch.enc)) (hn : n ≤ 140737488355328) (hp : Answers g lb (fun x : Punch => .agg x.enc.toArray) p xs w) :
  Calls Tryz.prog 193 #[.slice A n c, .func (.func g) #[] lb] w fun e w' => ∃ r, e = .returned (.int .i64 r) ∧ FirstAt p xs r ∧ Below w.heap.size w w' := by
 have hl := hx.count (by decide) (fun _ => rfl)
 have eg := hp.enters
 go_enter Tryz.func193, Tryz.ntmps193
 go_wp2_with fail
 go_loopw [8] (fun v wr => ∃ k : Nat, k ≤ n ∧ v = .int .i64 k ∧ Hid ((xs.take k).any p = false) ∧ Below w.heap.size w wr) (fun v _ => n - (intOf v).toNat)
 case atStart => exact ⟨0, Nat.zero_le _, rfl, by simp [Hid], Below.refl _ _⟩
 case round =>
  obtain ⟨k, hk, rfl, ht, hb⟩ := hrel
  by_cases hlt : k < n
  ·obtain ⟨b, off, rfl, hkx, c0, c1⟩ := (hx.next hb).elem2 (fun _ => rfl) hlt
   go_wp2_with fail
   refine (hp.at' k hkx _ hb).mono ?_
   cases hpk : p xs[k]
   ·rintro e w1 ⟨rfl, b1⟩
    go_wp2_with fail
    go_roundw
    case rel => exact ⟨k + 1, by omega, by go_num, jen hkx ht.out hpk, jaa hb b1⟩
    case measure => simp [intOf]; omega
   ·rintro e w1 ⟨rfl, b1⟩
    go_wp2_with fail
    go_ret
    exact ⟨_, rfl, .inr ⟨k, rfl, hkx, hpk, ht.out⟩, jaa hb b1⟩
  ·go_wp2_with fail
   go_ret
   have h := ht.out
   rw [List.take_of_length_le (by omega)] at h
   exact ⟨_, rfl, .inl ⟨rfl, h⟩, hb⟩
theorem jcv (g : Nat) (lb : Array Value) (p : Punch → Bool) (A : Option Addr) (n c : Nat) (xs : List Punch) (w : World) (hx : Sees w 0 2 A n (xs.flatMap Punch.enc)) (hn : n ≤ 140737488355328) (hp : Answers g lb (fun x : Punch => .agg x.enc.toArray) p xs w) :
  Calls Tryz.prog 154 #[.slice A n c, .func (.func g) #[] lb] w fun e w' => e = .returned (.bool (xs.any p)) ∧ Below w.heap.size w w' := by
 go_enter Tryz.func154, Tryz.ntmps154
 go_wp2_with fail
 refine (jay g lb p A n c xs w hx hn hp).mono ?_
 rintro e w1 ⟨r, rfl, hr, b1⟩
 have hany := Lib.hid hr.any
 go_wp2_with fail
 all_goals go_ret
 all_goals exact ⟨jab hany.out, b1⟩
def jbp (x : Card) : Bool := decide (x.number = 0) && (decide (x.start = 0) && (decide (x.finish = 0) && decide (x.punches.length = 0)))
def jhg (t : Int) (x : Card) : Bool := decide (x.start ≤ t ∧ x.finish ≤ t) && x.punches.all fun p => decide (p.time ≤ t)
def jcr (t : Int) (cl : Bool) (i : Nat) (x : Entrant) : Bool :=
 if x.state = 0 then jbp x.card && !cl
 else if x.state = 4 then jbp x.card && cl
 else if x.state = 1 ∨ x.state = 2 ∨ x.state = 3 then !(decide (x.state = 1) && cl) && (jap x.card && (decide (x.number = (i : Int) + 1) && (decide (decide (x.finish ≠ -1) = decide (x.state = 2)) && jhg t x.card)))
 else false
def jct (t : Int) (cl : Bool) (xs : List Entrant) (i : Nat) : Bool := match xs[i]? with | some x => jcr t cl i x | none => true
def jbf (t : Int) (cl : Bool) (xs : List Entrant) : Bool := inB t 0 36000 && (inB (xs.length : Int) 1 8 && jc7 xs.length (jct t cl xs))
theorem jhp {t : Int} {cl : Bool} {xs : List Entrant} {i : Nat} (h : i < xs.length) : jct t cl xs i = jcr t cl i xs[i] := by unfold jct; rw [List.getElem?_eq_getElem h]
theorem jdz (A : Option Addr) (n c lo : Nat) (x : Card) (w : World) (hx : Sees w lo 2 A n (x.punches.flatMap Punch.enc)) :
  Calls Tryz.prog 152 #[.agg #[x.number, x.start, x.finish, .slice A n c]] w fun e w' => e = .returned (.bool (jbp x)) ∧ Below w.heap.size w w' := by
 have hl := hx.count (by decide) (fun _ => rfl)
 have K0 := nB w (.cells #[x.number, x.start, x.finish, .slice A n c] 106)
 by_cases h0 : x.number = 0
 rotate_left 1
 ·have f0 : (x.number == 0) = false := beq_eq_false_iff_ne.2 h0
  have HZ := Lib.hid (show jbp x = false by unfold jbp; simp [h0])
  clear h0
  go_enter Tryz.func152, Tryz.ntmps152
  go_wp2_with fail
  go_ret
  exact ⟨jab HZ.out.symm, K0⟩
 have f0 : (x.number == 0) = true := beq_iff_eq.2 h0
 by_cases h1 : x.start = 0
 rotate_left 1
 ·have f1 : (x.start == 0) = false := beq_eq_false_iff_ne.2 h1
  have HZ := Lib.hid (show jbp x = false by unfold jbp; simp [h0, h1])
  clear h0 h1
  go_enter Tryz.func152, Tryz.ntmps152
  go_wp2_with fail
  go_ret
  exact ⟨jab HZ.out.symm, K0⟩
 have f1 : (x.start == 0) = true := beq_iff_eq.2 h1
 by_cases h2 : x.finish = 0
 rotate_left 1
 ·have f2 : (x.finish == 0) = false := beq_eq_false_iff_ne.2 h2
  have HZ := Lib.hid (show jbp x = false by unfold jbp; simp [h0, h1, h2])
  clear h0 h1 h2
  go_enter Tryz.func152, Tryz.ntmps152
  go_wp2_with fail
  go_ret
  exact ⟨jab HZ.out.symm, K0⟩
 have f2 : (x.finish == 0) = true := beq_iff_eq.2 h2
 by_cases h3 : (n : Int) = 0
 rotate_left 1
 ·have f3 : ((n : Int) == 0) = false := beq_eq_false_iff_ne.2 h3
  have HZ := Lib.hid (show jbp x = false by unfold jbp; simp [h0, h1, h2, show ¬ x.punches.length = 0 by omega])
  clear h0 h1 h2 h3
  go_enter Tryz.func152, Tryz.ntmps152
  go_wp2_with fail
  go_ret
  exact ⟨jab HZ.out.symm, K0⟩
 have f3 : ((n : Int) == 0) = true := beq_iff_eq.2 h3
 have HZ := Lib.hid (show jbp x = true by unfold jbp; simp [h0, h1, h2, show x.punches.length = 0 by omega])
 clear h0 h1 h2 h3
 go_enter Tryz.func152, Tryz.ntmps152
 go_wp2_with fail
 go_ret
 exact ⟨jab HZ.out.symm, K0⟩
theorem jjf (p : Punch) (t : Int) (R : Nat) (w : World) (h1 : w.cell? ⟨R, 0, none⟩ = some (.int .i64 t)) (hR : R < w.heap.size) :
  Calls Tryz.prog 155 #[.agg #[p.code, p.time], .pointer (some ⟨R, 0, none⟩)] w fun e w' => e = .returned (.bool (decide (t < p.time))) ∧ Below w.heap.size w w' := by
 go_enter Tryz.func155, Tryz.ntmps155
 go_wp2_with fail
 go_ret
 exact ⟨rfl, (Below.refl _ _).alloc (Nat.le_refl _) _⟩
theorem jcs (ps : List Punch) (t : Int) (R : Nat) (rv : List Value) (w : World) (h1 : Blk w R 32 rv) (hr : rv[0]? = some (.int .i64 t)) :
  Answers 155 #[.pointer (some ⟨R, 0, none⟩)] (fun x : Punch => .agg x.enc.toArray) (fun p => decide (t < p.time)) ps w :=
 ⟨enters_of Tryz.func155 (by kernel_rfl) rfl, fun i hi W hb => jjf ps[i] t R W (((h1.next hb).cell 0).trans hr) (h1.next hb).lt⟩
theorem jkk (t : Int) (ps : List Punch) : (!ps.any fun p => decide (t < p.time)) = ps.all fun p => decide (p.time ≤ t) := by
 induction ps with
 | nil => rfl
 | cons p l ih =>
  rw [List.any_cons, List.all_cons, Bool.not_or, ih]
  congr 1
  by_cases h : t < p.time
  ·rw [decide_eq_true h, decide_eq_false (by omega)]; rfl
  ·rw [decide_eq_false h, decide_eq_true (by omega)]; rfl
theorem jkw (t : Int) (cl : Bool) (A : Option Addr) (n c lo : Nat) (xs : List Entrant) (i : Nat) (w : World) (hx : SeesN entrantSh w lo A n xs) (hn : n ≤ 1048576) (hi : ∀ x ∈ xs, x.cnt ≤ 1048576) (hlt : i < n) :
  Calls Tryz.prog 115 #[.agg #[t, cl, .slice A n c], .int .i64 (i : Int)] w fun e w' => e = .returned (.bool (jct t cl xs i)) ∧ Below w.heap.size w w' := by
 obtain ⟨b, off, B, m, d, rfl, hkx, c0, c1, c2, c3, c4, hxi⟩ := SeesEntrant.elem hx hlt
 have hm : m ≤ 1048576 := by
  have h1 := hi xs[i] (List.getElem_mem hkx)
  have h2 := hxi.count (by decide) (fun _ => rfl)
  unfold Entrant.cnt at h1
  omega
 have HE := Lib.hid (jhp (t := t) (cl := cl) hkx)
 obtain ⟨x, hxe⟩ : ∃ x, xs[i] = x := ⟨_, rfl⟩
 rw [hxe] at c0 c1 c2 c3 hxi HE
 clear hxe hx hi hkx
 have hblt := World.block_lt_of_cell? w _ c0
 have K1 := nB2 w (.cells #[t, cl, .slice (some ⟨b, off, none⟩) n c] 32) (.cells #[x.state, x.number, x.start, x.finish, .slice B m d] 108)
 have B1 := nPa w [t, cl, .slice (some ⟨b, off, none⟩) n c] 32 (.cells #[x.state, x.number, x.start, x.finish, .slice B m d] 108)
 have B2 := nQ w (.cells #[t, cl, .slice (some ⟨b, off, none⟩) n c] 32) [x.state, x.number, x.start, x.finish, .slice B m d] 108
 have hxw : Sees ((w.alloc (.cells #[t, cl, .slice (some ⟨b, off, none⟩) n c] 32)).alloc (.cells #[x.state, x.number, x.start, x.finish, .slice B m d] 108)) 0 2 B m (x.card.punches.flatMap Punch.enc) := (hxi.less (Nat.zero_le _)).next K1
 by_cases s0 : x.state = 0
 ·have q0 : (x.state == 0) = true := beq_iff_eq.2 s0
  have S0 := Lib.hid s0
  clear s0
  go_enter Tryz.func115, Tryz.ntmps115
  go_wp2_with fail
  refine (jdz B m d _ x.card _ hxw).mono ?_
  rintro e w1 ⟨rfl, b1⟩
  replace K1 := jaa K1 b1
  replace B1 := B1.next b1
  replace B2 := B2.next b1
  replace hxw := hxw.next b1
  clear b1
  have p1 := B1.cell
  have p2 := B2.cell
  cases hz : jbp x.card <;> cases cl
  all_goals have HR := Lib.hid (HE.out.trans (show jcr _ _ _ _ = _ by unfold jcr; rw [if_pos S0.out, hz]))
  all_goals go_wp2_with fail
  all_goals go_ret
  all_goals exact ⟨jab HR.out.symm, K1⟩

 have q0 : (x.state == 0) = false := beq_eq_false_iff_ne.2 s0
 have S0 := Lib.hid s0
 clear s0
 by_cases s4 : x.state = 4
 ·have q4 : (x.state == 4) = true := beq_iff_eq.2 s4
  have S4 := Lib.hid s4
  clear s4
  go_enter Tryz.func115, Tryz.ntmps115
  go_wp2_with fail
  refine (jdz B m d _ x.card _ hxw).mono ?_
  rintro e w1 ⟨rfl, b1⟩
  replace K1 := jaa K1 b1
  replace B1 := B1.next b1
  replace B2 := B2.next b1
  replace hxw := hxw.next b1
  clear b1
  have p1 := B1.cell
  have p2 := B2.cell
  cases hz : jbp x.card <;> cases cl
  all_goals have HR := Lib.hid (HE.out.trans (show jcr _ _ _ _ = _ by unfold jcr; rw [if_neg S0.out, if_pos S4.out, hz]))
  all_goals go_wp2_with fail
  all_goals go_ret
  all_goals exact ⟨jab HR.out.symm, K1⟩

 have q4 : (x.state == 4) = false := beq_eq_false_iff_ne.2 s4
 have S4 := Lib.hid s4
 clear s4
 by_cases s1 : x.state = 1
 ·have q1 : (x.state == 1) = true := beq_iff_eq.2 s1
  have S1 := Lib.hid s1
  clear s1
  cases cl
  rotate_left 1
  ·have HR := Lib.hid (show jct t true xs i = false by rw [HE.out]; unfold jcr; simp [S1.out])
   go_enter Tryz.func115, Tryz.ntmps115
   go_wp2_with fail
   go_ret
   exact ⟨jab HR.out.symm, K1⟩

  go_enter Tryz.func115, Tryz.ntmps115
  go_wp2_with fail
  refine (jd6 B m d _ x.card _ hxw hm).mono ?_
  rintro e w1 ⟨rfl, b1⟩
  replace K1 := jaa K1 b1
  replace B1 := B1.next b1
  replace B2 := B2.next b1
  replace hxw := hxw.next b1
  clear b1
  have p1 := B1.cell
  have p2 := B2.cell
  cases hcb : jap x.card
  ·have HR := Lib.hid (show jct t false xs i = false by rw [HE.out]; unfold jcr; simp [S1.out, hcb])
   clear hcb
   go_wp2_with fail
   go_ret
   exact ⟨jab HR.out.symm, K1⟩
  by_cases hnum : x.number = (i : Int) + 1
  rotate_left 1
  ·have HR := Lib.hid (show jct t false xs i = false by rw [HE.out]; unfold jcr; simp [S1.out, hcb, hnum])
   have f1 : (x.number != (i : Int) + 1) = true := by simp [hnum]
   clear hcb hnum
   go_wp2_with fail
   go_ret
   exact ⟨jab HR.out.symm, K1⟩
  have f1 : (x.number != (i : Int) + 1) = false := by simp [hnum]
  obtain ⟨mx, hmx⟩ : ∃ mx, (if x.start < x.finish then x.finish else x.start) = mx := ⟨_, rfl⟩
  have hmx2 : (x.start ≤ t ∧ x.finish ≤ t) ↔ mx ≤ t := by rw [← hmx]; split <;> omega
  have hLB : jhg t x.card = (decide (x.start ≤ t ∧ x.finish ≤ t) && x.punches.all fun p => decide (p.time ≤ t)) := rfl
  by_cases hlate : x.start ≤ t ∧ x.finish ≤ t
  rotate_left 1
  ·have HR := Lib.hid (show jct t false xs i = false by rw [HE.out]; unfold jcr; rw [hLB, decide_eq_false hlate]; simp [S1.out])
   have f2 : t < mx := by omega
   clear hcb hnum hlate hLB hmx2
   go_wp2_with fail
   go_ret
   exact ⟨jab HR.out.symm, K1⟩
  have f2 : ¬ t < mx := by omega
  by_cases hfin : decide (x.finish ≠ -1) = decide (x.state = 2)
  rotate_left 1
  ·have HR := Lib.hid (show jct t false xs i = false by rw [HE.out]; unfold jcr; simp only [decide_eq_false hfin]; simp [S1.out])
   have hz := fun h => hfin (decide_eq_decide.2 h)
   have f4 : (x.finish != -1) = true := by
    by_cases z : x.finish = -1
    ·exact absurd ⟨fun h => absurd z h, fun h => absurd h (by simp [S1.out])⟩ hz
    ·simp [z]
   have f5 : (x.state == 2) = false := by simp [S1.out]
   clear hz
   clear hcb hnum hlate hfin hLB hmx2
   go_wp2_with fail
   go_ret
   exact ⟨jab HR.out.symm, K1⟩
  have hz := decide_eq_decide.1 hfin
  have f4 : (x.finish != -1) = false := by
   by_cases z : x.finish = -1
   ·simp [z]
   ·exact absurd (hz.1 z) (by simp [S1.out])
  have f5 : (x.state == 2) = false := by simp [S1.out]
  clear hz
  have HR := Lib.hid (show jct t false xs i = (x.punches.all fun p => decide (p.time ≤ t)) by rw [HE.out]; unfold jcr; rw [hLB, hcb, decide_eq_true hlate, decide_eq_true hfin, decide_eq_true hnum]; simp [S1.out])
  clear hcb hnum hlate hfin hLB hmx2
  go_wp2_with fail
  refine (jcv _ _ _ B m d x.punches w1 hxw (by omega) (jcs x.punches t w.heap.size _ w1 B1 rfl)).mono ?_
  rintro e w2 ⟨rfl, b2⟩
  have K2 := jaa K1 b2
  have HL := Lib.hid (jkk t x.punches)
  generalize (x.punches.any fun p => decide (t < p.time)) = lv at *
  go_wp2_with fail
  go_ret
  exact ⟨jab (by rw [HR.out, HL.out]), K2⟩

 have q1 : (x.state == 1) = false := beq_eq_false_iff_ne.2 s1
 have S1 := Lib.hid s1
 clear s1
 by_cases s2 : x.state = 2
 ·have q2 : (x.state == 2) = true := beq_iff_eq.2 s2
  have S2 := Lib.hid s2
  clear s2
  go_enter Tryz.func115, Tryz.ntmps115
  go_wp2_with fail
  refine (jd6 B m d _ x.card _ hxw hm).mono ?_
  rintro e w1 ⟨rfl, b1⟩
  replace K1 := jaa K1 b1
  replace B1 := B1.next b1
  replace B2 := B2.next b1
  replace hxw := hxw.next b1
  clear b1
  have p1 := B1.cell
  have p2 := B2.cell
  cases hcb : jap x.card
  ·have HR := Lib.hid (show jct t cl xs i = false by rw [HE.out]; unfold jcr; simp [S2.out, hcb])
   clear hcb
   go_wp2_with fail
   go_ret
   exact ⟨jab HR.out.symm, K1⟩
  by_cases hnum : x.number = (i : Int) + 1
  rotate_left 1
  ·have HR := Lib.hid (show jct t cl xs i = false by rw [HE.out]; unfold jcr; simp [S2.out, hcb, hnum])
   have f1 : (x.number != (i : Int) + 1) = true := by simp [hnum]
   clear hcb hnum
   go_wp2_with fail
   go_ret
   exact ⟨jab HR.out.symm, K1⟩
  have f1 : (x.number != (i : Int) + 1) = false := by simp [hnum]
  obtain ⟨mx, hmx⟩ : ∃ mx, (if x.start < x.finish then x.finish else x.start) = mx := ⟨_, rfl⟩
  have hmx2 : (x.start ≤ t ∧ x.finish ≤ t) ↔ mx ≤ t := by rw [← hmx]; split <;> omega
  have hLB : jhg t x.card = (decide (x.start ≤ t ∧ x.finish ≤ t) && x.punches.all fun p => decide (p.time ≤ t)) := rfl
  by_cases hlate : x.start ≤ t ∧ x.finish ≤ t
  rotate_left 1
  ·have HR := Lib.hid (show jct t cl xs i = false by rw [HE.out]; unfold jcr; rw [hLB, decide_eq_false hlate]; simp [S2.out])
   have f2 : t < mx := by omega
   clear hcb hnum hlate hLB hmx2
   go_wp2_with fail
   go_ret
   exact ⟨jab HR.out.symm, K1⟩
  have f2 : ¬ t < mx := by omega
  by_cases hfin : decide (x.finish ≠ -1) = decide (x.state = 2)
  rotate_left 1
  ·have HR := Lib.hid (show jct t cl xs i = false by rw [HE.out]; unfold jcr; simp only [decide_eq_false hfin]; simp [S2.out])
   have hz := fun h => hfin (decide_eq_decide.2 h)
   have f4 : (x.finish != -1) = false := by
    by_cases z : x.finish = -1
    ·simp [z]
    ·exact absurd ⟨fun _ => S2.out, fun _ => z⟩ hz
   clear hz
   clear hcb hnum hlate hfin hLB hmx2
   go_wp2_with fail
   go_ret
   exact ⟨jab HR.out.symm, K1⟩
  have hz := decide_eq_decide.1 hfin
  have f4 : (x.finish != -1) = true := by simpa using hz.2 S2.out
  clear hz
  have HR := Lib.hid (show jct t cl xs i = (x.punches.all fun p => decide (p.time ≤ t)) by rw [HE.out]; unfold jcr; rw [hLB, hcb, decide_eq_true hlate, decide_eq_true hfin, decide_eq_true hnum]; simp [S2.out])
  clear hcb hnum hlate hfin hLB hmx2
  go_wp2_with fail
  refine (jcv _ _ _ B m d x.punches w1 hxw (by omega) (jcs x.punches t w.heap.size _ w1 B1 rfl)).mono ?_
  rintro e w2 ⟨rfl, b2⟩
  have K2 := jaa K1 b2
  have HL := Lib.hid (jkk t x.punches)
  generalize (x.punches.any fun p => decide (t < p.time)) = lv at *
  go_wp2_with fail
  go_ret
  exact ⟨jab (by rw [HR.out, HL.out]), K2⟩

 have q2 : (x.state == 2) = false := beq_eq_false_iff_ne.2 s2
 have S2 := Lib.hid s2
 clear s2
 by_cases s3 : x.state = 3
 ·have q3 : (x.state == 3) = true := beq_iff_eq.2 s3
  have S3 := Lib.hid s3
  clear s3
  go_enter Tryz.func115, Tryz.ntmps115
  go_wp2_with fail
  refine (jd6 B m d _ x.card _ hxw hm).mono ?_
  rintro e w1 ⟨rfl, b1⟩
  replace K1 := jaa K1 b1
  replace B1 := B1.next b1
  replace B2 := B2.next b1
  replace hxw := hxw.next b1
  clear b1
  have p1 := B1.cell
  have p2 := B2.cell
  cases hcb : jap x.card
  ·have HR := Lib.hid (show jct t cl xs i = false by rw [HE.out]; unfold jcr; simp [S3.out, hcb])
   clear hcb
   go_wp2_with fail
   go_ret
   exact ⟨jab HR.out.symm, K1⟩
  by_cases hnum : x.number = (i : Int) + 1
  rotate_left 1
  ·have HR := Lib.hid (show jct t cl xs i = false by rw [HE.out]; unfold jcr; simp [S3.out, hcb, hnum])
   have f1 : (x.number != (i : Int) + 1) = true := by simp [hnum]
   clear hcb hnum
   go_wp2_with fail
   go_ret
   exact ⟨jab HR.out.symm, K1⟩
  have f1 : (x.number != (i : Int) + 1) = false := by simp [hnum]
  obtain ⟨mx, hmx⟩ : ∃ mx, (if x.start < x.finish then x.finish else x.start) = mx := ⟨_, rfl⟩
  have hmx2 : (x.start ≤ t ∧ x.finish ≤ t) ↔ mx ≤ t := by rw [← hmx]; split <;> omega
  have hLB : jhg t x.card = (decide (x.start ≤ t ∧ x.finish ≤ t) && x.punches.all fun p => decide (p.time ≤ t)) := rfl
  by_cases hlate : x.start ≤ t ∧ x.finish ≤ t
  rotate_left 1
  ·have HR := Lib.hid (show jct t cl xs i = false by rw [HE.out]; unfold jcr; rw [hLB, decide_eq_false hlate]; simp [S3.out])
   have f2 : t < mx := by omega
   clear hcb hnum hlate hLB hmx2
   go_wp2_with fail
   go_ret
   exact ⟨jab HR.out.symm, K1⟩
  have f2 : ¬ t < mx := by omega
  by_cases hfin : decide (x.finish ≠ -1) = decide (x.state = 2)
  rotate_left 1
  ·have HR := Lib.hid (show jct t cl xs i = false by rw [HE.out]; unfold jcr; simp only [decide_eq_false hfin]; simp [S3.out])
   have hz := fun h => hfin (decide_eq_decide.2 h)
   have f4 : (x.finish != -1) = true := by
    by_cases z : x.finish = -1
    ·exact absurd ⟨fun h => absurd z h, fun h => absurd h (by simp [S3.out])⟩ hz
    ·simp [z]
   have f5 : (x.state == 2) = false := by simp [S3.out]
   clear hz
   clear hcb hnum hlate hfin hLB hmx2
   go_wp2_with fail
   go_ret
   exact ⟨jab HR.out.symm, K1⟩
  have hz := decide_eq_decide.1 hfin
  have f4 : (x.finish != -1) = false := by
   by_cases z : x.finish = -1
   ·simp [z]
   ·exact absurd (hz.1 z) (by simp [S3.out])
  have f5 : (x.state == 2) = false := by simp [S3.out]
  clear hz
  have HR := Lib.hid (show jct t cl xs i = (x.punches.all fun p => decide (p.time ≤ t)) by rw [HE.out]; unfold jcr; rw [hLB, hcb, decide_eq_true hlate, decide_eq_true hfin, decide_eq_true hnum]; simp [S3.out])
  clear hcb hnum hlate hfin hLB hmx2
  go_wp2_with fail
  refine (jcv _ _ _ B m d x.punches w1 hxw (by omega) (jcs x.punches t w.heap.size _ w1 B1 rfl)).mono ?_
  rintro e w2 ⟨rfl, b2⟩
  have K2 := jaa K1 b2
  have HL := Lib.hid (jkk t x.punches)
  generalize (x.punches.any fun p => decide (t < p.time)) = lv at *
  go_wp2_with fail
  go_ret
  exact ⟨jab (by rw [HR.out, HL.out]), K2⟩

 have q3 : (x.state == 3) = false := beq_eq_false_iff_ne.2 s3
 have S3 := Lib.hid s3
 clear s3
 have HR := Lib.hid (show jct t cl xs i = false by rw [HE.out]; unfold jcr; simp [S0.out, S4.out, S1.out, S2.out, S3.out])
 go_enter Tryz.func115, Tryz.ntmps115
 go_wp2_with fail
 go_ret
 exact ⟨jab HR.out.symm, K1⟩
theorem jhq {t : Int} {cl : Bool} {xs : List Entrant} (h : inB t 0 36000 = false ∨ inB (xs.length : Int) 1 8 = false) : jbf t cl xs = false := by
 unfold jbf
 rcases h with h | h <;> simp [h]
theorem jla {t : Int} {cl : Bool} {xs : List Entrant} (h1 : inB t 0 36000 = true) (h2 : inB (xs.length : Int) 1 8 = true) : jbf t cl xs = jc7 xs.length (jct t cl xs) := by
 unfold jbf
 rw [h1, h2]
 rfl
theorem jdm (t : Int) (cl : Bool) (A : Option Addr) (n c lo : Nat) (xs : List Entrant) (w : World) (hx : SeesN entrantSh w lo A n xs) (hn : n ≤ 1048576) (hi : ∀ x ∈ xs, x.cnt ≤ 1048576) :
  Calls Tryz.prog 73 #[.agg #[t, cl, .slice A n c]] w fun e w' => e = .returned (.bool (jbf t cl xs)) ∧ Below w.heap.size w w' := by
 have hl := hx.count
 have K0 := nB w (.cells #[t, cl, .slice A n c] 32)
 have B0 := nP w [t, cl, .slice A n c] 32
 cases h1 : inB t 0 36000
 ·have HF := Lib.hid (jhq (cl := cl) (xs := xs) (.inl h1))
  go_enter Tryz.func73, Tryz.ntmps73
  go_wp2_with (first | (go_at_call 114; refine (jav _ _).mono ?_; rintro e w' ⟨rfl, rfl⟩) | (go_at_call 70; refine (jaf _ _ _ _).mono ?_; rintro e w' ⟨rfl, rfl⟩))
  go_ret
  exact ⟨jab HF.out.symm, K0⟩
 cases h2 : inB (n : Int) 1 8
 ·have HF := Lib.hid (jhq (t := t) (cl := cl) (xs := xs) (.inr (by rw [hl]; exact h2)))
  go_enter Tryz.func73, Tryz.ntmps73
  go_wp2_with (first | (go_at_call 114; refine (jav _ _).mono ?_; rintro e w' ⟨rfl, rfl⟩) | (go_at_call 70; refine (jaf _ _ _ _).mono ?_; rintro e w' ⟨rfl, rfl⟩))
  go_ret
  exact ⟨jab HF.out.symm, K0⟩
 have HR := Lib.hid (jla (cl := cl) (xs := xs) h1 (by rw [hl]; exact h2))
 have HL := Lib.hid hl
 clear hl
 go_enter Tryz.func73, Tryz.ntmps73
 go_wp2_with (first | (go_at_call 114; refine (jav _ _).mono ?_; rintro e w' ⟨rfl, rfl⟩) | (go_at_call 70; refine (jaf _ _ _ _).mono ?_; rintro e w' ⟨rfl, rfl⟩))
 clear h1 h2
 go_loopw [18] (fun v wr => ∃ k : Nat, k ≤ n ∧ v = .int .i64 k ∧ Hid (jc7 k (jct t cl xs) = true) ∧ Blk wr w.heap.size 32 [.int .i64 t, .bool cl, .slice A n c] ∧ Below w.heap.size w wr) (fun v _ => n - (intOf v).toNat)
 case atStart => exact ⟨0, Nat.zero_le _, rfl, Lib.hid rfl, B0, K0⟩
 case round =>
  clear B0 K0
  obtain ⟨k, hk, rfl, HA, B0, K0⟩ := hrel
  have cm := B0.cell
  by_cases hlt : k < n
  ·go_wp2_with fail
   refine (jkw t cl A n c _ xs k wr (hx.next K0) hn hi hlt).mono ?_
   cases hen : jct t cl xs k
   ·rintro e w1 ⟨rfl, b1⟩
    replace K0 := jaa K0 b1
    have HF := Lib.hid (show jbf t cl xs = false by rw [HR.out]; exact jaw (by rw [HL.out]; exact hlt) hen)
    clear hen
    go_wp2_with fail
    go_ret
    exact ⟨jab HF.out.symm, K0⟩
   ·rintro e w1 ⟨rfl, b1⟩
    replace K0 := jaa K0 b1
    replace B0 := B0.next b1
    have HN := Lib.hid (jdp HA.out hen)
    clear hen b1 cm
    go_wp2_with fail
    go_roundw
    case rel => exact ⟨k + 1, by omega, by go_num, HN, B0, K0⟩
    case measure => simp [intOf]; omega
  ·obtain rfl : k = n := by omega
   go_wp2_with fail
   go_ret
   exact ⟨jab (by rw [HR.out, HL.out, HA.out]), K0⟩
theorem jib (A : Option Addr) (n c lo : Nat) (x : Card) (w : World) (hx : Sees w lo 2 A n (x.punches.flatMap Punch.enc)) :
  Calls Tryz.prog 158 #[.agg #[x.number, x.start, x.finish, .slice A n c]] w fun e w' => e = .returned (.bool (jbp x)) ∧ Below w.heap.size w w' := by
 have hl := hx.count (by decide) (fun _ => rfl)
 have K0 := nB w (.cells #[x.number, x.start, x.finish, .slice A n c] 106)
 by_cases h0 : x.number = 0
 rotate_left 1
 ·have f0 : (x.number == 0) = false := beq_eq_false_iff_ne.2 h0
  have HZ := Lib.hid (show jbp x = false by unfold jbp; simp [h0])
  clear h0
  go_enter Tryz.func158, Tryz.ntmps158
  go_wp2_with fail
  go_ret
  exact ⟨jab HZ.out.symm, K0⟩
 have f0 : (x.number == 0) = true := beq_iff_eq.2 h0
 by_cases h1 : x.start = 0
 rotate_left 1
 ·have f1 : (x.start == 0) = false := beq_eq_false_iff_ne.2 h1
  have HZ := Lib.hid (show jbp x = false by unfold jbp; simp [h0, h1])
  clear h0 h1
  go_enter Tryz.func158, Tryz.ntmps158
  go_wp2_with fail
  go_ret
  exact ⟨jab HZ.out.symm, K0⟩
 have f1 : (x.start == 0) = true := beq_iff_eq.2 h1
 by_cases h2 : x.finish = 0
 rotate_left 1
 ·have f2 : (x.finish == 0) = false := beq_eq_false_iff_ne.2 h2
  have HZ := Lib.hid (show jbp x = false by unfold jbp; simp [h0, h1, h2])
  clear h0 h1 h2
  go_enter Tryz.func158, Tryz.ntmps158
  go_wp2_with fail
  go_ret
  exact ⟨jab HZ.out.symm, K0⟩
 have f2 : (x.finish == 0) = true := beq_iff_eq.2 h2
 by_cases h3 : (n : Int) = 0
 rotate_left 1
 ·have f3 : ((n : Int) == 0) = false := beq_eq_false_iff_ne.2 h3
  have HZ := Lib.hid (show jbp x = false by unfold jbp; simp [h0, h1, h2, show ¬ x.punches.length = 0 by omega])
  clear h0 h1 h2 h3
  go_enter Tryz.func158, Tryz.ntmps158
  go_wp2_with fail
  go_ret
  exact ⟨jab HZ.out.symm, K0⟩
 have f3 : ((n : Int) == 0) = true := beq_iff_eq.2 h3
 have HZ := Lib.hid (show jbp x = true by unfold jbp; simp [h0, h1, h2, show x.punches.length = 0 by omega])
 clear h0 h1 h2 h3
 go_enter Tryz.func158, Tryz.ntmps158
 go_wp2_with fail
 go_ret
 exact ⟨jab HZ.out.symm, K0⟩
theorem jj2 (a b : Int) (w : World) : Calls Tryz.prog 106 #[.int .i64 a, .int .i64 b] w fun e w' => ∃ v, e = .returned (.int .i64 v) ∧ w = w' ∧ Hid (∀ t : Int, v ≤ t ↔ (a ≤ t ∧ b ≤ t)) := by
 by_cases h : b < a
 ·go_enter Tryz.func106, Tryz.ntmps106
  go_wp2_with fail
  go_ret
  exact ⟨_, rfl, rfl, fun t => by omega⟩
 ·go_enter Tryz.func106, Tryz.ntmps106
  go_wp2_with fail
  go_ret
  exact ⟨_, rfl, rfl, fun t => by omega⟩
theorem jf2 (A : Option Addr) (n c lo : Nat) (x : Card) (w : World) (hx : Sees w lo 2 A n (x.punches.flatMap Punch.enc)) (hn : n ≤ 1048576) :
  Calls Tryz.prog 160 #[.agg #[x.number, x.start, x.finish, .slice A n c]] w fun e w' => ∃ v, e = .returned (.int .i64 v) ∧ Below w.heap.size w w' ∧ Hid (∀ t : Int, decide (v ≤ t) = jhg t x) := by
 have hl := Lib.hid (hx.count (by decide) (fun _ => rfl))
 have K0 := nB w (.cells #[x.number, x.start, x.finish, .slice A n c] 106)
 have B0 := nP w [x.number, x.start, x.finish, .slice A n c] 106
 go_enter Tryz.func160, Tryz.ntmps160
 go_wp2_with fail
 refine (jj2 _ _ _).mono ?_
 rintro e w1 ⟨v0, rfl, rfl, hv0⟩
 go_wp2_with fail
 go_loopw [3, 4] (fun q i wr => ∃ (k : Nat) (v : Int), k ≤ n ∧ i = .int .i64 k ∧ q = .int .i64 v ∧ Hid (∀ t : Int, decide (v ≤ t) = (decide (x.start ≤ t ∧ x.finish ≤ t) && (x.punches.take k).all fun p => decide (p.time ≤ t))) ∧ Blk wr w.heap.size 106 [.int .i64 x.number, .int .i64 x.start, .int .i64 x.finish, .slice A n c] ∧ Below w.heap.size w wr) (fun _ i _ => n - (intOf i).toNat)
 case atStart => exact ⟨0, v0, Nat.zero_le _, rfl, rfl, fun t => by rw [List.take_zero, List.all_nil, Bool.and_true]; exact decide_eq_decide.2 (hv0.out t), B0, K0⟩
 case round =>
  clear B0 K0
  obtain ⟨k, v, hk, rfl, rfl, HV, B0, K0⟩ := hrel
  have cm := B0.cell
  by_cases hlt : k < n
  ·obtain ⟨b, off, rfl, hkx, c0, c1⟩ := (hx.next K0).elem2 (fun _ => rfl) hlt
   have HT := Lib.hid (List.take_succ_eq_append_getElem hkx)
   go_wp2_with fail
   refine (jj2 _ _ _).mono ?_
   rintro e w2 ⟨v1, rfl, rfl, hv1⟩
   go_wp2_with fail
   go_roundw
   case rel =>
    refine ⟨k + 1, v1, by omega, by go_num, rfl, fun t => ?_, B0, K0⟩
    rw [HT.out, List.all_append, ← Bool.and_assoc, ← HV.out t, List.all_cons, List.all_nil, Bool.and_true, ← Bool.decide_and]
    exact decide_eq_decide.2 (hv1.out t)
   case measure => simp [intOf]; omega
  ·obtain rfl : k = n := by omega
   go_wp2_with fail
   go_ret
   refine ⟨v, rfl, K0, fun t => ?_⟩
   have h := HV.out t
   rw [List.take_of_length_le (by rw [hl.out]; exact Nat.le_refl _)] at h
   exact h
def stAt (xs : List Entrant) (i : Nat) : Int := match xs[i]? with | some x => x.state | none => -1
theorem jm6 {xs : List Entrant} {i : Nat} (h : i < xs.length) : stAt xs i = xs[i].state := by unfold stAt; rw [List.getElem?_eq_getElem h]
def jpv (xs : List Entrant) (s : Int) (k : Nat) : List Int := ((List.range k).filter fun i => decide (stAt xs i = s)).map fun i : Nat => (i : Int)
def inL (xs : List Entrant) (s : Int) : List Int := jpv xs s xs.length
theorem jli (xs : List Entrant) (s : Int) {k : Nat} (h : k < xs.length) : jpv xs s (k + 1) = if xs[k].state = s then jpv xs s k ++ [(k : Int)] else jpv xs s k := by
 unfold jpv
 rw [List.range_succ, List.filter_append, List.map_append]
 by_cases hs : xs[k].state = s <;> simp [jm6 h, hs]
theorem jhm (xs : List Entrant) (s : Int) (k : Nat) : (jpv xs s k).length ≤ k := by
 unfold jpv
 rw [List.length_map]
 exact Nat.le_trans (List.length_filter_le _ _) (by simp)
theorem ji7 {xs : List Entrant} {s j : Int} : j ∈ inL xs s ↔ ∃ i : Nat, j = i ∧ ∃ h : i < xs.length, xs[i].state = s := by
 unfold inL jpv
 simp only [List.mem_map, List.mem_filter, List.mem_range, decide_eq_true_eq]
 constructor
 ·rintro ⟨i, ⟨h, hs⟩, rfl⟩
  exact ⟨i, rfl, h, by rw [← jm6 h]; exact hs⟩
 ·rintro ⟨i, rfl, h, hs⟩
  exact ⟨i, ⟨h, by rw [jm6 h]; exact hs⟩, rfl⟩
def jni (x : Entrant) : Entrant := { x with state := 4 }
theorem jog (x : Entrant) : jni (jni x) = jni x := rfl
def jfv (x : Entrant) : Entrant := if x.state = 0 then jni x else x
def jb1 (xs : List Entrant) : List Entrant := xs.map jfv
def jcp (xs : List Entrant) (l : List Int) : List Entrant := xs.mapIdx fun j x => if (j : Int) ∈ l then jni x else x
theorem jea (xs : List Entrant) (l : List Int) : (jcp xs l).length = xs.length := by simp [jcp]
theorem jnx (xs : List Entrant) : jcp xs [] = xs := by
 refine List.ext_getElem (by simp [jcp]) fun i h1 h2 => by simp [jcp]
theorem je4 (xs : List Entrant) (l : List Int) {i : Nat} (h : i < xs.length) (h2 : i < (jcp xs l).length) : (jcp xs l)[i] = if (i : Int) ∈ l then jni xs[i] else xs[i] := by simp [jcp]
theorem jms (xs : List Entrant) (l : List Int) {i : Nat} (h : i < xs.length) (h2 : i < (jcp xs l).length) : jcp xs (l ++ [(i : Int)]) = (jcp xs l).set i (jni (jcp xs l)[i]) := by
 refine List.ext_getElem (by simp [jcp]) fun j h3 h4 => ?_
 have hj : j < xs.length := by rw [jea] at h3; exact h3
 rw [je4 _ _ hj, List.getElem_set]
 by_cases e : i = j
 ·subst e
  rw [if_pos rfl, je4 _ _ h]
  by_cases hm : (i : Int) ∈ l <;> simp [hm, jog]
 ·have e2 : (j : Int) ≠ (i : Int) := by omega
  rw [if_neg e, je4 _ _ hj]
  by_cases hm : (j : Int) ∈ l <;> simp [hm, e2]
theorem jol (xs : List Entrant) : jcp xs (inL xs 0) = jb1 xs := by
 refine List.ext_getElem (by simp [jcp, jb1]) fun i h1 h2 => ?_
 have hi : i < xs.length := by rw [jea] at h1; exact h1
 rw [je4 _ _ hi]
 simp only [jb1, List.getElem_map, jfv]
 by_cases hs : xs[i].state = 0
 ·rw [if_pos hs, if_pos (ji7.2 ⟨i, rfl, hi, hs⟩)]
 ·rw [if_neg hs, if_neg]
  intro hm
  obtain ⟨j, hj, h3, h4⟩ := ji7.1 hm
  obtain rfl : i = j := by omega
  exact hs h4
def jca (xs : List Entrant) (k : Nat) : List Entrant := (xs.take k).map jfv ++ xs.drop k
theorem jfi (xs : List Entrant) (k : Nat) : (jca xs k).length = xs.length := by simp [jca]; omega
theorem jl0 (xs : List Entrant) : jca xs 0 = xs := by simp [jca]
theorem jmq (xs : List Entrant) : jca xs xs.length = jb1 xs := by simp [jca, jb1]
theorem jek (xs : List Entrant) (k : Nat) {i : Nat} (hi : i < xs.length) (h : i < (jca xs k).length) : (jca xs k)[i] = if i < k then jfv xs[i] else xs[i] := by
 simp only [jca, List.getElem_append, List.length_map, List.length_take, List.getElem_map, List.getElem_take, List.getElem_drop]
 by_cases hk : i < k
 ·rw [if_pos hk, dif_pos (by omega)]
 ·rw [if_neg hk, dif_neg (by omega)]
  congr 1
  omega
theorem jgy (xs : List Entrant) {k : Nat} (hk : k < xs.length) : jca xs (k + 1) = (jca xs k).set k (jfv xs[k]) := by
 refine List.ext_getElem (by simp [jfi]) fun i h1 h2 => ?_
 have hi : i < xs.length := by rw [jfi] at h1; exact h1
 rw [jek _ _ hi, List.getElem_set, jek _ _ hi]
 by_cases e : k = i
 ·subst e
  simp
 ·rw [if_neg e]
  by_cases h : i < k
  ·rw [if_pos h, if_pos (by omega)]
  ·rw [if_neg h, if_neg (by omega)]
theorem jl2 (xs : List Entrant) {k : Nat} (hk : k < xs.length) (h : xs[k].state ≠ 0) : jca xs (k + 1) = jca xs k := by
 rw [jgy xs hk]
 refine List.ext_getElem (by simp) fun i h1 h2 => ?_
 rw [List.getElem_set]
 by_cases e : k = i
 ·subst e
  rw [if_pos rfl, jek _ _ hk, if_neg (Nat.lt_irrefl _), jfv, if_neg h]
 ·rw [if_neg e]
def jb6 (t e : Int) (x : Entrant) (k v : Int) : Option Entrant :=
 if k = 2 then if x.state = 0 ∧ v = 0 then some ⟨1, e + 1, t, -1, []⟩ else none
 else if x.state = 1 ∧ (k = 3 ∨ v = 0) then
  if k = 3 then if jda v = true ∧ x.punches.length < 12 then some { x with punches := x.punches ++ [⟨v, t⟩] } else none
  else if k = 4 then some { x with state := 2, finish := t }
  else if k = 5 then some { x with state := 3 }
  else none
 else none
def jbk (r : RaceV) (k e v : Int) : Option RaceV :=
 if 0 ≤ e ∧ e < (r.field.length : Int) then
  match r.field[e.toNat]? with
  | some x => (jb6 r.clock e x k v).map fun y => { r with field := r.field.set e.toNat y }
  | none => none
 else none
def jba (r : RaceV) (k e v : Int) : Option RaceV :=
 if k = 1 then if r.closed = false ∧ e = 0 ∧ inB v 1 (36000 - r.clock) = true then some { r with clock := r.clock + v } else none
 else if k = 6 then if r.closed = false ∧ e = 0 ∧ v = 0 ∧ (inL r.field 1).length = 0 then some { r with closed := true, field := jb1 r.field } else none
 else jbk r k e v
def ja0 (r : RaceV) : Bool := jbf r.clock r.closed r.field
def jdh (r : RaceV) (k e v : Int) : Option RaceV := if ja0 r then jba r k e v else none
def jm4 : RaceV := ⟨0, false, []⟩
def jkv (w : World) (R : Option RaceV) (e : Ending) (w' : World) : Prop :=
 ∃ (A : Option Addr) (c : Nat), e = .returned (.tuple #[.agg #[.int .i64 (R.getD jm4).clock, .bool (R.getD jm4).closed, .slice A (R.getD jm4).field.length c], .bool R.isSome]) ∧ MineN entrantSh w' (In w.heap.size w'.heap.size) 108 188 A (R.getD jm4).field.length c (R.getD jm4).field ∧ Below w.heap.size w w'
theorem jfa {r : RaceV} {k e v : Int} {i : Nat} (he : e = (i : Int)) (hi : i < r.field.length) : jbk r k e v = (jb6 r.clock e r.field[i] k v).map fun y => { r with field := r.field.set i y } := by
 subst he
 unfold jbk
 rw [if_pos ⟨by omega, by omega⟩, Int.toNat_natCast, List.getElem?_eq_getElem hi]
theorem jfm {r : RaceV} {k e v : Int} (h : ¬ (0 ≤ e ∧ e < (r.field.length : Int))) : jbk r k e v = none := by unfold jbk; rw [if_neg h]
theorem jam {t : Int} {cl : Bool} {xs : List Entrant} (h : jbf t cl xs = true) : 0 ≤ t ∧ t ≤ 36000 ∧ 1 ≤ xs.length ∧ xs.length ≤ 8 ∧ ∀ (i : Nat) (hi : i < xs.length), jcr t cl i xs[i] = true := by
 unfold jbf inB jc7 at h
 simp only [Bool.and_eq_true, decide_eq_true_eq, List.all_eq_true, List.mem_range] at h
 obtain ⟨h1, h2, h3⟩ := h
 refine ⟨by omega, by omega, by omega, by omega, fun i hi => ?_⟩
 rw [← jhp hi]
 exact h3 i hi
theorem jdy {t : Int} {cl : Bool} {i : Nat} {x : Entrant} (h : jcr t cl i x = true) : x.punches.length ≤ 12 := by
 unfold jcr at h
 have hz : jbp x.card = true → x.punches.length ≤ 12 := fun h => by
  unfold jbp Entrant.card at h
  simp only [Bool.and_eq_true, decide_eq_true_eq] at h
  omega
 by_cases h0 : x.state = 0
 ·rw [if_pos h0] at h
  exact hz (by simp only [Bool.and_eq_true] at h; exact h.1)
 rw [if_neg h0] at h
 by_cases h4 : x.state = 4
 ·rw [if_pos h4] at h
  exact hz (by simp only [Bool.and_eq_true] at h; exact h.1)
 rw [if_neg h4] at h
 by_cases h1 : x.state = 1 ∨ x.state = 2 ∨ x.state = 3
 ·rw [if_pos h1] at h
  simp only [Bool.and_eq_true] at h
  have h2 := h.2.1
  unfold jap jee at h2
  simp only [Bool.and_eq_true, decide_eq_true_eq] at h2
  exact h2.1.2
 ·rw [if_neg h1] at h
  cases h
end Go.Proofs.YtflpcdffmpfdpaaGreatDoor
