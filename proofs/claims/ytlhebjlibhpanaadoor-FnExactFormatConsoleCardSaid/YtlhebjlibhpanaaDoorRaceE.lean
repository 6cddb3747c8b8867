/- Entrants and races that are valid, as the program has them. -/
import Derived.Test.YtlhebjlibhpanaaDoorCard
import Derived.Test.YtlhebjlibhpanaaDoorEntT
import Derived.Test.YtlhebjlibhpanaaDoorLib1
namespace Go.Proofs.YtlhebjlibhpanaaDoor
open Go.RowKit


set_option maxRecDepth 100000 in
theorem IndexFunc_Punch (g : Nat) (lb : Array Value) (p : Punch → Bool) (A : Option Addr) (n c : Nat) (xs : List Punch) (w : World) (hx : Sees w 0 2 A n (xs.flatMap Punch.enc)) (hn : n ≤ 140737488355328) (hp : Answers g lb (fun x : Punch => .agg x.enc.toArray) p xs w) :
    Calls Tryd.prog 54 #[.slice A n c, .func (.func g) #[] lb] w fun e w' => ∃ r, e = .returned (.int .i64 r) ∧ FirstAt p xs r ∧ Below w.heap.size w w' := by
  have hl := hx.count (by decide) (fun _ => rfl)
  have eg := hp.enters
  go_enter Tryd.func54, Tryd.ntmps54
  go_wp2_with fail
  go_loopw [8] (fun v wr => ∃ k : Nat, k ≤ n ∧ v = .int .i64 k ∧ Hid ((xs.take k).any p = false) ∧ Below w.heap.size w wr) (fun v _ => n - (intOf v).toNat)
  case atStart => exact ⟨0, Nat.zero_le _, rfl, by simp [Hid], Below.refl _ _⟩
  case round =>
    obtain ⟨k, hk, rfl, ht, hb⟩ := hrel
    by_cases hlt : k < n
    · obtain ⟨b, off, rfl, hkx, c0, c1⟩ := (hx.next hb).elem2 (fun _ => rfl) hlt
      go_wp2_with fail
      refine (hp.at' k hkx _ hb).mono ?_
      cases hpk : p xs[k]
      · rintro e w1 ⟨rfl, b1⟩
        go_wp2_with fail
        go_roundw
        case rel => exact ⟨k + 1, by omega, by go_num, any_take_succ hkx ht.out hpk, bel_then hb b1⟩
        case measure => simp [intOf]; omega
      · rintro e w1 ⟨rfl, b1⟩
        go_wp2_with fail
        go_ret
        exact ⟨_, rfl, .inr ⟨k, rfl, hkx, hpk, ht.out⟩, bel_then hb b1⟩
    · go_wp2_with fail
      go_ret
      have h := ht.out
      rw [List.take_of_length_le (by omega)] at h
      exact ⟨_, rfl, .inl ⟨rfl, h⟩, hb⟩

theorem ContainsFunc_Punch (g : Nat) (lb : Array Value) (p : Punch → Bool) (A : Option Addr) (n c : Nat) (xs : List Punch) (w : World) (hx : Sees w 0 2 A n (xs.flatMap Punch.enc)) (hn : n ≤ 140737488355328) (hp : Answers g lb (fun x : Punch => .agg x.enc.toArray) p xs w) :
    Calls Tryd.prog 41 #[.slice A n c, .func (.func g) #[] lb] w fun e w' => e = .returned (.bool (xs.any p)) ∧ Below w.heap.size w w' := by
  go_enter Tryd.func41, Tryd.ntmps41
  go_wp2_with fail
  refine (IndexFunc_Punch g lb p A n c xs w hx hn hp).mono ?_
  rintro e w1 ⟨r, rfl, hr, b1⟩
  have hany := Lib.hid hr.any
  go_wp2_with fail
  all_goals go_ret
  all_goals exact ⟨ret_bool hany.out, b1⟩

def zeroB (x : Card) : Bool := decide (x.number = 0) && (decide (x.start = 0) && (decide (x.finish = 0) && decide (x.punches.length = 0)))
def lateB (t : Int) (x : Card) : Bool := decide (x.start ≤ t ∧ x.finish ≤ t) && x.punches.all fun p => decide (p.time ≤ t)
def entB (t : Int) (cl : Bool) (i : Nat) (x : Entrant) : Bool :=
  if x.state = 0 then zeroB x.card && !cl
  else if x.state = 4 then zeroB x.card && cl
  else if x.state = 1 ∨ x.state = 2 ∨ x.state = 3 then !(decide (x.state = 1) && cl) && (cardB x.card && (decide (x.number = (i : Int) + 1) && (decide (decide (x.finish ≠ -1) = decide (x.state = 2)) && lateB t x.card)))
  else false
def entAt (t : Int) (cl : Bool) (xs : List Entrant) (i : Nat) : Bool := match xs[i]? with | some x => entB t cl i x | none => true
def raceB (t : Int) (cl : Bool) (xs : List Entrant) : Bool := inB t 0 36000 && (inB (xs.length : Int) 1 8 && allTo xs.length (entAt t cl xs))
theorem entAt_at {t : Int} {cl : Bool} {xs : List Entrant} {i : Nat} (h : i < xs.length) : entAt t cl xs i = entB t cl i xs[i] := by unfold entAt; rw [List.getElem?_eq_getElem h]

theorem isZeroCard_any (A : Option Addr) (n c lo : Nat) (x : Card) (w : World) (hx : Sees w lo 2 A n (x.punches.flatMap Punch.enc)) :
    Calls Tryd.prog 39 #[.agg #[.int .i64 x.number, .int .i64 x.start, .int .i64 x.finish, .slice A n c]] w fun e w' => e = .returned (.bool (zeroB x)) ∧ Below w.heap.size w w' := by
  have hl := hx.count (by decide) (fun _ => rfl)
  have K0 : Below w.heap.size w (w.alloc (.cells #[.int .i64 x.number, .int .i64 x.start, .int .i64 x.finish, .slice A n c] 54)) := (Below.refl _ _).alloc (Nat.le_refl _) _
  by_cases h0 : x.number = 0
  rotate_left 1
  · have f0 : (x.number == 0) = false := beq_eq_false_iff_ne.2 h0
    have HZ := Lib.hid (show zeroB x = false by unfold zeroB; simp [h0])
    clear h0
    go_enter Tryd.func39, Tryd.ntmps39
    go_wp2_with fail
    go_ret
    exact ⟨ret_bool HZ.out.symm, K0⟩
  have f0 : (x.number == 0) = true := beq_iff_eq.2 h0
  by_cases h1 : x.start = 0
  rotate_left 1
  · have f1 : (x.start == 0) = false := beq_eq_false_iff_ne.2 h1
    have HZ := Lib.hid (show zeroB x = false by unfold zeroB; simp [h0, h1])
    clear h0 h1
    go_enter Tryd.func39, Tryd.ntmps39
    go_wp2_with fail
    go_ret
    exact ⟨ret_bool HZ.out.symm, K0⟩
  have f1 : (x.start == 0) = true := beq_iff_eq.2 h1
  by_cases h2 : x.finish = 0
  rotate_left 1
  · have f2 : (x.finish == 0) = false := beq_eq_false_iff_ne.2 h2
    have HZ := Lib.hid (show zeroB x = false by unfold zeroB; simp [h0, h1, h2])
    clear h0 h1 h2
    go_enter Tryd.func39, Tryd.ntmps39
    go_wp2_with fail
    go_ret
    exact ⟨ret_bool HZ.out.symm, K0⟩
  have f2 : (x.finish == 0) = true := beq_iff_eq.2 h2
  by_cases h3 : (n : Int) = 0
  rotate_left 1
  · have f3 : ((n : Int) == 0) = false := beq_eq_false_iff_ne.2 h3
    have HZ := Lib.hid (show zeroB x = false by unfold zeroB; simp [h0, h1, h2, show ¬ x.punches.length = 0 by omega])
    clear h0 h1 h2 h3
    go_enter Tryd.func39, Tryd.ntmps39
    go_wp2_with fail
    go_ret
    exact ⟨ret_bool HZ.out.symm, K0⟩
  have f3 : ((n : Int) == 0) = true := beq_iff_eq.2 h3
  have HZ := Lib.hid (show zeroB x = true by unfold zeroB; simp [h0, h1, h2, show x.punches.length = 0 by omega])
  clear h0 h1 h2 h3
  go_enter Tryd.func39, Tryd.ntmps39
  go_wp2_with fail
  go_ret
  exact ⟨ret_bool HZ.out.symm, K0⟩

theorem isEntrant1_any (p : Punch) (t : Int) (R : Nat) (w : World) (h1 : w.cell? ⟨R, 0, none⟩ = some (.int .i64 t)) (hR : R < w.heap.size) :
    Calls Tryd.prog 42 #[.agg #[.int .i64 p.code, .int .i64 p.time], .pointer (some ⟨R, 0, none⟩)] w fun e w' => e = .returned (.bool (decide (t < p.time))) ∧ Below w.heap.size w w' := by
  go_enter Tryd.func42, Tryd.ntmps42
  go_wp2_with fail
  go_ret
  exact ⟨rfl, (Below.refl _ _).alloc (Nat.le_refl _) _⟩
theorem isEntrant1_answers (ps : List Punch) (t : Int) (R : Nat) (rv : List Value) (w : World) (h1 : Blk w R 33 rv) (hr : rv[0]? = some (.int .i64 t)) :
    Answers 42 #[.pointer (some ⟨R, 0, none⟩)] (fun x : Punch => .agg x.enc.toArray) (fun p => decide (t < p.time)) ps w :=
  ⟨enters_of Tryd.func42 (by kernel_rfl) rfl, fun i hi W hb => isEntrant1_any ps[i] t R W (((h1.next hb).cell 0).trans hr) (h1.next hb).lt⟩
theorem late_any (t : Int) (ps : List Punch) : (!ps.any fun p => decide (t < p.time)) = ps.all fun p => decide (p.time ≤ t) := by
  induction ps with
  | nil => rfl
  | cons p l ih =>
    rw [List.any_cons, List.all_cons, Bool.not_or, ih]
    congr 1
    by_cases h : t < p.time
    · rw [decide_eq_true h, decide_eq_false (by omega)]; rfl
    · rw [decide_eq_false h, decide_eq_true (by omega)]; rfl

set_option maxRecDepth 100000 in
set_option maxHeartbeats 4000000 in
theorem isEntrant_any (t : Int) (cl : Bool) (A : Option Addr) (n c lo : Nat) (xs : List Entrant) (i : Nat) (w : World) (hx : SeesN entrantSh w lo A n xs) (hn : n ≤ 1048576) (hi : ∀ x ∈ xs, x.cnt ≤ 1048576) (hlt : i < n) :
    Calls Tryd.prog 29 #[.agg #[.int .i64 t, .bool cl, .slice A n c], .int .i64 (i : Int)] w fun e w' => e = .returned (.bool (entAt t cl xs i)) ∧ Below w.heap.size w w' := by
  obtain ⟨b, off, B, m, d, rfl, hkx, c0, c1, c2, c3, c4, hxi⟩ := SeesEntrant.elem hx hlt
  have hm : m ≤ 1048576 := by
    have h1 := hi xs[i] (List.getElem_mem hkx)
    have h2 := hxi.count (by decide) (fun _ => rfl)
    unfold Entrant.cnt at h1
    omega
  have HE := Lib.hid (entAt_at (t := t) (cl := cl) hkx)
  obtain ⟨x, hxe⟩ : ∃ x, xs[i] = x := ⟨_, rfl⟩
  rw [hxe] at c0 c1 c2 c3 hxi HE
  clear hxe hx hi hkx
  have hblt := World.block_lt_of_cell? w _ c0
  have K1 : Below w.heap.size w ((w.alloc (.cells #[.int .i64 t, .bool cl, .slice (some ⟨b, off, none⟩) n c] 33)).alloc (.cells #[.int .i64 x.state, .int .i64 x.number, .int .i64 x.start, .int .i64 x.finish, .slice B m d] 56)) := ((Below.refl _ _).alloc (Nat.le_refl _) _).alloc (by simp) _
  have B1 : Blk ((w.alloc (.cells #[.int .i64 t, .bool cl, .slice (some ⟨b, off, none⟩) n c] 33)).alloc (.cells #[.int .i64 x.state, .int .i64 x.number, .int .i64 x.start, .int .i64 x.finish, .slice B m d] 56)) w.heap.size 33 [.int .i64 t, .bool cl, .slice (some ⟨b, off, none⟩) n c] := (Blk.at_ rfl).alloc _
  have B2 : Blk ((w.alloc (.cells #[.int .i64 t, .bool cl, .slice (some ⟨b, off, none⟩) n c] 33)).alloc (.cells #[.int .i64 x.state, .int .i64 x.number, .int .i64 x.start, .int .i64 x.finish, .slice B m d] 56)) (w.heap.size + 1) 56 [.int .i64 x.state, .int .i64 x.number, .int .i64 x.start, .int .i64 x.finish, .slice B m d] := Blk.at_ (by simp)
  have hxw : Sees ((w.alloc (.cells #[.int .i64 t, .bool cl, .slice (some ⟨b, off, none⟩) n c] 33)).alloc (.cells #[.int .i64 x.state, .int .i64 x.number, .int .i64 x.start, .int .i64 x.finish, .slice B m d] 56)) 0 2 B m (x.card.punches.flatMap Punch.enc) := (hxi.less (Nat.zero_le _)).next K1
  by_cases s0 : x.state = 0
  · have q0 : (x.state == 0) = true := beq_iff_eq.2 s0
    have S0 := Lib.hid s0
    clear s0
    go_enter Tryd.func29, Tryd.ntmps29
    go_wp2_with fail
    refine (isZeroCard_any B m d _ x.card _ hxw).mono ?_
    rintro e w1 ⟨rfl, b1⟩
    replace K1 := bel_then K1 b1
    replace B1 := B1.next b1
    replace B2 := B2.next b1
    replace hxw := hxw.next b1
    clear b1
    have p1 := B1.cell
    have p2 := B2.cell
    cases hz : zeroB x.card <;> cases cl
    all_goals have HR := Lib.hid (HE.out.trans (show entB _ _ _ _ = _ by unfold entB; rw [if_pos S0.out, hz]))
    all_goals go_wp2_with fail
    all_goals go_ret
    all_goals exact ⟨ret_bool HR.out.symm, K1⟩

  have q0 : (x.state == 0) = false := beq_eq_false_iff_ne.2 s0
  have S0 := Lib.hid s0
  clear s0
  by_cases s4 : x.state = 4
  · have q4 : (x.state == 4) = true := beq_iff_eq.2 s4
    have S4 := Lib.hid s4
    clear s4
    go_enter Tryd.func29, Tryd.ntmps29
    go_wp2_with fail
    refine (isZeroCard_any B m d _ x.card _ hxw).mono ?_
    rintro e w1 ⟨rfl, b1⟩
    replace K1 := bel_then K1 b1
    replace B1 := B1.next b1
    replace B2 := B2.next b1
    replace hxw := hxw.next b1
    clear b1
    have p1 := B1.cell
    have p2 := B2.cell
    cases hz : zeroB x.card <;> cases cl
    all_goals have HR := Lib.hid (HE.out.trans (show entB _ _ _ _ = _ by unfold entB; rw [if_neg S0.out, if_pos S4.out, hz]))
    all_goals go_wp2_with fail
    all_goals go_ret
    all_goals exact ⟨ret_bool HR.out.symm, K1⟩

  have q4 : (x.state == 4) = false := beq_eq_false_iff_ne.2 s4
  have S4 := Lib.hid s4
  clear s4
  by_cases s1 : x.state = 1
  · have q1 : (x.state == 1) = true := beq_iff_eq.2 s1
    have S1 := Lib.hid s1
    clear s1
    cases cl
    rotate_left 1
    · have HR := Lib.hid (show entAt t true xs i = false by rw [HE.out]; unfold entB; simp [S1.out])
      go_enter Tryd.func29, Tryd.ntmps29
      go_wp2_with fail
      go_ret
      exact ⟨ret_bool HR.out.symm, K1⟩

    go_enter Tryd.func29, Tryd.ntmps29
    go_wp2_with fail
    refine (IsCard_any B m d _ x.card _ hxw hm).mono ?_
    rintro e w1 ⟨rfl, b1⟩
    replace K1 := bel_then K1 b1
    replace B1 := B1.next b1
    replace B2 := B2.next b1
    replace hxw := hxw.next b1
    clear b1
    have p1 := B1.cell
    have p2 := B2.cell
    cases hcb : cardB x.card
    · have HR := Lib.hid (show entAt t false xs i = false by rw [HE.out]; unfold entB; simp [S1.out, hcb])
      clear hcb
      go_wp2_with fail
      go_ret
      exact ⟨ret_bool HR.out.symm, K1⟩
    by_cases hnum : x.number = (i : Int) + 1
    rotate_left 1
    · have HR := Lib.hid (show entAt t false xs i = false by rw [HE.out]; unfold entB; simp [S1.out, hcb, hnum])
      have f1 : (x.number != (i : Int) + 1) = true := by simp [hnum]
      clear hcb hnum
      go_wp2_with fail
      go_ret
      exact ⟨ret_bool HR.out.symm, K1⟩
    have f1 : (x.number != (i : Int) + 1) = false := by simp [hnum]
    obtain ⟨mx, hmx⟩ : ∃ mx, (if x.start < x.finish then x.finish else x.start) = mx := ⟨_, rfl⟩
    have hmx2 : (x.start ≤ t ∧ x.finish ≤ t) ↔ mx ≤ t := by rw [← hmx]; split <;> omega
    have hLB : lateB t x.card = (decide (x.start ≤ t ∧ x.finish ≤ t) && x.punches.all fun p => decide (p.time ≤ t)) := rfl
    by_cases hlate : x.start ≤ t ∧ x.finish ≤ t
    rotate_left 1
    · have HR := Lib.hid (show entAt t false xs i = false by rw [HE.out]; unfold entB; rw [hLB, decide_eq_false hlate]; simp [S1.out])
      have f2 : t < mx := by omega
      clear hcb hnum hlate hLB hmx2
      go_wp2_with fail
      go_ret
      exact ⟨ret_bool HR.out.symm, K1⟩
    have f2 : ¬ t < mx := by omega
    by_cases hfin : decide (x.finish ≠ -1) = decide (x.state = 2)
    rotate_left 1
    · have HR := Lib.hid (show entAt t false xs i = false by rw [HE.out]; unfold entB; simp only [decide_eq_false hfin]; simp [S1.out])
      have hz := fun h => hfin (decide_eq_decide.2 h)
      have f4 : (x.finish != -1) = true := by
        by_cases z : x.finish = -1
        · exact absurd ⟨fun h => absurd z h, fun h => absurd h (by simp [S1.out])⟩ hz
        · simp [z]
      have f5 : (x.state == 2) = false := by simp [S1.out]
      clear hz
      clear hcb hnum hlate hfin hLB hmx2
      go_wp2_with fail
      go_ret
      exact ⟨ret_bool HR.out.symm, K1⟩
    have hz := decide_eq_decide.1 hfin
    have f4 : (x.finish != -1) = false := by
      by_cases z : x.finish = -1
      · simp [z]
      · exact absurd (hz.1 z) (by simp [S1.out])
    have f5 : (x.state == 2) = false := by simp [S1.out]
    clear hz
    have HR := Lib.hid (show entAt t false xs i = (x.punches.all fun p => decide (p.time ≤ t)) by rw [HE.out]; unfold entB; rw [hLB, hcb, decide_eq_true hlate, decide_eq_true hfin, decide_eq_true hnum]; simp [S1.out])
    clear hcb hnum hlate hfin hLB hmx2
    go_wp2_with fail
    refine (ContainsFunc_Punch _ _ _ B m d x.punches w1 hxw (by omega) (isEntrant1_answers x.punches t w.heap.size _ w1 B1 rfl)).mono ?_
    rintro e w2 ⟨rfl, b2⟩
    have K2 := bel_then K1 b2
    have HL := Lib.hid (late_any t x.punches)
    generalize (x.punches.any fun p => decide (t < p.time)) = lv at *
    go_wp2_with fail
    go_ret
    exact ⟨ret_bool (by rw [HR.out, HL.out]), K2⟩

  have q1 : (x.state == 1) = false := beq_eq_false_iff_ne.2 s1
  have S1 := Lib.hid s1
  clear s1
  by_cases s2 : x.state = 2
  · have q2 : (x.state == 2) = true := beq_iff_eq.2 s2
    have S2 := Lib.hid s2
    clear s2
    go_enter Tryd.func29, Tryd.ntmps29
    go_wp2_with fail
    refine (IsCard_any B m d _ x.card _ hxw hm).mono ?_
    rintro e w1 ⟨rfl, b1⟩
    replace K1 := bel_then K1 b1
    replace B1 := B1.next b1
    replace B2 := B2.next b1
    replace hxw := hxw.next b1
    clear b1
    have p1 := B1.cell
    have p2 := B2.cell
    cases hcb : cardB x.card
    · have HR := Lib.hid (show entAt t cl xs i = false by rw [HE.out]; unfold entB; simp [S2.out, hcb])
      clear hcb
      go_wp2_with fail
      go_ret
      exact ⟨ret_bool HR.out.symm, K1⟩
    by_cases hnum : x.number = (i : Int) + 1
    rotate_left 1
    · have HR := Lib.hid (show entAt t cl xs i = false by rw [HE.out]; unfold entB; simp [S2.out, hcb, hnum])
      have f1 : (x.number != (i : Int) + 1) = true := by simp [hnum]
      clear hcb hnum
      go_wp2_with fail
      go_ret
      exact ⟨ret_bool HR.out.symm, K1⟩
    have f1 : (x.number != (i : Int) + 1) = false := by simp [hnum]
    obtain ⟨mx, hmx⟩ : ∃ mx, (if x.start < x.finish then x.finish else x.start) = mx := ⟨_, rfl⟩
    have hmx2 : (x.start ≤ t ∧ x.finish ≤ t) ↔ mx ≤ t := by rw [← hmx]; split <;> omega
    have hLB : lateB t x.card = (decide (x.start ≤ t ∧ x.finish ≤ t) && x.punches.all fun p => decide (p.time ≤ t)) := rfl
    by_cases hlate : x.start ≤ t ∧ x.finish ≤ t
    rotate_left 1
    · have HR := Lib.hid (show entAt t cl xs i = false by rw [HE.out]; unfold entB; rw [hLB, decide_eq_false hlate]; simp [S2.out])
      have f2 : t < mx := by omega
      clear hcb hnum hlate hLB hmx2
      go_wp2_with fail
      go_ret
      exact ⟨ret_bool HR.out.symm, K1⟩
    have f2 : ¬ t < mx := by omega
    by_cases hfin : decide (x.finish ≠ -1) = decide (x.state = 2)
    rotate_left 1
    · have HR := Lib.hid (show entAt t cl xs i = false by rw [HE.out]; unfold entB; simp only [decide_eq_false hfin]; simp [S2.out])
      have hz := fun h => hfin (decide_eq_decide.2 h)
      have f4 : (x.finish != -1) = false := by
        by_cases z : x.finish = -1
        · simp [z]
        · exact absurd ⟨fun _ => S2.out, fun _ => z⟩ hz
      clear hz
      clear hcb hnum hlate hfin hLB hmx2
      go_wp2_with fail
      go_ret
      exact ⟨ret_bool HR.out.symm, K1⟩
    have hz := decide_eq_decide.1 hfin
    have f4 : (x.finish != -1) = true := by simpa using hz.2 S2.out
    clear hz
    have HR := Lib.hid (show entAt t cl xs i = (x.punches.all fun p => decide (p.time ≤ t)) by rw [HE.out]; unfold entB; rw [hLB, hcb, decide_eq_true hlate, decide_eq_true hfin, decide_eq_true hnum]; simp [S2.out])
    clear hcb hnum hlate hfin hLB hmx2
    go_wp2_with fail
    refine (ContainsFunc_Punch _ _ _ B m d x.punches w1 hxw (by omega) (isEntrant1_answers x.punches t w.heap.size _ w1 B1 rfl)).mono ?_
    rintro e w2 ⟨rfl, b2⟩
    have K2 := bel_then K1 b2
    have HL := Lib.hid (late_any t x.punches)
    generalize (x.punches.any fun p => decide (t < p.time)) = lv at *
    go_wp2_with fail
    go_ret
    exact ⟨ret_bool (by rw [HR.out, HL.out]), K2⟩

  have q2 : (x.state == 2) = false := beq_eq_false_iff_ne.2 s2
  have S2 := Lib.hid s2
  clear s2
  by_cases s3 : x.state = 3
  · have q3 : (x.state == 3) = true := beq_iff_eq.2 s3
    have S3 := Lib.hid s3
    clear s3
    go_enter Tryd.func29, Tryd.ntmps29
    go_wp2_with fail
    refine (IsCard_any B m d _ x.card _ hxw hm).mono ?_
    rintro e w1 ⟨rfl, b1⟩
    replace K1 := bel_then K1 b1
    replace B1 := B1.next b1
    replace B2 := B2.next b1
    replace hxw := hxw.next b1
    clear b1
    have p1 := B1.cell
    have p2 := B2.cell
    cases hcb : cardB x.card
    · have HR := Lib.hid (show entAt t cl xs i = false by rw [HE.out]; unfold entB; simp [S3.out, hcb])
      clear hcb
      go_wp2_with fail
      go_ret
      exact ⟨ret_bool HR.out.symm, K1⟩
    by_cases hnum : x.number = (i : Int) + 1
    rotate_left 1
    · have HR := Lib.hid (show entAt t cl xs i = false by rw [HE.out]; unfold entB; simp [S3.out, hcb, hnum])
      have f1 : (x.number != (i : Int) + 1) = true := by simp [hnum]
      clear hcb hnum
      go_wp2_with fail
      go_ret
      exact ⟨ret_bool HR.out.symm, K1⟩
    have f1 : (x.number != (i : Int) + 1) = false := by simp [hnum]
    obtain ⟨mx, hmx⟩ : ∃ mx, (if x.start < x.finish then x.finish else x.start) = mx := ⟨_, rfl⟩
    have hmx2 : (x.start ≤ t ∧ x.finish ≤ t) ↔ mx ≤ t := by rw [← hmx]; split <;> omega
    have hLB : lateB t x.card = (decide (x.start ≤ t ∧ x.finish ≤ t) && x.punches.all fun p => decide (p.time ≤ t)) := rfl
    by_cases hlate : x.start ≤ t ∧ x.finish ≤ t
    rotate_left 1
    · have HR := Lib.hid (show entAt t cl xs i = false by rw [HE.out]; unfold entB; rw [hLB, decide_eq_false hlate]; simp [S3.out])
      have f2 : t < mx := by omega
      clear hcb hnum hlate hLB hmx2
      go_wp2_with fail
      go_ret
      exact ⟨ret_bool HR.out.symm, K1⟩
    have f2 : ¬ t < mx := by omega
    by_cases hfin : decide (x.finish ≠ -1) = decide (x.state = 2)
    rotate_left 1
    · have HR := Lib.hid (show entAt t cl xs i = false by rw [HE.out]; unfold entB; simp only [decide_eq_false hfin]; simp [S3.out])
      have hz := fun h => hfin (decide_eq_decide.2 h)
      have f4 : (x.finish != -1) = true := by
        by_cases z : x.finish = -1
        · exact absurd ⟨fun h => absurd z h, fun h => absurd h (by simp [S3.out])⟩ hz
        · simp [z]
      have f5 : (x.state == 2) = false := by simp [S3.out]
      clear hz
      clear hcb hnum hlate hfin hLB hmx2
      go_wp2_with fail
      go_ret
      exact ⟨ret_bool HR.out.symm, K1⟩
    have hz := decide_eq_decide.1 hfin
    have f4 : (x.finish != -1) = false := by
      by_cases z : x.finish = -1
      · simp [z]
      · exact absurd (hz.1 z) (by simp [S3.out])
    have f5 : (x.state == 2) = false := by simp [S3.out]
    clear hz
    have HR := Lib.hid (show entAt t cl xs i = (x.punches.all fun p => decide (p.time ≤ t)) by rw [HE.out]; unfold entB; rw [hLB, hcb, decide_eq_true hlate, decide_eq_true hfin, decide_eq_true hnum]; simp [S3.out])
    clear hcb hnum hlate hfin hLB hmx2
    go_wp2_with fail
    refine (ContainsFunc_Punch _ _ _ B m d x.punches w1 hxw (by omega) (isEntrant1_answers x.punches t w.heap.size _ w1 B1 rfl)).mono ?_
    rintro e w2 ⟨rfl, b2⟩
    have K2 := bel_then K1 b2
    have HL := Lib.hid (late_any t x.punches)
    generalize (x.punches.any fun p => decide (t < p.time)) = lv at *
    go_wp2_with fail
    go_ret
    exact ⟨ret_bool (by rw [HR.out, HL.out]), K2⟩

  have q3 : (x.state == 3) = false := beq_eq_false_iff_ne.2 s3
  have S3 := Lib.hid s3
  clear s3
  have HR := Lib.hid (show entAt t cl xs i = false by rw [HE.out]; unfold entB; simp [S0.out, S4.out, S1.out, S2.out, S3.out])
  go_enter Tryd.func29, Tryd.ntmps29
  go_wp2_with fail
  go_ret
  exact ⟨ret_bool HR.out.symm, K1⟩

end Go.Proofs.YtlhebjlibhpanaaDoor
