/- Joined texts of this proof: ValidP, IsVal, SyncL, AppL. -/
import Derived.Test.YtflpcdffmpfdpaaGreatDoorB19
set_option maxRecDepth 100000
set_option maxHeartbeats 8000000
namespace Go.Proofs.YtflpcdffmpfdpaaGreatDoor
open Go.RowKit
theorem jf6 {k : Nat} {e : LogRecord} (h : jgb e = true) (hk : k < 60) : (jck k e).size ≤ 372 := by
 have h1 := jie (k := k) h (by omega)
 have h2 := jgr (jd9 k e)
 have h3 : (⟨#[10]⟩ : ByteArray).size = 1 := rfl
 unfold jck
 rw [ByteArray.size_append]
 omega
theorem jio {k n : Nat} {s : ByteArray} {e : LogRecord} (h : jbn k s = some (e, n)) : 1 ≤ n ∧ n ≤ 372 := by
 obtain ⟨_, hk, h1, h2, _⟩ := jbv h
 obtain ⟨h3, h4⟩ := jkt h1
 have h5 := jf6 h3 hk
 have h6 : (⟨#[10]⟩ : ByteArray).size = 1 := rfl
 rw [h4, ByteArray.size_append] at h5
 omega
theorem jk5 {s : ByteArray} : ∀ (f : Nat) {x : Recs}, x.at_ ≤ 372 * x.l.length → (jjb s f x).at_ ≤ 372 * (jjb s f x).l.length
 | 0, _, h => h
 | f + 1, x, h => by
  cases g : jbn x.l.length (s.extract x.at_ s.size) with
  | none => rw [jbs g]; exact h
  | some r =>
   obtain ⟨e, n⟩ := r
   rw [jce g]
   have h1 := (jio g).2
   exact jk5 f (by show x.at_ + n ≤ 372 * (x.l ++ [e]).length; rw [List.length_append]; simp only [List.length_singleton]; omega)
theorem jl3 (s : ByteArray) : (allR s).at_ ≤ 30000 := by
 have h1 : (allR s).at_ ≤ 372 * (allR s).l.length := by
  rw [← jdo]
  exact jk5 61 (Nat.zero_le _)
 have := (jkd s).len
 omega
theorem jg2 (b : UInt8) : ∀ l : List UInt8, b ∉ l.takeWhile (· != b)
 | [] => by simp
 | c :: l => by
  have ih := jg2 b l
  rw [List.takeWhile_cons]
  split
  ·rename_i h
   have hc : c ≠ b := by simpa using h
   intro hm
   rcases List.mem_cons.1 hm with e | e
   ·exact hc e.symm
   ·exact ih e
  ·simp
theorem jpc {b : UInt8} {u v : ByteArray} (h : jde b u = true) : jde b (u ++ v) = true := by rw [jh1, h]; rfl
theorem jk3 {b : UInt8} {u v : ByteArray} (h : jde b u = true) : upto b (u ++ v) = upto b u := by
 have hn : jde b (upto b u) = false := by
  unfold jde upto
  rw [← Bool.not_eq_true, List.contains_iff_mem]
  exact jg2 _ _
 have h1 : u ++ v = upto b u ++ ⟨#[b]⟩ ++ (je0 b u ++ v) := by
  rw [← ByteArray.append_assoc, ← jez h]
 rw [h1]
 exact (je6 hn).1
theorem jn7 {k n : Nat} {u v : ByteArray} {e : LogRecord} (h : jbn k u = some (e, n)) : jbn k (u ++ v) = some (e, n) := by
 obtain ⟨h1, h2, h3, h4, _⟩ := jbv h
 unfold jbn
 rw [if_pos ⟨jpc h1, h2⟩, jk3 h1, h3, h4]
 rfl
theorem jkm {b : UInt8} {u v : ByteArray} (h : (upto b (u ++ v)).size < u.size) : jde b u = true := by
 cases g : jde b u with
 | true => rfl
 | false =>
  have hall : ∀ x ∈ u.data.toList, (x != b) = true := fun x hx => by
   unfold jde at g
   rw [← Bool.not_eq_true, List.contains_iff_mem] at g
   have hne : x ≠ b := fun e => g (e ▸ hx)
   simpa using hne
  have h1 : (upto b (u ++ v)).data.toList = u.data.toList ++ v.data.toList.takeWhile (· != b) := by
   show ((u ++ v).data.toList.takeWhile (· != b)).toArray.toList = _
   rw [ByteArray.data_append, Array.toList_append, List.takeWhile_append_of_pos hall]
  have h2 := congrArg List.length h1
  rw [List.length_append, Array.length_toList, Array.length_toList] at h2
  have h3 : (upto b (u ++ v)).size = (upto b (u ++ v)).data.size := rfl
  have h4 : u.size = u.data.size := rfl
  omega
theorem jpr {k n : Nat} {u v : ByteArray} {e : LogRecord} (h : jbn k (u ++ v) = some (e, n)) (hn : n ≤ u.size) : jbn k u = some (e, n) := by
 obtain ⟨_, h2, h3, h4, _⟩ := jbv h
 have h1 := jkm (b := 10) (u := u) (v := v) (by omega)
 rw [jk3 h1] at h3 h4
 unfold jbn
 rw [if_pos ⟨h1, h2⟩, h3, h4]
 rfl
theorem jls {u v : ByteArray} {p : Nat} (h : p ≤ u.size) : (u ++ v).extract p (u ++ v).size = u.extract p u.size ++ v := by
 have h1 := jjl u p h
 have h2 := (ji2 (u.extract 0 p) (u.extract p u.size ++ v)).2
 have h3 : (u.extract 0 p).size = p := by simp; omega
 rw [← ByteArray.append_assoc, h1, h3] at h2
 exact h2
theorem jma {s : ByteArray} {y : Nat} : ∀ (f : Nat) {x : Recs}, y ∈ x.ends → y ∈ (jjb s f x).ends
 | 0, _, h => h
 | f + 1, x, h => by
  cases g : jbn x.l.length (s.extract x.at_ s.size) with
  | none => rw [jbs g]; exact h
  | some r =>
   obtain ⟨e, n⟩ := r
   rw [jce g]
   exact jma f (List.mem_append_left _ h)
theorem jnq {s : ByteArray} {y : Nat} : ∀ (f : Nat) {x : Recs}, y ∈ (jjb s f x).ends → y ∈ x.ends ∨ x.at_ < y
 | 0, _, h => .inl h
 | f + 1, x, h => by
  cases g : jbn x.l.length (s.extract x.at_ s.size) with
  | none => rw [jbs g] at h; exact .inl h
  | some r =>
   obtain ⟨e, n⟩ := r
   have h1 := (jio g).1
   rw [jce g] at h
   rcases jnq f h with h2 | h2
   ·rcases List.mem_append.1 h2 with h3 | h3
    ·exact .inl h3
    ·have h4 : y = x.at_ + n := by simpa using h3
     exact .inr (by omega)
   ·have h4 : x.at_ + n < y := h2
    exact .inr (by omega)
theorem jng {u v : ByteArray} : ∀ (f : Nat) {x : Recs}, x.at_ ≤ u.size → x.at_ ∈ x.ends → (jjb u f x).at_ ∈ (jjb (u ++ v) f x).ends
 | 0, _, _, h => h
 | f + 1, x, hp, h => by
  cases g : jbn x.l.length (u.extract x.at_ u.size) with
  | none => rw [jbs g]; exact jma _ h
  | some r =>
   obtain ⟨e, n⟩ := r
   have h1 := (jbv g).2.2.2.2
   have h2 : (u.extract x.at_ u.size).size = u.size - x.at_ := by simp
   have g2 : jbn x.l.length ((u ++ v).extract x.at_ (u ++ v).size) = some (e, n) := by rw [jls hp]; exact jn7 g
   rw [jce g, jce g2]
   exact jng f (by show x.at_ + n ≤ u.size; omega) (List.mem_append_right _ (List.mem_singleton.2 rfl))
theorem jpj {u v : ByteArray} : ∀ (f : Nat) {x : Recs}, x.at_ ≤ u.size → (u.size ∈ x.ends → x.at_ = u.size) → u.size ∈ (jjb (u ++ v) f x).ends → (jjb u f x).at_ = u.size
 | 0, _, _, h0, h => h0 h
 | f + 1, x, hp, h0, h => by
  by_cases he : x.at_ = u.size
  ·have g : jbn x.l.length (u.extract x.at_ u.size) = none := by
    cases g : jbn x.l.length (u.extract x.at_ u.size) with
    | none => rfl
    | some r =>
     obtain ⟨e, n⟩ := r
     have h1 := (jbv g).2.2.2.2
     have h2 : (u.extract x.at_ u.size).size = u.size - x.at_ := by simp
     have h3 := (jio g).1
     omega
   rw [jbs g]; exact he
  ·cases g : jbn x.l.length ((u ++ v).extract x.at_ (u ++ v).size) with
   | none => rw [jbs g] at h; exact absurd (h0 h) he
   | some r =>
    obtain ⟨e, n⟩ := r
    have h2 : (u.extract x.at_ u.size).size = u.size - x.at_ := by simp
    rw [jce g] at h
    by_cases hn : x.at_ + n ≤ u.size
    ·rw [jls hp] at g
     have g2 := jpr g (by omega)
     rw [jce g2]
     refine jpj f hn (fun hm => ?_) h
     rcases List.mem_append.1 hm with h3 | h3
     ·exact absurd (h0 h3) he
     ·exact (by simpa using h3 : u.size = x.at_ + n).symm
    ·rcases jnq f h with h3 | h3
     ·rcases List.mem_append.1 h3 with h4 | h4
      ·exact absurd (h0 h4) he
      ·have h5 : u.size = x.at_ + n := by simpa using h4
       omega
     ·have h4 : x.at_ + n < u.size := h3
      omega
theorem jpw (u v : ByteArray) : u.size ∈ (allR (u ++ v)).ends ↔ (allR u).at_ = u.size := by
 rw [← jdo, ← jdo]
 constructor
 ·exact jpj 61 (Nat.zero_le _) (fun h => (List.mem_singleton.1 h).symm)
 ·intro h
  have := jng (u := u) (v := v) 61 (x := ⟨[], [0], 0⟩) (Nat.zero_le _) (List.mem_singleton.2 rfl)
  rw [h] at this
  exact this
def ja9 (l : Log) : Bool := decide ((allR (l.durable ++ l.pending)).at_ = l.durable.size + l.pending.size) && decide ((allR l.durable).at_ = l.durable.size) && decide (((allR (l.durable ++ l.pending)).l.length : Int) = l.count)
theorem jed (l : Log) (w : World) (hs : l.upto 1048576) :
  Calls Tryz.prog 63 #[.agg #[l.durable, l.pending, l.count]] w fun e w' => e = .returned (.bool (ja9 l)) ∧ Below w.heap.size w w' := by
 obtain ⟨h1, h2⟩ := hs
 have zs : (l.durable ++ l.pending).size = l.durable.size + l.pending.size := ByteArray.size_append
 have K0 := nB w (.cells #[l.durable, l.pending, l.count] 33)
 have B0 := nP w [l.durable, l.pending, l.count] 33
 by_cases h3 : l.durable.size + l.pending.size ≤ 30000
 ·go_enter Tryz.func63, Tryz.ntmps63
  go_wp2_with fail
  refine (jiq (l.durable ++ l.pending) _ (by omega)).mono ?_
  rintro e w1 ⟨A, c, rfl, hA, b1⟩
  have K1 := jaa K0 b1
  have B1 := B0.next b1
  have c1 := B1.cell
  go_wp2_with fail
  refine (jiq l.durable _ (by omega)).mono ?_
  rintro e w2 ⟨A2, c2, rfl, hA2, b2⟩
  have K2 := jaa K1 b2
  have B2 := B1.next b2
  have c2' := B2.cell
  have HR := Lib.hid (show ja9 l = (decide ((allR (l.durable ++ l.pending)).at_ = l.durable.size + l.pending.size) && decide ((allR l.durable).at_ = l.durable.size) && decide (((allR (l.durable ++ l.pending)).l.length : Int) = l.count)) from rfl)
  have HA := Lib.hid (jkd (l.durable ++ l.pending)).at_
  clear c1 hA hA2
  generalize allR (l.durable ++ l.pending) = x at *
  generalize allR l.durable = y at *
  by_cases e1 : x.at_ = l.durable.size + l.pending.size
  ·have d1 : ((x.at_ : Int) == (l.durable.size : Int) + (l.pending.size : Int)) = true := beq_iff_eq.2 (by omega)
   by_cases e2 : y.at_ = l.durable.size
   ·have d2 : ((y.at_ : Int) == (l.durable.size : Int)) = true := beq_iff_eq.2 (by omega)
    by_cases e3 : (x.l.length : Int) = l.count
    ·have d3 : ((x.l.length : Int) == l.count) = true := beq_iff_eq.2 e3
     have HF := Lib.hid (show ja9 l = true by rw [HR.out, decide_eq_true e1, decide_eq_true e2, decide_eq_true e3]; rfl)
     clear HR e1 e2 e3
     go_wp2_with fail
     go_ret
     exact ⟨jab HF.out.symm, jaa K1 b2⟩
    ·have d3 : ((x.l.length : Int) == l.count) = false := beq_eq_false_iff_ne.2 e3
     have HF := Lib.hid (show ja9 l = false by rw [HR.out, decide_eq_false e3]; simp)
     clear HR e1 e2 e3
     go_wp2_with fail
     go_ret
     exact ⟨jab HF.out.symm, jaa K1 b2⟩
   ·have d2 : ((y.at_ : Int) == (l.durable.size : Int)) = false := beq_eq_false_iff_ne.2 (by omega)
    have HF := Lib.hid (show ja9 l = false by rw [HR.out, decide_eq_false e2]; simp)
    clear HR e1 e2
    go_wp2_with fail
    go_ret
    exact ⟨jab HF.out.symm, jaa K1 b2⟩
  ·have d1 : ((x.at_ : Int) == (l.durable.size : Int) + (l.pending.size : Int)) = false := beq_eq_false_iff_ne.2 (by omega)
   have HF := Lib.hid (show ja9 l = false by rw [HR.out, decide_eq_false e1]; rfl)
   clear HR e1
   go_wp2_with fail
   go_ret
   exact ⟨jab HF.out.symm, jaa K1 b2⟩
 ·have HR := Lib.hid (show ja9 l = false by
   have h4 := jl3 (l.durable ++ l.pending)
   unfold ja9
   rw [decide_eq_false (by omega)]; rfl)
  go_enter Tryz.func63, Tryz.ntmps63
  go_wp2_with fail
  go_ret
  exact ⟨jab HR.out.symm, K0⟩
theorem jch (l : Log) (w : World) (hs : l.upto 1048576) (hg : Gl w) :
  Calls Tryz.prog 69 #[.agg #[l.durable, l.pending, l.count]] w fun e w' => e = .returned (.bool (ja9 l)) ∧ Below w.heap.size w w' := by
 obtain ⟨h1, h2⟩ := hs
 have zs : (l.durable ++ l.pending).size = l.durable.size + l.pending.size := ByteArray.size_append
 have fs : ¬ 9223372036854775807 < l.durable.size + l.pending.size := by omega
 have K0 := nB w (.cells #[l.durable, l.pending, l.count] 33)
 have B0 := nP w [l.durable, l.pending, l.count] 33
 go_enter Tryz.func69, Tryz.ntmps69
 go_wp2_with fail
 refine (jhz (l.durable ++ l.pending) _ (by omega) (hg.next K0)).mono ?_
 rintro e w1 ⟨A, B, c, d, rfl, hA, hB, b1⟩
 have K1 := jaa K0 b1
 have B1 := B0.next b1
 have c1 := B1.cell
 have hs2 : Sees w1 0 1 B ((allR (l.durable ++ l.pending)).l.length + 1) (jqn (allR (l.durable ++ l.pending)).ends) := .of_own (jax hB (Nat.zero_le _))
 obtain ⟨gb, off, rfl, g1, _, g2⟩ := hs2.at' (by omega)
 have hok := jkd (l.durable ++ l.pending)
 have x1 := g2 (allR (l.durable ++ l.pending)).l.length _ (jor hok.last)
 have hat := hok.at_
 have hln := hok.len
 have HE := Lib.hid hok.ends
 have HI := Lib.hid (jpw l.durable l.pending)
 have HR := Lib.hid (show ja9 l = (decide ((allR (l.durable ++ l.pending)).at_ = l.durable.size + l.pending.size) && decide ((allR l.durable).at_ = l.durable.size) && decide (((allR (l.durable ++ l.pending)).l.length : Int) = l.count)) from rfl)
 clear hok hs2 hA hB
 generalize allR (l.durable ++ l.pending) = x at *
 have HG := Lib.hid g2
 clear g2
 by_cases e1 : x.at_ = l.durable.size + l.pending.size
 ·have d1 : ((x.at_ : Int) == (l.durable.size : Int) + (l.pending.size : Int)) = true := beq_iff_eq.2 (by omega)
  have d1' : ((x.at_ : Int) != (l.durable.size : Int) + (l.pending.size : Int)) = false := by rw [bne, d1]; rfl
  by_cases e3 : (x.l.length : Int) = l.count
  ·have d3 : ((x.l.length : Int) == l.count) = true := beq_iff_eq.2 e3
   have d3' : ((x.l.length : Int) != l.count) = false := by rw [bne, d3]; rfl
   have HF := Lib.hid (show ja9 l = decide ((allR l.durable).at_ = l.durable.size) by rw [HR.out, decide_eq_true e1, decide_eq_true e3]; simp)
   clear HR e1 e3
   go_wp2_with fail
   go_loop [35] (fun i => ∃ k : Nat, k ≤ x.l.length + 1 ∧ i = .int .i64 (k : Int) ∧ Hid (∀ j, j < k → x.ends[j]? ≠ some l.durable.size)) (fun i => x.l.length + 1 - (intOf i).toNat)
   case atStart => exact ⟨0, Nat.zero_le _, rfl, Lib.hid (fun j h => absurd h (by omega))⟩
   case round =>
    obtain ⟨k, hk, rfl, HN⟩ := hrel
    by_cases hlt : k < x.l.length + 1
    ·have hke : k < x.ends.length := by rw [HE.out]; exact hlt
     have hget : x.ends[k]? = some x.ends[k] := List.getElem?_eq_getElem hke
     have x2 := HG.out k _ (jor hget)
     by_cases hv : x.ends[k] = l.durable.size
     ·have dv : ((x.ends[k] : Int) == (l.durable.size : Int)) = true := beq_iff_eq.2 (by omega)
      have HT := Lib.hid (show ja9 l = true by rw [HF.out, decide_eq_true (HI.out.1 (hv ▸ List.getElem_mem hke))])
      clear hget hv
      generalize x.ends[k] = v at *
      go_wp2_with fail
      go_ret
      exact ⟨jab HT.out.symm, K1⟩
     ·have dv : ((x.ends[k] : Int) == (l.durable.size : Int)) = false := beq_eq_false_iff_ne.2 (by omega)
      have HN2 := Lib.hid (show ∀ j, j < k + 1 → x.ends[j]? ≠ some l.durable.size by
       intro j hj
       by_cases hjk : j = k
       ·subst hjk; rw [hget]; intro h; exact hv (Option.some.inj h)
       ·exact HN.out j (by omega))
      clear hget hv
      generalize x.ends[k] = v at *
      go_wp2_with fail
      go_round
      case rel => exact ⟨k + 1, by omega, by go_num, HN2⟩
      case measure => simp [intOf]; omega
    ·have HT := Lib.hid (show ja9 l = false by
      rw [HF.out, decide_eq_false]
      intro h
      obtain ⟨j, hj, hj2⟩ := List.getElem_of_mem (HI.out.2 h)
      have h5 := HE.out
      exact HN.out j (by omega) (by rw [List.getElem?_eq_getElem hj, hj2]))
     go_wp2_with fail
     go_ret
     exact ⟨jab HT.out.symm, K1⟩
  ·have d3 : ((x.l.length : Int) == l.count) = false := beq_eq_false_iff_ne.2 e3
   have d3' : ((x.l.length : Int) != l.count) = true := by rw [bne, d3]; rfl
   have HF := Lib.hid (show ja9 l = false by rw [HR.out, decide_eq_false e3]; simp)
   clear HR e1 e3
   go_wp2_with fail
   go_ret
   exact ⟨jab HF.out.symm, K1⟩
 ·have d1 : ((x.at_ : Int) == (l.durable.size : Int) + (l.pending.size : Int)) = false := beq_eq_false_iff_ne.2 (by omega)
  have d1' : ((x.at_ : Int) != (l.durable.size : Int) + (l.pending.size : Int)) = true := by rw [bne, d1]; rfl
  have HF := Lib.hid (show ja9 l = false by rw [HR.out, decide_eq_false e1]; rfl)
  clear HR e1
  go_wp2_with fail
  go_ret
  exact ⟨jab HF.out.symm, K1⟩
theorem jdj {B g : Nat} {a w : World} (h : Below B a w) (hg : B ≤ g) (u v x : Value) : Below B a (((w.setCell ⟨g, 0, none⟩ u).setCell ⟨g, 1, none⟩ v).setCell ⟨g, 2, none⟩ x) :=
 ((h.setCell (p := ⟨g, 0, none⟩) hg _).setCell (p := ⟨g, 1, none⟩) hg _).setCell (p := ⟨g, 2, none⟩) hg _
def jgg (l : Log) (e : LogRecord) : Log × Int := if ja9 l && jgb e then if l.count = 60 then (l, 2) else (⟨l.durable, l.pending ++ jck l.count.toNat e, l.count + 1⟩, 0) else (l, 1)
def jft (w : World) (R : Log × Int) (e : Ending) (w' : World) : Prop := e = .returned (.tuple #[.agg #[.string R.1.durable, .string R.1.pending, .int .i64 R.1.count], .int .i64 R.2]) ∧ Below w.heap.size w w'
theorem jg4 {l : Log} (h : ja9 l = true) : 0 ≤ l.count ∧ l.count ≤ 60 ∧ l.durable.size + l.pending.size ≤ 30000 := by
 unfold ja9 at h
 simp only [Bool.and_eq_true, decide_eq_true_eq] at h
 have h1 := (jkd (l.durable ++ l.pending)).len
 have h2 := jl3 (l.durable ++ l.pending)
 omega
theorem jg8 (k : Int) (e : LogRecord) (w : World) (h0 : 0 ≤ k) (h1 : k < 60) (he : jgb e = true) (hg : Gl w) :
  Calls Tryz.prog 99 #[.int .i64 k, .agg #[e.command, e.reply]] w fun x w' => x = .returned (.string (jck k.toNat e)) ∧ Below w.heap.size w w' := by
 obtain ⟨n, rfl⟩ := Int.eq_ofNat_of_zero_le h0
 exact jeo n e w (by omega) he hg
theorem jh0 (k : Int) (e : LogRecord) (w : World) (h0 : 0 ≤ k) (h1 : k < 60) (he : jgb e = true) :
  Calls Tryz.prog 88 #[.int .i64 k, .agg #[e.command, e.reply]] w fun x w' => x = .returned (.string (jck k.toNat e)) ∧ Below w.heap.size w w' := by
 obtain ⟨n, rfl⟩ := Int.eq_ofNat_of_zero_le h0
 exact jfn n e w (by omega) he
theorem jc9 (l : Log) (e : LogRecord) (w : World) (hs : l.upto 1048576) (he : e.upto 9223372036854775807) (hg : Gl w) :
  Calls Tryz.prog 50 #[.agg #[l.durable, l.pending, l.count], .agg #[e.command, e.reply]] w (jft w (jgg l e)) := by
 have ⟨h1, h2⟩ := hs
 have K0 := nB3 w (.cells #[l.durable, l.pending, l.count] 33) (.cells #[e.command, e.reply] 69) (.cells #[.string ⟨#[]⟩, .string ⟨#[]⟩, .int .i64 0] 33)
 have L0 := nPb w [l.durable, l.pending, l.count] 33 (.cells #[e.command, e.reply] 69) (.cells #[.string ⟨#[]⟩, .string ⟨#[]⟩, .int .i64 0] 33)
 have E0 := nQa w (.cells #[l.durable, l.pending, l.count] 33) [e.command, e.reply] 69 (.cells #[.string ⟨#[]⟩, .string ⟨#[]⟩, .int .i64 0] 33)
 have R0 := nR w (.cells #[l.durable, l.pending, l.count] 33) (.cells #[e.command, e.reply] 69) [.string ⟨#[]⟩, .string ⟨#[]⟩, .int .i64 0] 33
 cases hv : ja9 l
 ·have HR := Lib.hid (show jgg l e = (l, 1) by simp [jgg, hv])
  have HV := Lib.hid hv
  clear hv
  go_enter Tryz.func50, Tryz.ntmps50
  go_wp2_with fail
  refine (jch l _ hs (hg.next K0)).mono ?_
  rintro x w1 ⟨rfl, b1⟩
  rw [HV.out]
  have K1 := jaa K0 b1
  have L1 := L0.next b1
  have E1 := E0.next b1
  have R1 := R0.next b1
  have l1 := L1.cell
  have e1 := E1.cell
  have r1 := R1.cell
  have r1f := R1.frozen
  go_wp2_with fail
  refine bodyPost_ret (v := .tuple #[.agg #[l.durable, l.pending, l.count], .int .i64 1]) (by simp [results, Tryz.results50, go_sem, r1]) rfl ?_
  rw [HR.out]
  exact ⟨rfl, jdj K1 (by omega) _ _ _⟩
 have HV := Lib.hid hv
 have ⟨h0, h60', h3⟩ := jg4 hv
 cases hr : jgb e
 ·have HR := Lib.hid (show jgg l e = (l, 1) by simp [jgg, hr])
  have HG := Lib.hid hr
  clear hv hr
  go_enter Tryz.func50, Tryz.ntmps50
  go_wp2_with fail
  refine (jch l _ hs (hg.next K0)).mono ?_
  rintro x w1 ⟨rfl, b1⟩
  rw [HV.out]
  have K1 := jaa K0 b1
  have L1 := L0.next b1
  have E1 := E0.next b1
  have R1 := R0.next b1
  have l1 := L1.cell
  have e1 := E1.cell
  have r1 := R1.cell
  have r1f := R1.frozen
  clear r1f
  go_wp2_with fail
  refine (jbo e _ he).mono ?_
  rintro x w2 ⟨rfl, b2⟩
  rw [HG.out]
  have K2 := jaa K1 b2
  have L2 := L1.next b2
  have E2 := E1.next b2
  have R2 := R1.next b2
  have l2 := L2.cell
  have r2 := R2.cell
  have r2f := R2.frozen
  clear l1 e1 r1
  go_wp2_with fail
  refine bodyPost_ret (v := .tuple #[.agg #[l.durable, l.pending, l.count], .int .i64 1]) (by simp [results, Tryz.results50, go_sem, r2]) rfl ?_
  rw [HR.out]
  exact ⟨rfl, jdj K2 (by omega) _ _ _⟩
 have HG := Lib.hid hr
 by_cases hc : l.count = 60
 ·have HR := Lib.hid (show jgg l e = (l, 2) by simp [jgg, hv, hr, hc])
  have d1 : (l.count == (60 : Int)) = true := beq_iff_eq.2 hc
  clear hv hr hc
  go_enter Tryz.func50, Tryz.ntmps50
  go_wp2_with fail
  refine (jch l _ hs (hg.next K0)).mono ?_
  rintro x w1 ⟨rfl, b1⟩
  rw [HV.out]
  have K1 := jaa K0 b1
  have L1 := L0.next b1
  have E1 := E0.next b1
  have R1 := R0.next b1
  have l1 := L1.cell
  have e1 := E1.cell
  have r1 := R1.cell
  have r1f := R1.frozen
  clear r1f
  go_wp2_with fail
  refine (jbo e _ he).mono ?_
  rintro x w2 ⟨rfl, b2⟩
  rw [HG.out]
  have K2 := jaa K1 b2
  have L2 := L1.next b2
  have E2 := E1.next b2
  have R2 := R1.next b2
  have l2 := L2.cell
  have r2 := R2.cell
  have r2f := R2.frozen
  clear l1 e1 r1
  go_wp2_with fail
  refine bodyPost_ret (v := .tuple #[.agg #[l.durable, l.pending, l.count], .int .i64 2]) (by simp [results, Tryz.results50, go_sem, r2]) rfl ?_
  rw [HR.out]
  exact ⟨rfl, jdj K2 (by omega) _ _ _⟩
 have HR := Lib.hid (show jgg l e = (⟨l.durable, l.pending ++ jck l.count.toNat e, l.count + 1⟩, 0) by simp [jgg, hv, hr, hc])
 have d1 : (l.count == (60 : Int)) = false := beq_eq_false_iff_ne.2 hc
 have h60 : l.count < 60 := by omega
 clear hv hr hc
 go_enter Tryz.func50, Tryz.ntmps50
 go_wp2_with fail
 refine (jch l _ hs (hg.next K0)).mono ?_
 rintro x w1 ⟨rfl, b1⟩
 rw [HV.out]
 have K1 := jaa K0 b1
 have L1 := L0.next b1
 have E1 := E0.next b1
 have R1 := R0.next b1
 have l1 := L1.cell
 have e1 := E1.cell
 have r1 := R1.cell
 have r1f := R1.frozen
 clear r1f
 go_wp2_with fail
 refine (jbo e _ he).mono ?_
 rintro x w2 ⟨rfl, b2⟩
 rw [HG.out]
 have K2 := jaa K1 b2
 have L2 := L1.next b2
 have E2 := E1.next b2
 have R2 := R1.next b2
 have l2 := L2.cell
 have r2 := R2.cell
 have r2f := R2.frozen
 clear l1 e1 r1
 go_wp2_with fail
 replace K2 := ja3 K2 (Quiet.one w2)
 replace L2 := L2.quiet (Quiet.one w2)
 replace E2 := E2.quiet (Quiet.one w2)
 replace R2 := R2.quiet (Quiet.one w2)
 clear l2 r2 r2f
 have l2 := L2.cell
 have e2 := E2.cell
 have l2f := L2.frozen
 refine wp_region_held_drew (S := fun w' => w'.cell? ⟨w.heap.size, 0, none⟩ = some (.string l.durable) ∧ w'.cell? ⟨w.heap.size, 1, none⟩ = some (.string l.pending) ∧ w'.cell? ⟨w.heap.size, 2, none⟩ = some (.int .i64 l.count) ∧ w'.cell? ⟨w.heap.size + 1, 0, none⟩ = some (.string e.command) ∧ w'.cell? ⟨w.heap.size + 1, 1, none⟩ = some (.string e.reply)) (by kernel_rfl) (by (try dsimp only); go_keep) (fun hH => ?_)
 refine wQ 0 ?_
 refine wQ 1 ?_
 refine wQ 2 ?_
 refine wQ 3 ?_
 refine wQ 4 ?_
 refine wQ 5 ?_
 refine wQ 6 ?_
 refine wQ 9 ?_
 refine wQ 10 ?_
 refine wQ 11 ?_
 refine wR (rs := [7]) (by kernel_rfl) (by simp) ?_
 refine aC rfl (fun K hK => ?_) aN
 go_simp
 refine (jg8 l.count e _ h0 h60 HG.out (hg.next K2)).mono ?_
 rintro x w3 ⟨rfl, b3⟩
 have zl := jf6 (k := l.count.toNat) HG.out (by omega)
 have fl : ¬ 9223372036854775807 < l.pending.size + (jck l.count.toNat e).size := by omega
 have K3 := jaa K2 b3
 have L3 := L2.next b3
 have E3 := E2.next b3
 have R3 := R2.next b3
 have l3 := L3.cell
 have e3 := E3.cell
 have l3f := L3.frozen
 clear l2 e2 l2f
 generalize jck l.count.toNat e = t at *
 have r3f := R3.frozen
 have r3 := R3.cell

 go_wp2_with fail
 refine hK.out _ _ (by (try dsimp only); go_keep) (fun hH => ?_)
 clear hK K
 refine wQ 8 ?_
 refine wQ 12 ?_
 refine wR (rs := [13]) (by kernel_rfl) (by simp) ?_
 refine aC rfl (fun K hK => ?_) aN
 go_simp
 refine hK.out _ _ (by (try dsimp only); exact ⟨(((L3.far (p := ⟨w.heap.size + 2, 0, none⟩) (by simp) _).far (p := ⟨w.heap.size + 2, 1, none⟩) (by simp) _).far (p := ⟨w.heap.size + 2, 2, none⟩) (by simp) _).cell 0, (((L3.far (p := ⟨w.heap.size + 2, 0, none⟩) (by simp) _).far (p := ⟨w.heap.size + 2, 1, none⟩) (by simp) _).far (p := ⟨w.heap.size + 2, 2, none⟩) (by simp) _).cell 1, (((L3.far (p := ⟨w.heap.size + 2, 0, none⟩) (by simp) _).far (p := ⟨w.heap.size + 2, 1, none⟩) (by simp) _).far (p := ⟨w.heap.size + 2, 2, none⟩) (by simp) _).cell 2, (((E3.far (p := ⟨w.heap.size + 2, 0, none⟩) (by simp) _).far (p := ⟨w.heap.size + 2, 1, none⟩) (by simp) _).far (p := ⟨w.heap.size + 2, 2, none⟩) (by simp) _).cell 0, (((E3.far (p := ⟨w.heap.size + 2, 0, none⟩) (by simp) _).far (p := ⟨w.heap.size + 2, 1, none⟩) (by simp) _).far (p := ⟨w.heap.size + 2, 2, none⟩) (by simp) _).cell 1⟩) (fun hH => ?_)
 clear hK K
 try simp only [Act.put, pX]
 refine wQ 14 ?_
 refine wD (by kernel_rfl) ?_ _
 have hw : IntKind.i64.wrap (l.count + 1) = l.count + 1 := IntWalk.i64_in _ (by omega)
 go_wp2_with fail
 refine bodyPost_ret (v := .tuple #[.agg #[l.durable, .string (l.pending ++ t), .int .i64 (l.count + 1)], .int .i64 0]) (by simp [results, Tryz.results50, go_sem, r3, hw]) rfl ?_
 rw [HR.out]
 exact ⟨rfl, jdj K3 (Nat.le_trans (Nat.le_succ _) (Nat.le_succ _)) _ _ _⟩
theorem jdc (l : Log) (e : LogRecord) (w : World) (hs : l.upto 1048576) (he : e.upto 9223372036854775807) :
  Calls Tryz.prog 45 #[.agg #[l.durable, l.pending, l.count], .agg #[e.command, e.reply]] w (jft w (jgg l e)) := by
 have ⟨h1, h2⟩ := hs
 have K0 := nB3 w (.cells #[l.durable, l.pending, l.count] 33) (.cells #[e.command, e.reply] 69) (.cells #[.string ⟨#[]⟩, .string ⟨#[]⟩, .int .i64 0] 33)
 have L0 := nPb w [l.durable, l.pending, l.count] 33 (.cells #[e.command, e.reply] 69) (.cells #[.string ⟨#[]⟩, .string ⟨#[]⟩, .int .i64 0] 33)
 have E0 := nQa w (.cells #[l.durable, l.pending, l.count] 33) [e.command, e.reply] 69 (.cells #[.string ⟨#[]⟩, .string ⟨#[]⟩, .int .i64 0] 33)
 have R0 := nR w (.cells #[l.durable, l.pending, l.count] 33) (.cells #[e.command, e.reply] 69) [.string ⟨#[]⟩, .string ⟨#[]⟩, .int .i64 0] 33
 cases hv : ja9 l
 ·have HR := Lib.hid (show jgg l e = (l, 1) by simp [jgg, hv])
  have HV := Lib.hid hv
  clear hv
  go_enter Tryz.func45, Tryz.ntmps45
  go_wp2_with fail
  refine (jed l _ hs).mono ?_
  rintro x w1 ⟨rfl, b1⟩
  rw [HV.out]
  have K1 := jaa K0 b1
  have L1 := L0.next b1
  have E1 := E0.next b1
  have R1 := R0.next b1
  have l1 := L1.cell
  have e1 := E1.cell
  have r1 := R1.cell
  have r1f := R1.frozen
  go_wp2_with fail
  refine bodyPost_ret (v := .tuple #[.agg #[l.durable, l.pending, l.count], .int .i64 1]) (by simp [results, Tryz.results45, go_sem, r1]) rfl ?_
  rw [HR.out]
  exact ⟨rfl, jdj K1 (by omega) _ _ _⟩
 have HV := Lib.hid hv
 have ⟨h0, h60', h3⟩ := jg4 hv
 cases hr : jgb e
 ·have HR := Lib.hid (show jgg l e = (l, 1) by simp [jgg, hr])
  have HG := Lib.hid hr
  clear hv hr
  go_enter Tryz.func45, Tryz.ntmps45
  go_wp2_with fail
  refine (jed l _ hs).mono ?_
  rintro x w1 ⟨rfl, b1⟩
  rw [HV.out]
  have K1 := jaa K0 b1
  have L1 := L0.next b1
  have E1 := E0.next b1
  have R1 := R0.next b1
  have l1 := L1.cell
  have e1 := E1.cell
  have r1 := R1.cell
  have r1f := R1.frozen
  clear r1f
  go_wp2_with fail
  refine (jcm e _ he).mono ?_
  rintro x w2 ⟨rfl, b2⟩
  rw [HG.out]
  have K2 := jaa K1 b2
  have L2 := L1.next b2
  have E2 := E1.next b2
  have R2 := R1.next b2
  have l2 := L2.cell
  have r2 := R2.cell
  have r2f := R2.frozen
  clear l1 e1 r1
  go_wp2_with fail
  refine bodyPost_ret (v := .tuple #[.agg #[l.durable, l.pending, l.count], .int .i64 1]) (by simp [results, Tryz.results45, go_sem, r2]) rfl ?_
  rw [HR.out]
  exact ⟨rfl, jdj K2 (by omega) _ _ _⟩
 have HG := Lib.hid hr
 by_cases hc : l.count = 60
 ·have HR := Lib.hid (show jgg l e = (l, 2) by simp [jgg, hv, hr, hc])
  have d1 : (l.count == (60 : Int)) = true := beq_iff_eq.2 hc
  clear hv hr hc
  go_enter Tryz.func45, Tryz.ntmps45
  go_wp2_with fail
  refine (jed l _ hs).mono ?_
  rintro x w1 ⟨rfl, b1⟩
  rw [HV.out]
  have K1 := jaa K0 b1
  have L1 := L0.next b1
  have E1 := E0.next b1
  have R1 := R0.next b1
  have l1 := L1.cell
  have e1 := E1.cell
  have r1 := R1.cell
  have r1f := R1.frozen
  clear r1f
  go_wp2_with fail
  refine (jcm e _ he).mono ?_
  rintro x w2 ⟨rfl, b2⟩
  rw [HG.out]
  have K2 := jaa K1 b2
  have L2 := L1.next b2
  have E2 := E1.next b2
  have R2 := R1.next b2
  have l2 := L2.cell
  have r2 := R2.cell
  have r2f := R2.frozen
  clear l1 e1 r1
  go_wp2_with fail
  refine bodyPost_ret (v := .tuple #[.agg #[l.durable, l.pending, l.count], .int .i64 2]) (by simp [results, Tryz.results45, go_sem, r2]) rfl ?_
  rw [HR.out]
  exact ⟨rfl, jdj K2 (by omega) _ _ _⟩
 have HR := Lib.hid (show jgg l e = (⟨l.durable, l.pending ++ jck l.count.toNat e, l.count + 1⟩, 0) by simp [jgg, hv, hr, hc])
 have d1 : (l.count == (60 : Int)) = false := beq_eq_false_iff_ne.2 hc
 have h60 : l.count < 60 := by omega
 clear hv hr hc
 go_enter Tryz.func45, Tryz.ntmps45
 go_wp2_with fail
 refine (jed l _ hs).mono ?_
 rintro x w1 ⟨rfl, b1⟩
 rw [HV.out]
 have K1 := jaa K0 b1
 have L1 := L0.next b1
 have E1 := E0.next b1
 have R1 := R0.next b1
 have l1 := L1.cell
 have e1 := E1.cell
 have r1 := R1.cell
 have r1f := R1.frozen
 clear r1f
 go_wp2_with fail
 refine (jcm e _ he).mono ?_
 rintro x w2 ⟨rfl, b2⟩
 rw [HG.out]
 have K2 := jaa K1 b2
 have L2 := L1.next b2
 have E2 := E1.next b2
 have R2 := R1.next b2
 have l2 := L2.cell
 have r2 := R2.cell
 have r2f := R2.frozen
 clear l1 e1 r1
 go_wp2_with fail
 replace K2 := ja3 K2 (Quiet.one w2)
 replace L2 := L2.quiet (Quiet.one w2)
 replace E2 := E2.quiet (Quiet.one w2)
 replace R2 := R2.quiet (Quiet.one w2)
 clear l2 r2 r2f
 have l2 := L2.cell
 have e2 := E2.cell
 have l2f := L2.frozen
 refine wp_region_held_drew (S := fun w' => w'.cell? ⟨w.heap.size, 2, none⟩ = some (.int .i64 l.count) ∧ w'.cell? ⟨w.heap.size + 1, 0, none⟩ = some (.string e.command) ∧ w'.cell? ⟨w.heap.size + 1, 1, none⟩ = some (.string e.reply)) (by kernel_rfl) (by (try dsimp only); go_keep) (fun hH => ?_)
 refine wQ 0 ?_
 refine wQ 2 ?_
 refine wQ 3 ?_
 refine wQ 4 ?_
 refine wR (rs := [1, 5]) (by kernel_rfl) (by simp) ?_
 refine aC rfl (fun K hK => ?_) ?_
 ·go_simp
  refine hK.out _ _ (by (try dsimp only); go_keep) (fun hH => ?_)
  clear hK K
  try simp only [Act.put, pX]
  refine wR (rs := [5]) (by kernel_rfl) (by simp) ?_
  refine aC rfl (fun K hK => ?_) aN
  go_simp
  refine (jh0 l.count e _ h0 h60 HG.out).mono ?_
  rintro x w3 ⟨rfl, b3⟩
  have zl := jf6 (k := l.count.toNat) HG.out (by omega)
  have fl : ¬ 9223372036854775807 < l.pending.size + (jck l.count.toNat e).size := by omega
  have K3 := jaa K2 b3
  have L3 := L2.next b3
  have E3 := E2.next b3
  have R3 := R2.next b3
  have l3 := L3.cell
  have e3 := E3.cell
  have l3f := L3.frozen
  clear l2 e2 l2f
  generalize jck l.count.toNat e = t at *

  go_wp2_with fail
  refine hK.out _ _ (by (try dsimp only); go_keep) (fun hH => ?_)
  clear hK K
  refine wQ 6 ?_
  refine wQ 7 ?_
  refine wR (rs := [8]) (by kernel_rfl) (by simp) ?_
  refine aC rfl (fun K hK => ?_) aN
  go_simp
  refine hK.out _ _ (by (try dsimp only); exact ⟨(L3.set_ 1 _).cell 2, (E3.far (p := ⟨w.heap.size, 1, none⟩) (by simp) _).cell 0, (E3.far (p := ⟨w.heap.size, 1, none⟩) (by simp) _).cell 1⟩) (fun hH => ?_)
  clear hK K
  try simp only [Act.put, pX]
  refine wD (by kernel_rfl) ?_ _
  have L4 := L3.set_ 1 (.string (l.pending ++ t))
  have R4 := R3.far (p := ⟨w.heap.size, 1, none⟩) (by simp) (.string (l.pending ++ t))
  have K4 := K3.setCell (p := ⟨w.heap.size, 1, none⟩) (Nat.le_refl _) (.string (l.pending ++ t))
  clear l3 e3 l3f
  generalize w3.setCell _ _ = w4 at *
  have l4 := L4.cell
  have l4f := L4.frozen
  have r4 := R4.cell
  have r4f := R4.frozen
  have hw : IntKind.i64.wrap (l.count + 1) = l.count + 1 := IntWalk.i64_in _ (by omega)
  go_wp2_with fail
  refine bodyPost_ret (v := .tuple #[.agg #[l.durable, .string (l.pending ++ t), .int .i64 (l.count + 1)], .int .i64 0]) (by simp [results, Tryz.results45, go_sem, r4]) rfl ?_
  rw [HR.out]
  exact ⟨rfl, jdj (K4.setCell (p := ⟨w.heap.size, 2, none⟩) (Nat.le_refl _) _) (Nat.le_trans (Nat.le_succ _) (Nat.le_succ _)) _ _ _⟩
 refine aC rfl (fun K hK => ?_) aN
 ·go_simp
  refine (jh0 l.count e _ h0 h60 HG.out).mono ?_
  rintro x w3 ⟨rfl, b3⟩
  have zl := jf6 (k := l.count.toNat) HG.out (by omega)
  have fl : ¬ 9223372036854775807 < l.pending.size + (jck l.count.toNat e).size := by omega
  have K3 := jaa K2 b3
  have L3 := L2.next b3
  have E3 := E2.next b3
  have R3 := R2.next b3
  have l3 := L3.cell
  have e3 := E3.cell
  have l3f := L3.frozen
  clear l2 e2 l2f
  generalize jck l.count.toNat e = t at *

  go_wp2_with fail
  refine hK.out _ _ (by (try dsimp only); go_keep) (fun hH => ?_)
  clear hK K
  refine wR (rs := [1]) (by kernel_rfl) (by simp) ?_
  refine aC rfl (fun K hK => ?_) aN
  go_simp
  refine hK.out _ _ (by (try dsimp only); go_keep) (fun hH => ?_)
  clear hK K
  try simp only [Act.put, pX]
  refine wQ 6 ?_
  refine wQ 7 ?_
  refine wR (rs := [8]) (by kernel_rfl) (by simp) ?_
  refine aC rfl (fun K hK => ?_) aN
  go_simp
  refine hK.out _ _ (by (try dsimp only); exact ⟨(L3.set_ 1 _).cell 2, (E3.far (p := ⟨w.heap.size, 1, none⟩) (by simp) _).cell 0, (E3.far (p := ⟨w.heap.size, 1, none⟩) (by simp) _).cell 1⟩) (fun hH => ?_)
  clear hK K
  try simp only [Act.put, pX]
  refine wD (by kernel_rfl) ?_ _
  have L4 := L3.set_ 1 (.string (l.pending ++ t))
  have R4 := R3.far (p := ⟨w.heap.size, 1, none⟩) (by simp) (.string (l.pending ++ t))
  have K4 := K3.setCell (p := ⟨w.heap.size, 1, none⟩) (Nat.le_refl _) (.string (l.pending ++ t))
  clear l3 e3 l3f
  generalize w3.setCell _ _ = w4 at *
  have l4 := L4.cell
  have l4f := L4.frozen
  have r4 := R4.cell
  have r4f := R4.frozen
  have hw : IntKind.i64.wrap (l.count + 1) = l.count + 1 := IntWalk.i64_in _ (by omega)
  go_wp2_with fail
  refine bodyPost_ret (v := .tuple #[.agg #[l.durable, .string (l.pending ++ t), .int .i64 (l.count + 1)], .int .i64 0]) (by simp [results, Tryz.results45, go_sem, r4]) rfl ?_
  rw [HR.out]
  exact ⟨rfl, jdj (K4.setCell (p := ⟨w.heap.size, 2, none⟩) (Nat.le_refl _) _) (Nat.le_trans (Nat.le_succ _) (Nat.le_succ _)) _ _ _⟩
end Go.Proofs.YtflpcdffmpfdpaaGreatDoor
