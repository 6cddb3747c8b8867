/- Joined texts of this proof: CmdP, CmdA, RaceV. -/
import Derived.Test.YtflpcdffmpfdpaaGreatDoorB17
import Derived.Test.YtflpcdffmpfdpaaGreatDoorB18
import Derived.Test.YtflpcdffmpfdpaaGreatDoorB14
import Derived.Test.YtflpcdffmpfdpaaGreatDoorB13
import Derived.Test.YtflpcdffmpfdpaaGreatDoorB20
import Derived.Test.YtflpcdffmpfdpaaGreatDoorB05
import Derived.Test.YtflpcdffmpfdpaaGreatDoorB06
set_option maxRecDepth 100000
set_option maxHeartbeats 8000000
namespace Go.Proofs.YtflpcdffmpfdpaaGreatDoor
open Go.RowKit
theorem jbx {a : ByteArray} {l : List UInt8} (h : ¬ a = ⟨l.toArray⟩) : (a.toList == l) = false := by
 have h1 := jcc a ⟨l.toArray⟩
 rw [decide_eq_false h, ByteArray.toList_eq ⟨l.toArray⟩] at h1
 exact h1
def cmK (s : ByteArray) : Nat :=
 if s = ⟨#[99, 108, 111, 115, 101]⟩ then 1
 else if s = ⟨#[99, 108, 111, 99, 107]⟩ then 2
 else if s = ⟨#[111, 117, 116]⟩ then 3
 else if s = ⟨#[115, 116, 97, 116, 101, 115]⟩ then 4
 else if s = ⟨#[119, 97, 105, 116]⟩ then 5
 else if s = ⟨#[115, 116, 97, 114, 116]⟩ then 6
 else if s = ⟨#[102, 105, 110, 105, 115, 104]⟩ then 7
 else if s = ⟨#[103, 105, 118, 101]⟩ then 8
 else if s = ⟨#[99, 97, 114, 100]⟩ then 9
 else if s = ⟨#[115, 101, 101, 110]⟩ then 10
 else if s = ⟨#[112, 117, 110, 99, 104]⟩ then 11
 else if s = ⟨#[99, 111, 117, 114, 115, 101]⟩ then 12
 else 0
theorem jcd (s : ByteArray) : (cmK s = 1 ∧ s = ⟨#[99, 108, 111, 115, 101]⟩) ∨ (cmK s = 2 ∧ s = ⟨#[99, 108, 111, 99, 107]⟩) ∨ (cmK s = 3 ∧ s = ⟨#[111, 117, 116]⟩) ∨ (cmK s = 4 ∧ s = ⟨#[115, 116, 97, 116, 101, 115]⟩) ∨ (cmK s = 5 ∧ s = ⟨#[119, 97, 105, 116]⟩) ∨ (cmK s = 6 ∧ s = ⟨#[115, 116, 97, 114, 116]⟩) ∨ (cmK s = 7 ∧ s = ⟨#[102, 105, 110, 105, 115, 104]⟩) ∨ (cmK s = 8 ∧ s = ⟨#[103, 105, 118, 101]⟩) ∨ (cmK s = 9 ∧ s = ⟨#[99, 97, 114, 100]⟩) ∨ (cmK s = 10 ∧ s = ⟨#[115, 101, 101, 110]⟩) ∨ (cmK s = 11 ∧ s = ⟨#[112, 117, 110, 99, 104]⟩) ∨ (cmK s = 12 ∧ s = ⟨#[99, 111, 117, 114, 115, 101]⟩) ∨ (cmK s = 0 ∧ (s.toList == [99, 108, 111, 115, 101]) = false ∧ (s.toList == [99, 108, 111, 99, 107]) = false ∧ (s.toList == [111, 117, 116]) = false ∧ (s.toList == [115, 116, 97, 116, 101, 115]) = false ∧ (s.toList == [119, 97, 105, 116]) = false ∧ (s.toList == [115, 116, 97, 114, 116]) = false ∧ (s.toList == [102, 105, 110, 105, 115, 104]) = false ∧ (s.toList == [103, 105, 118, 101]) = false ∧ (s.toList == [99, 97, 114, 100]) = false ∧ (s.toList == [115, 101, 101, 110]) = false ∧ (s.toList == [112, 117, 110, 99, 104]) = false ∧ (s.toList == [99, 111, 117, 114, 115, 101]) = false) := by
 by_cases h1 : s = ⟨#[99, 108, 111, 115, 101]⟩
 ·exact Or.inl ⟨by subst h1; decide, h1⟩
 by_cases h2 : s = ⟨#[99, 108, 111, 99, 107]⟩
 ·exact Or.inr <| Or.inl ⟨by subst h2; decide, h2⟩
 by_cases h3 : s = ⟨#[111, 117, 116]⟩
 ·exact Or.inr <| Or.inr <| Or.inl ⟨by subst h3; decide, h3⟩
 by_cases h4 : s = ⟨#[115, 116, 97, 116, 101, 115]⟩
 ·exact Or.inr <| Or.inr <| Or.inr <| Or.inl ⟨by subst h4; decide, h4⟩
 by_cases h5 : s = ⟨#[119, 97, 105, 116]⟩
 ·exact Or.inr <| Or.inr <| Or.inr <| Or.inr <| Or.inl ⟨by subst h5; decide, h5⟩
 by_cases h6 : s = ⟨#[115, 116, 97, 114, 116]⟩
 ·exact Or.inr <| Or.inr <| Or.inr <| Or.inr <| Or.inr <| Or.inl ⟨by subst h6; decide, h6⟩
 by_cases h7 : s = ⟨#[102, 105, 110, 105, 115, 104]⟩
 ·exact Or.inr <| Or.inr <| Or.inr <| Or.inr <| Or.inr <| Or.inr <| Or.inl ⟨by subst h7; decide, h7⟩
 by_cases h8 : s = ⟨#[103, 105, 118, 101]⟩
 ·exact Or.inr <| Or.inr <| Or.inr <| Or.inr <| Or.inr <| Or.inr <| Or.inr <| Or.inl ⟨by subst h8; decide, h8⟩
 by_cases h9 : s = ⟨#[99, 97, 114, 100]⟩
 ·exact Or.inr <| Or.inr <| Or.inr <| Or.inr <| Or.inr <| Or.inr <| Or.inr <| Or.inr <| Or.inl ⟨by subst h9; decide, h9⟩
 by_cases h10 : s = ⟨#[115, 101, 101, 110]⟩
 ·exact Or.inr <| Or.inr <| Or.inr <| Or.inr <| Or.inr <| Or.inr <| Or.inr <| Or.inr <| Or.inr <| Or.inl ⟨by subst h10; decide, h10⟩
 by_cases h11 : s = ⟨#[112, 117, 110, 99, 104]⟩
 ·exact Or.inr <| Or.inr <| Or.inr <| Or.inr <| Or.inr <| Or.inr <| Or.inr <| Or.inr <| Or.inr <| Or.inr <| Or.inl ⟨by subst h11; decide, h11⟩
 by_cases h12 : s = ⟨#[99, 111, 117, 114, 115, 101]⟩
 ·exact Or.inr <| Or.inr <| Or.inr <| Or.inr <| Or.inr <| Or.inr <| Or.inr <| Or.inr <| Or.inr <| Or.inr <| Or.inr <| Or.inl ⟨by subst h12; decide, h12⟩
 ·refine Or.inr <| Or.inr <| Or.inr <| Or.inr <| Or.inr <| Or.inr <| Or.inr <| Or.inr <| Or.inr <| Or.inr <| Or.inr <| Or.inr <| ⟨by unfold cmK; simp only [h1, h2, h3, h4, h5, h6, h7, h8, h9, h10, h11, h12, if_false], jbx h1, jbx h2, jbx h3, jbx h4, jbx h5, jbx h6, jbx h7, jbx h8, jbx h9, jbx h10, jbx h11, jbx h12⟩
def jaz : Nat → Int × Int × Bool
 | 1 | 2 | 3 | 4 => (0, 0, true)
 | 5 | 6 | 7 | 8 | 9 | 10 => (1, 1, true)
 | 11 => (2, 2, true)
 | 12 => (1, 4000, true)
 | _ => (0, 0, false)
def jdw (k : Nat) (l : List Int) : Option (Int × Int × Int) := match k with
 | 5 => some (1, 0, l.getD 0 0)
 | 6 => some (2, l.getD 0 0, 0)
 | 11 => some (3, l.getD 0 0, l.getD 1 0)
 | 7 => some (4, l.getD 0 0, 0)
 | 8 => some (5, l.getD 0 0, 0)
 | 1 => some (6, 0, 0)
 | _ => none
def jjn (r : RaceV) (e : Int) : Option ByteArray := if inB e 0 ((r.field.length : Int) - 1) then match r.field[e.toNat]? with | some x => jd1 x.card | none => none else none
def jgo (r : RaceV) (l : List Int) : Option ByteArray := match jeu r with
 | none => none
 | some rs => (jb9 rs l 36000).map jbq
def jew (r : RaceV) (k : Nat) (l : List Int) : Option ByteArray := match k with
 | 2 => some (jbe r.clock)
 | 3 => (jcw r).map jbq
 | 4 => (jbw r).map jbq
 | 9 => jjn r (l.getD 0 0)
 | 10 => (jbz r (l.getD 0 0)).map fun p => jbq [p.1, p.2]
 | _ => jgo r l
def jcl (r : RaceV) (k e : Int) : ByteArray :=
 if k = 3 then (match r.field[e.toNat]? with | some x => jbe x.punches.length | none => ⟨#[]⟩)
 else if k = 4 then (match r.field[e.toNat]? with | some x => jbe (x.finish - x.start) | none => ⟨#[]⟩)
 else if k = 5 then ⟨#[111, 107]⟩
 else if k = 6 then ⟨#[99, 108, 111, 115, 101, 100]⟩
 else jbe r.clock
def jao : List ByteArray → Option (List Int)
 | [] => some []
 | s :: r => match ja1 s, jao r with
  | some x, some l => some (x :: l)
  | _, _ => none
def jop (r : RaceV) (k : Nat) (l : List Int) : RaceV × Option ByteArray := match jdw k l with
 | none => (r, jew r k l)
 | some (a, e, v) => match jdh r a e v with
  | none => (r, none)
  | some r2 => (r2, some (jcl r2 a e))
def jbl (r : RaceV) (line : ByteArray) : RaceV × Option ByteArray :=
 if (jaz (cmK ((jbb 32 line).headD ⟨#[]⟩))).2.2 = true ∧ inB (((jbb 32 line).length : Int) - 1) (jaz (cmK ((jbb 32 line).headD ⟨#[]⟩))).1 (jaz (cmK ((jbb 32 line).headD ⟨#[]⟩))).2.1 = true then
  match jao (jbb 32 line).tail with
  | none => (r, none)
  | some l => jop r (cmK ((jbb 32 line).headD ⟨#[]⟩)) l
 else (r, none)
def jp3 (p : ByteArray) : ByteArray := if 200 < p.size then ⟨#[108, 111, 110, 103]⟩ else p
structure Done where
 race : RaceV
 log : Log
 reply : ByteArray
def ja7 (r : RaceV) (line : ByteArray) : ByteArray := jp3 ((jbl r line).2.getD ⟨#[63]⟩)
def exM (r : RaceV) (l : Log) (line : ByteArray) : Done :=
 if (ja0 r && ja9 l) = false then ⟨r, l, ⟨#[110, 111]⟩⟩
 else if jgb ⟨line, ⟨#[]⟩⟩ = false then ⟨r, l, ⟨#[98, 97, 100]⟩⟩
 else if l.count = 60 then ⟨r, l, ⟨#[102, 117, 108, 108]⟩⟩
 else ⟨(jbl r line).1, (jgg l ⟨line, ja7 r line⟩).1, ja7 r line⟩
theorem jge {a : List ByteArray} {s : ByteArray} {l : List Int} {x : Int} (h : jao a = some l) (hs : ja1 s = some x) : jao (a ++ [s]) = some (l ++ [x]) := by
 induction a generalizing l with
 | nil =>
  cases h
  simp [jao, hs]
 | cons b a ih =>
  unfold jao at h
  cases hb : ja1 b with
  | none => rw [hb] at h; cases h
  | some y =>
   cases ha : jao a with
   | none => rw [hb, ha] at h; cases h
   | some m =>
    rw [hb, ha] at h
    injection h with h
    subst h
    rw [List.cons_append]
    unfold jao
    rw [hb, ih ha]
    rfl
theorem jg0 {s : ByteArray} (hs : ja1 s = none) : ∀ {a : List ByteArray}, s ∈ a → jao a = none := by
 intro a h
 induction a with
 | nil => cases h
 | cons b a ih =>
  unfold jao
  rcases List.mem_cons.1 h with rfl | h
  ·rw [hs]
  ·rw [ih h]
   cases ja1 b <;> rfl
theorem jgv {a : List ByteArray} {l : List Int} (h : jao a = some l) : l.length = a.length := by
 induction a generalizing l with
 | nil => cases h; rfl
 | cons b a ih =>
  unfold jao at h
  cases hb : ja1 b with
  | none => rw [hb] at h; cases h
  | some y =>
   cases ha : jao a with
   | none => rw [hb, ha] at h; cases h
   | some m =>
    rw [hb, ha] at h
    injection h with h
    subst h
    rw [List.length_cons, List.length_cons, ih ha]
theorem jh8 (s : ByteArray) (w : World) : Calls Tryz.prog 93 #[.string s] w fun e w' => e = .returned (.tuple #[.int .i64 (jaz (cmK s)).1, .int .i64 (jaz (cmK s)).2.1, .bool (jaz (cmK s)).2.2]) ∧ w = w' := by
 rcases jcd s with ⟨hk, rfl⟩ | ⟨hk, rfl⟩ | ⟨hk, rfl⟩ | ⟨hk, rfl⟩ | ⟨hk, rfl⟩ | ⟨hk, rfl⟩ | ⟨hk, rfl⟩ | ⟨hk, rfl⟩ | ⟨hk, rfl⟩ | ⟨hk, rfl⟩ | ⟨hk, rfl⟩ | ⟨hk, rfl⟩ | ⟨hk, q1, q2, q3, q4, q5, q6, q7, q8, q9, q10, q11, q12⟩
 ·rw [hk]
  clear hk
  go_enter Tryz.func93, Tryz.ntmps93
  go_wp2_with fail
  go_ret3
  exact ⟨rfl, rfl⟩
 ·rw [hk]
  clear hk
  go_enter Tryz.func93, Tryz.ntmps93
  go_wp2_with fail
  go_ret3
  exact ⟨rfl, rfl⟩
 ·rw [hk]
  clear hk
  go_enter Tryz.func93, Tryz.ntmps93
  go_wp2_with fail
  go_ret3
  exact ⟨rfl, rfl⟩
 ·rw [hk]
  clear hk
  go_enter Tryz.func93, Tryz.ntmps93
  go_wp2_with fail
  go_ret3
  exact ⟨rfl, rfl⟩
 ·rw [hk]
  clear hk
  go_enter Tryz.func93, Tryz.ntmps93
  go_wp2_with fail
  go_ret3
  exact ⟨rfl, rfl⟩
 ·rw [hk]
  clear hk
  go_enter Tryz.func93, Tryz.ntmps93
  go_wp2_with fail
  go_ret3
  exact ⟨rfl, rfl⟩
 ·rw [hk]
  clear hk
  go_enter Tryz.func93, Tryz.ntmps93
  go_wp2_with fail
  go_ret3
  exact ⟨rfl, rfl⟩
 ·rw [hk]
  clear hk
  go_enter Tryz.func93, Tryz.ntmps93
  go_wp2_with fail
  go_ret3
  exact ⟨rfl, rfl⟩
 ·rw [hk]
  clear hk
  go_enter Tryz.func93, Tryz.ntmps93
  go_wp2_with fail
  go_ret3
  exact ⟨rfl, rfl⟩
 ·rw [hk]
  clear hk
  go_enter Tryz.func93, Tryz.ntmps93
  go_wp2_with fail
  go_ret3
  exact ⟨rfl, rfl⟩
 ·rw [hk]
  clear hk
  go_enter Tryz.func93, Tryz.ntmps93
  go_wp2_with fail
  go_ret3
  exact ⟨rfl, rfl⟩
 ·rw [hk]
  clear hk
  go_enter Tryz.func93, Tryz.ntmps93
  go_wp2_with fail
  go_ret3
  exact ⟨rfl, rfl⟩
 ·rw [hk]
  clear hk
  go_enter Tryz.func93, Tryz.ntmps93
  go_wp2_with fail
  go_ret3
  exact ⟨rfl, rfl⟩
theorem joc (s : ByteArray) (B : Option Addr) (m c : Nat) (l : List Int) (w : World) (hy : Sees w 0 1 B m (jb4 l)) (hm : (jaz (cmK s)).1 ≤ (m : Int)) :
  Calls Tryz.prog 95 #[.string s, .slice B m c] w fun e w' => e = .returned (.tuple #[.agg #[.int .i64 ((jdw (cmK s) l).getD (0, 0, 0)).1, .int .i64 ((jdw (cmK s) l).getD (0, 0, 0)).2.1, .int .i64 ((jdw (cmK s) l).getD (0, 0, 0)).2.2], .bool (jdw (cmK s) l).isSome]) ∧ Below w.heap.size w w' := by
 have K0 := nB w (.cells #[.int .i64 0, .int .i64 0, .int .i64 0] 124)
 have P0 := nP w [.int .i64 0, .int .i64 0, .int .i64 0] 124
 rcases jcd s with ⟨hk, rfl⟩ | ⟨hk, rfl⟩ | ⟨hk, rfl⟩ | ⟨hk, rfl⟩ | ⟨hk, rfl⟩ | ⟨hk, rfl⟩ | ⟨hk, rfl⟩ | ⟨hk, rfl⟩ | ⟨hk, rfl⟩ | ⟨hk, rfl⟩ | ⟨hk, rfl⟩ | ⟨hk, rfl⟩ | ⟨hk, q1, q2, q3, q4, q5, q6, q7, q8, q9, q10, q11, q12⟩
 ·rw [hk] at hm ⊢
  clear hk
  clear hm
  have HR := Lib.hid (show jdw 1 l = some (6, 0, 0) from rfl)
  go_enter Tryz.func95, Tryz.ntmps95
  go_upto_region 1 with fail
  generalize w.alloc _ = w1 at *
  have pc := P0.cell
  have pf := P0.frozen
  go_wp2_with fail
  have ZF := (((P0.set_ 0 (.int .i64 6)).set_ 1 (.int .i64 0)).set_ 2 (.int .i64 0))
  have EF := ((((Only.refl (fun b => b = w.heap.size) w1).setCell (p := ⟨w.heap.size, 0, none⟩) rfl (.int .i64 6)).setCell (p := ⟨w.heap.size, 1, none⟩) rfl (.int .i64 0)).setCell (p := ⟨w.heap.size, 2, none⟩) rfl (.int .i64 0))
  clear pc pf
  have zc := ZF.cell
  refine bodyPost_ret (v := .tuple #[.agg #[.int .i64 6, .int .i64 0, .int .i64 0], .bool true]) (by simp [results, Tryz.results95, go_sem, zc]) rfl ?_
  rw [HR.out]
  exact ⟨rfl, K0.trans (EF.below (fun b hb => by omega) K0.size)⟩
 ·rw [hk] at hm ⊢
  clear hk
  go_enter Tryz.func95, Tryz.ntmps95
  go_upto_region 1 with fail
  generalize w.alloc _ = w1 at *
  have pc := P0.cell
  have pf := P0.frozen
  go_wp2_with fail
  have ZF := (((P0.set_ 0 (.int .i64 0)).set_ 1 (.int .i64 0)).set_ 2 (.int .i64 0))
  have EF := ((((Only.refl (fun b => b = w.heap.size) w1).setCell (p := ⟨w.heap.size, 0, none⟩) rfl (.int .i64 0)).setCell (p := ⟨w.heap.size, 1, none⟩) rfl (.int .i64 0)).setCell (p := ⟨w.heap.size, 2, none⟩) rfl (.int .i64 0))
  clear pc pf
  have zc := ZF.cell
  refine bodyPost_ret (v := .tuple #[.agg #[.int .i64 0, .int .i64 0, .int .i64 0], .bool false]) (by simp [results, Tryz.results95, go_sem, zc]) rfl ?_
  exact ⟨rfl, K0.trans (EF.below (fun b hb => by omega) K0.size)⟩
 ·rw [hk] at hm ⊢
  clear hk
  go_enter Tryz.func95, Tryz.ntmps95
  go_upto_region 1 with fail
  generalize w.alloc _ = w1 at *
  have pc := P0.cell
  have pf := P0.frozen
  go_wp2_with fail
  have ZF := (((P0.set_ 0 (.int .i64 0)).set_ 1 (.int .i64 0)).set_ 2 (.int .i64 0))
  have EF := ((((Only.refl (fun b => b = w.heap.size) w1).setCell (p := ⟨w.heap.size, 0, none⟩) rfl (.int .i64 0)).setCell (p := ⟨w.heap.size, 1, none⟩) rfl (.int .i64 0)).setCell (p := ⟨w.heap.size, 2, none⟩) rfl (.int .i64 0))
  clear pc pf
  have zc := ZF.cell
  refine bodyPost_ret (v := .tuple #[.agg #[.int .i64 0, .int .i64 0, .int .i64 0], .bool false]) (by simp [results, Tryz.results95, go_sem, zc]) rfl ?_
  exact ⟨rfl, K0.trans (EF.below (fun b hb => by omega) K0.size)⟩
 ·rw [hk] at hm ⊢
  clear hk
  go_enter Tryz.func95, Tryz.ntmps95
  go_upto_region 1 with fail
  generalize w.alloc _ = w1 at *
  have pc := P0.cell
  have pf := P0.frozen
  go_wp2_with fail
  have ZF := (((P0.set_ 0 (.int .i64 0)).set_ 1 (.int .i64 0)).set_ 2 (.int .i64 0))
  have EF := ((((Only.refl (fun b => b = w.heap.size) w1).setCell (p := ⟨w.heap.size, 0, none⟩) rfl (.int .i64 0)).setCell (p := ⟨w.heap.size, 1, none⟩) rfl (.int .i64 0)).setCell (p := ⟨w.heap.size, 2, none⟩) rfl (.int .i64 0))
  clear pc pf
  have zc := ZF.cell
  refine bodyPost_ret (v := .tuple #[.agg #[.int .i64 0, .int .i64 0, .int .i64 0], .bool false]) (by simp [results, Tryz.results95, go_sem, zc]) rfl ?_
  exact ⟨rfl, K0.trans (EF.below (fun b hb => by omega) K0.size)⟩
 ·rw [hk] at hm ⊢
  clear hk
  have hm0 : 1 ≤ m := by have := hm; simp only [jaz] at this; omega
  clear hm
  obtain ⟨b0, o0, rfl, hx0, x0⟩ := hy.int (show 0 < m by omega)
  have g0 : l[0] = l.getD 0 0 := by rw [List.getD_eq_getElem?_getD, List.getElem?_eq_getElem hx0]; rfl
  rw [g0] at x0
  clear g0
  have hb0 := World.block_lt_of_cell? w _ x0
  replace x0 := (K0.cell (p := ⟨b0, o0 + 0, none⟩) hb0).trans x0
  have hz0 : (0 : Int) < (m : Int) := by omega
  simp only [Nat.add_zero] at x0
  have HR := Lib.hid (show jdw 5 l = some (1, 0, l.getD 0 0) from rfl)
  generalize l.getD 0 0 = y0 at *
  go_enter Tryz.func95, Tryz.ntmps95
  go_upto_region 1 with fail
  generalize w.alloc _ = w1 at *
  have pc := P0.cell
  have pf := P0.frozen
  go_wp2_with fail
  have ZF := (((P0.set_ 0 (.int .i64 1)).set_ 1 (.int .i64 0)).set_ 2 (.int .i64 y0))
  have EF := ((((Only.refl (fun b => b = w.heap.size) w1).setCell (p := ⟨w.heap.size, 0, none⟩) rfl (.int .i64 1)).setCell (p := ⟨w.heap.size, 1, none⟩) rfl (.int .i64 0)).setCell (p := ⟨w.heap.size, 2, none⟩) rfl (.int .i64 y0))
  clear pc pf
  have zc := ZF.cell
  refine bodyPost_ret (v := .tuple #[.agg #[.int .i64 1, .int .i64 0, y0], .bool true]) (by simp [results, Tryz.results95, go_sem, zc]) rfl ?_
  rw [HR.out]
  exact ⟨rfl, K0.trans (EF.below (fun b hb => by omega) K0.size)⟩
 ·rw [hk] at hm ⊢
  clear hk
  have hm0 : 1 ≤ m := by have := hm; simp only [jaz] at this; omega
  clear hm
  obtain ⟨b0, o0, rfl, hx0, x0⟩ := hy.int (show 0 < m by omega)
  have g0 : l[0] = l.getD 0 0 := by rw [List.getD_eq_getElem?_getD, List.getElem?_eq_getElem hx0]; rfl
  rw [g0] at x0
  clear g0
  have hb0 := World.block_lt_of_cell? w _ x0
  replace x0 := (K0.cell (p := ⟨b0, o0 + 0, none⟩) hb0).trans x0
  have hz0 : (0 : Int) < (m : Int) := by omega
  simp only [Nat.add_zero] at x0
  have HR := Lib.hid (show jdw 6 l = some (2, l.getD 0 0, 0) from rfl)
  generalize l.getD 0 0 = y0 at *
  go_enter Tryz.func95, Tryz.ntmps95
  go_upto_region 1 with fail
  generalize w.alloc _ = w1 at *
  have pc := P0.cell
  have pf := P0.frozen
  go_wp2_with fail
  have ZF := (((P0.set_ 0 (.int .i64 2)).set_ 1 (.int .i64 y0)).set_ 2 (.int .i64 0))
  have EF := ((((Only.refl (fun b => b = w.heap.size) w1).setCell (p := ⟨w.heap.size, 0, none⟩) rfl (.int .i64 2)).setCell (p := ⟨w.heap.size, 1, none⟩) rfl (.int .i64 y0)).setCell (p := ⟨w.heap.size, 2, none⟩) rfl (.int .i64 0))
  clear pc pf
  have zc := ZF.cell
  refine bodyPost_ret (v := .tuple #[.agg #[.int .i64 2, y0, .int .i64 0], .bool true]) (by simp [results, Tryz.results95, go_sem, zc]) rfl ?_
  rw [HR.out]
  exact ⟨rfl, K0.trans (EF.below (fun b hb => by omega) K0.size)⟩
 ·rw [hk] at hm ⊢
  clear hk
  have hm0 : 1 ≤ m := by have := hm; simp only [jaz] at this; omega
  clear hm
  obtain ⟨b0, o0, rfl, hx0, x0⟩ := hy.int (show 0 < m by omega)
  have g0 : l[0] = l.getD 0 0 := by rw [List.getD_eq_getElem?_getD, List.getElem?_eq_getElem hx0]; rfl
  rw [g0] at x0
  clear g0
  have hb0 := World.block_lt_of_cell? w _ x0
  replace x0 := (K0.cell (p := ⟨b0, o0 + 0, none⟩) hb0).trans x0
  have hz0 : (0 : Int) < (m : Int) := by omega
  simp only [Nat.add_zero] at x0
  have HR := Lib.hid (show jdw 7 l = some (4, l.getD 0 0, 0) from rfl)
  generalize l.getD 0 0 = y0 at *
  go_enter Tryz.func95, Tryz.ntmps95
  go_upto_region 1 with fail
  generalize w.alloc _ = w1 at *
  have pc := P0.cell
  have pf := P0.frozen
  go_wp2_with fail
  have ZF := (((P0.set_ 0 (.int .i64 4)).set_ 1 (.int .i64 y0)).set_ 2 (.int .i64 0))
  have EF := ((((Only.refl (fun b => b = w.heap.size) w1).setCell (p := ⟨w.heap.size, 0, none⟩) rfl (.int .i64 4)).setCell (p := ⟨w.heap.size, 1, none⟩) rfl (.int .i64 y0)).setCell (p := ⟨w.heap.size, 2, none⟩) rfl (.int .i64 0))
  clear pc pf
  have zc := ZF.cell
  refine bodyPost_ret (v := .tuple #[.agg #[.int .i64 4, y0, .int .i64 0], .bool true]) (by simp [results, Tryz.results95, go_sem, zc]) rfl ?_
  rw [HR.out]
  exact ⟨rfl, K0.trans (EF.below (fun b hb => by omega) K0.size)⟩
 ·rw [hk] at hm ⊢
  clear hk
  have hm0 : 1 ≤ m := by have := hm; simp only [jaz] at this; omega
  clear hm
  obtain ⟨b0, o0, rfl, hx0, x0⟩ := hy.int (show 0 < m by omega)
  have g0 : l[0] = l.getD 0 0 := by rw [List.getD_eq_getElem?_getD, List.getElem?_eq_getElem hx0]; rfl
  rw [g0] at x0
  clear g0
  have hb0 := World.block_lt_of_cell? w _ x0
  replace x0 := (K0.cell (p := ⟨b0, o0 + 0, none⟩) hb0).trans x0
  have hz0 : (0 : Int) < (m : Int) := by omega
  simp only [Nat.add_zero] at x0
  have HR := Lib.hid (show jdw 8 l = some (5, l.getD 0 0, 0) from rfl)
  generalize l.getD 0 0 = y0 at *
  go_enter Tryz.func95, Tryz.ntmps95
  go_upto_region 1 with fail
  generalize w.alloc _ = w1 at *
  have pc := P0.cell
  have pf := P0.frozen
  go_wp2_with fail
  have ZF := (((P0.set_ 0 (.int .i64 5)).set_ 1 (.int .i64 y0)).set_ 2 (.int .i64 0))
  have EF := ((((Only.refl (fun b => b = w.heap.size) w1).setCell (p := ⟨w.heap.size, 0, none⟩) rfl (.int .i64 5)).setCell (p := ⟨w.heap.size, 1, none⟩) rfl (.int .i64 y0)).setCell (p := ⟨w.heap.size, 2, none⟩) rfl (.int .i64 0))
  clear pc pf
  have zc := ZF.cell
  refine bodyPost_ret (v := .tuple #[.agg #[.int .i64 5, y0, .int .i64 0], .bool true]) (by simp [results, Tryz.results95, go_sem, zc]) rfl ?_
  rw [HR.out]
  exact ⟨rfl, K0.trans (EF.below (fun b hb => by omega) K0.size)⟩
 ·rw [hk] at hm ⊢
  clear hk
  go_enter Tryz.func95, Tryz.ntmps95
  go_upto_region 1 with fail
  generalize w.alloc _ = w1 at *
  have pc := P0.cell
  have pf := P0.frozen
  go_wp2_with fail
  have ZF := (((P0.set_ 0 (.int .i64 0)).set_ 1 (.int .i64 0)).set_ 2 (.int .i64 0))
  have EF := ((((Only.refl (fun b => b = w.heap.size) w1).setCell (p := ⟨w.heap.size, 0, none⟩) rfl (.int .i64 0)).setCell (p := ⟨w.heap.size, 1, none⟩) rfl (.int .i64 0)).setCell (p := ⟨w.heap.size, 2, none⟩) rfl (.int .i64 0))
  clear pc pf
  have zc := ZF.cell
  refine bodyPost_ret (v := .tuple #[.agg #[.int .i64 0, .int .i64 0, .int .i64 0], .bool false]) (by simp [results, Tryz.results95, go_sem, zc]) rfl ?_
  exact ⟨rfl, K0.trans (EF.below (fun b hb => by omega) K0.size)⟩
 ·rw [hk] at hm ⊢
  clear hk
  go_enter Tryz.func95, Tryz.ntmps95
  go_upto_region 1 with fail
  generalize w.alloc _ = w1 at *
  have pc := P0.cell
  have pf := P0.frozen
  go_wp2_with fail
  have ZF := (((P0.set_ 0 (.int .i64 0)).set_ 1 (.int .i64 0)).set_ 2 (.int .i64 0))
  have EF := ((((Only.refl (fun b => b = w.heap.size) w1).setCell (p := ⟨w.heap.size, 0, none⟩) rfl (.int .i64 0)).setCell (p := ⟨w.heap.size, 1, none⟩) rfl (.int .i64 0)).setCell (p := ⟨w.heap.size, 2, none⟩) rfl (.int .i64 0))
  clear pc pf
  have zc := ZF.cell
  refine bodyPost_ret (v := .tuple #[.agg #[.int .i64 0, .int .i64 0, .int .i64 0], .bool false]) (by simp [results, Tryz.results95, go_sem, zc]) rfl ?_
  exact ⟨rfl, K0.trans (EF.below (fun b hb => by omega) K0.size)⟩
 ·rw [hk] at hm ⊢
  clear hk
  have hm0 : 2 ≤ m := by have := hm; simp only [jaz] at this; omega
  clear hm
  obtain ⟨b0, o0, rfl, hx0, x0⟩ := hy.int (show 0 < m by omega)
  obtain ⟨b1, o1, he1, hx1, x1⟩ := hy.int (show 1 < m by omega)
  injection he1 with he1
  injection he1 with h1 h2
  subst h1 h2
  have g0 : l[0] = l.getD 0 0 := by rw [List.getD_eq_getElem?_getD, List.getElem?_eq_getElem hx0]; rfl
  rw [g0] at x0
  clear g0
  have hb0 := World.block_lt_of_cell? w _ x0
  replace x0 := (K0.cell (p := ⟨b0, o0 + 0, none⟩) hb0).trans x0
  have g1 : l[1] = l.getD 1 0 := by rw [List.getD_eq_getElem?_getD, List.getElem?_eq_getElem hx1]; rfl
  rw [g1] at x1
  clear g1
  have hb1 := World.block_lt_of_cell? w _ x1
  replace x1 := (K0.cell (p := ⟨b0, o0 + 1, none⟩) hb1).trans x1
  have hz0 : (0 : Int) < (m : Int) := by omega
  have hz1 : (1 : Int) < (m : Int) := by omega
  simp only [Nat.add_zero] at x0
  have HR := Lib.hid (show jdw 11 l = some (3, l.getD 0 0, l.getD 1 0) from rfl)
  generalize l.getD 0 0 = y0 at *
  generalize l.getD 1 0 = y1 at *
  go_enter Tryz.func95, Tryz.ntmps95
  go_upto_region 1 with fail
  generalize w.alloc _ = w1 at *
  have pc := P0.cell
  have pf := P0.frozen
  go_upto_region 7 with fail
  go_region
  all_goals (go_wp2_with fail)
  have ZF := (((P0.set_ 0 (.int .i64 3)).set_ 1 (.int .i64 y0)).set_ 2 (.int .i64 y1))
  have EF := ((((Only.refl (fun b => b = w.heap.size) w1).setCell (p := ⟨w.heap.size, 0, none⟩) rfl (.int .i64 3)).setCell (p := ⟨w.heap.size, 1, none⟩) rfl (.int .i64 y0)).setCell (p := ⟨w.heap.size, 2, none⟩) rfl (.int .i64 y1))
  clear pc pf
  have zc := ZF.cell
  refine bodyPost_ret (v := .tuple #[.agg #[.int .i64 3, y0, y1], .bool true]) (by simp [results, Tryz.results95, go_sem, zc]) rfl ?_
  rw [HR.out]
  exact ⟨rfl, ja3 (K0.trans (EF.below (fun b hb => by omega) K0.size)) (Quiet.one _)⟩
 ·rw [hk] at hm ⊢
  clear hk
  go_enter Tryz.func95, Tryz.ntmps95
  go_upto_region 1 with fail
  generalize w.alloc _ = w1 at *
  have pc := P0.cell
  have pf := P0.frozen
  go_wp2_with fail
  have ZF := (((P0.set_ 0 (.int .i64 0)).set_ 1 (.int .i64 0)).set_ 2 (.int .i64 0))
  have EF := ((((Only.refl (fun b => b = w.heap.size) w1).setCell (p := ⟨w.heap.size, 0, none⟩) rfl (.int .i64 0)).setCell (p := ⟨w.heap.size, 1, none⟩) rfl (.int .i64 0)).setCell (p := ⟨w.heap.size, 2, none⟩) rfl (.int .i64 0))
  clear pc pf
  have zc := ZF.cell
  refine bodyPost_ret (v := .tuple #[.agg #[.int .i64 0, .int .i64 0, .int .i64 0], .bool false]) (by simp [results, Tryz.results95, go_sem, zc]) rfl ?_
  exact ⟨rfl, K0.trans (EF.below (fun b hb => by omega) K0.size)⟩
 ·clear q2 q3 q4 q9 q10 q12
  rw [hk] at hm ⊢
  clear hk
  go_enter Tryz.func95, Tryz.ntmps95
  go_upto_region 1 with fail
  generalize w.alloc _ = w1 at *
  have pc := P0.cell
  have pf := P0.frozen
  go_wp2_with fail
  have ZF := (((P0.set_ 0 (.int .i64 0)).set_ 1 (.int .i64 0)).set_ 2 (.int .i64 0))
  have EF := ((((Only.refl (fun b => b = w.heap.size) w1).setCell (p := ⟨w.heap.size, 0, none⟩) rfl (.int .i64 0)).setCell (p := ⟨w.heap.size, 1, none⟩) rfl (.int .i64 0)).setCell (p := ⟨w.heap.size, 2, none⟩) rfl (.int .i64 0))
  clear pc pf
  have zc := ZF.cell
  refine bodyPost_ret (v := .tuple #[.agg #[.int .i64 0, .int .i64 0, .int .i64 0], .bool false]) (by simp [results, Tryz.results95, go_sem, zc]) rfl ?_
  exact ⟨rfl, K0.trans (EF.below (fun b hb => by omega) K0.size)⟩
theorem jmv {t t' : Int} {x : Card} (h : t ≤ t') (hb : jhg t x = true) : jhg t' x = true := by
 unfold jhg at *
 simp only [Bool.and_eq_true, decide_eq_true_eq, List.all_eq_true] at *
 exact ⟨⟨by omega, by omega⟩, fun p hp => by have := hb.2 p hp; omega⟩
theorem jom {t t' : Int} {cl : Bool} {i : Nat} {x : Entrant} (h : t ≤ t') (hb : jcr t cl i x = true) : jcr t' cl i x = true := by
 unfold jcr at *
 by_cases h0 : x.state = 0
 ·rw [if_pos h0] at *
  exact hb
 by_cases h4 : x.state = 4
 ·rw [if_neg h0, if_pos h4] at *
  exact hb
 rw [if_neg h0, if_neg h4] at *
 by_cases h1 : x.state = 1 ∨ x.state = 2 ∨ x.state = 3
 ·rw [if_pos h1] at *
  simp only [Bool.and_eq_true] at *
  exact ⟨hb.1, hb.2.1, hb.2.2.1, hb.2.2.2.1, jmv h hb.2.2.2.2⟩
 ·rw [if_neg h1] at hb
  cases hb
theorem jkn {t : Int} {cl : Bool} {xs : List Entrant} (h0 : 0 ≤ t) (h1 : t ≤ 36000) (h2 : 1 ≤ xs.length) (h3 : xs.length ≤ 8) (h : ∀ (i : Nat) (hi : i < xs.length), jcr t cl i xs[i] = true) : jbf t cl xs = true := by
 unfold jbf inB jc7
 simp only [Bool.and_eq_true, decide_eq_true_eq, List.all_eq_true, List.mem_range]
 exact ⟨⟨h0, h1⟩, ⟨by omega, by omega⟩, fun i hi => by rw [jhp hi]; exact h i hi⟩
theorem jnd {x : Card} (h1 : 1 ≤ x.number ∧ x.number ≤ 9999) (h2 : 0 ≤ x.start ∧ x.start ≤ 36000) (h3 : x.finish = -1 ∨ (x.start ≤ x.finish ∧ x.finish ≤ 36000)) (h4 : x.punches.length ≤ 12) (h : ∀ (k : Nat) (hk : k < x.punches.length), jbi x x.punches[k] (jcb x k) = true) : jap x = true := by
 unfold jap jee jc7 inB
 simp only [Bool.and_eq_true, Bool.or_eq_true, decide_eq_true_eq, List.all_eq_true, List.mem_range]
 exact ⟨⟨⟨⟨h1, h2⟩, h3⟩, h4⟩, fun k hk => by rw [jfq hk]; exact h k hk⟩
theorem jna {x : Card} (h : jap x = true) : (1 ≤ x.number ∧ x.number ≤ 9999) ∧ (0 ≤ x.start ∧ x.start ≤ 36000) ∧ (x.finish = -1 ∨ (x.start ≤ x.finish ∧ x.finish ≤ 36000)) ∧ x.punches.length ≤ 12 ∧ ∀ (k : Nat) (hk : k < x.punches.length), jbi x x.punches[k] (jcb x k) = true := by
 unfold jap jee jc7 inB at h
 simp only [Bool.and_eq_true, Bool.or_eq_true, decide_eq_true_eq, List.all_eq_true, List.mem_range] at h
 obtain ⟨⟨⟨⟨h1, h2⟩, h3⟩, h4⟩, h5⟩ := h
 exact ⟨h1, h2, h3, h4, fun k hk => by rw [← jfq hk]; exact h5 k hk⟩
theorem jkx {x : Card} {p : Punch} {t : Int} (h1 : jda p.code = true) (h2 : 0 ≤ p.time ∧ p.time ≤ 36000) (h3 : t ≤ p.time) (h4 : x.finish = -1 ∨ p.time ≤ x.finish) : jbi x p t = true := by
 unfold jbi inB
 simp only [Bool.and_eq_true, Bool.or_eq_true, decide_eq_true_eq]
 exact ⟨⟨⟨h1, h2⟩, h3⟩, h4⟩
theorem jj9 {x : Card} {p : Punch} {t : Int} (h : jbi x p t = true) : jda p.code = true ∧ (0 ≤ p.time ∧ p.time ≤ 36000) ∧ t ≤ p.time ∧ (x.finish = -1 ∨ p.time ≤ x.finish) := by
 unfold jbi inB at h
 simp only [Bool.and_eq_true, Bool.or_eq_true, decide_eq_true_eq] at h
 exact ⟨h.1.1.1, h.1.1.2, h.1.2, h.2⟩
theorem jm9 {t : Int} {cl : Bool} {i : Nat} {x : Entrant} (h : jcr t cl i x = true) (hs : x.state = 1) : cl = false ∧ jap x.card = true ∧ x.number = (i : Int) + 1 ∧ x.finish = -1 ∧ x.start ≤ t ∧ ∀ p ∈ x.punches, p.time ≤ t := by
 unfold jcr jhg at h
 rw [if_neg (by omega), if_neg (by omega), if_pos (Or.inl hs)] at h
 simp only [Bool.and_eq_true, decide_eq_true_eq, List.all_eq_true, hs, decide_true, Bool.true_and, Bool.not_eq_true'] at h
 obtain ⟨h1, h2, h3, h4, h5, h6⟩ := h
 have h7 : x.finish = -1 := by
  by_cases hf : x.finish = -1
  ·exact hf
  ·simp [hf] at h4
 exact ⟨h1, h2, h3, h7, h5.1, h6⟩
theorem jnk {t : Int} {cl : Bool} {i : Nat} {x : Entrant} (h0 : x.state = 1 ∨ x.state = 2 ∨ x.state = 3) (h1 : x.state = 1 → cl = false) (h2 : jap x.card = true) (h3 : x.number = (i : Int) + 1) (h4 : x.finish ≠ -1 ↔ x.state = 2) (h5 : x.start ≤ t) (h6 : x.finish ≤ t) (h7 : ∀ p ∈ x.punches, p.time ≤ t) : jcr t cl i x = true := by
 unfold jcr jhg
 rw [if_neg (by omega), if_neg (by omega), if_pos h0]
 simp only [Bool.and_eq_true, decide_eq_true_eq, List.all_eq_true]
 refine ⟨?_, h2, h3, decide_eq_decide.2 h4, ⟨h5, h6⟩, h7⟩
 by_cases hs : x.state = 1
 ·simp [h1 hs]
 ·simp [hs]
theorem jof {t e v k : Int} {cl : Bool} {i : Nat} {x y : Entrant} (ht0 : 0 ≤ t) (ht : t ≤ 36000) (hi : i < 8) (he : e = (i : Int)) (h : jcr t cl i x = true) (hs : jb6 t e x k v = some y) : jcr t cl i y = true := by
 unfold jb6 at hs
 by_cases h2 : k = 2
 ·rw [if_pos h2] at hs
  by_cases hc : x.state = 0 ∧ v = 0
  ·rw [if_pos hc] at hs
   injection hs with hs
   subst hs
   have hcl : cl = false := by
    unfold jcr at h
    rw [if_pos hc.1] at h
    simp only [Bool.and_eq_true, Bool.not_eq_true'] at h
    exact h.2
   refine jnk (Or.inl rfl) (fun _ => hcl) (jnd (x := ⟨e + 1, t, -1, []⟩) ?_ ⟨ht0, ht⟩ (Or.inl rfl) (by simp) (fun k hk => by simp at hk)) ?_ (by simp) (Int.le_refl _) (by show (-1 : Int) ≤ t; omega) (by simp)
   ·show 1 ≤ e + 1 ∧ e + 1 ≤ 9999
    omega
   ·show e + 1 = (i : Int) + 1
    omega
  ·rw [if_neg hc] at hs
   cases hs
 rw [if_neg h2] at hs
 by_cases hc : x.state = 1 ∧ (k = 3 ∨ v = 0)
 rotate_left 1
 ·rw [if_neg hc] at hs
  cases hs
 rw [if_pos hc] at hs
 obtain ⟨g1, g2, g3, g4, g5, g6⟩ := jm9 h hc.1
 obtain ⟨c1, c2, c3, c4, c5⟩ := jna g2
 by_cases h3 : k = 3
 ·rw [if_pos h3] at hs
  by_cases hv : jda v = true ∧ x.punches.length < 12
  rotate_left 1
  ·rw [if_neg hv] at hs
   cases hs
  rw [if_pos hv] at hs
  injection hs with hs
  subst hs
  have hcard : jap ⟨x.number, x.start, x.finish, x.punches ++ [⟨v, t⟩]⟩ = true := by
   refine jnd c1 c2 c3 (by show (x.punches ++ [(⟨v, t⟩ : Punch)]).length ≤ 12; rw [List.length_append]; simp only [List.length_cons, List.length_nil]; omega) (fun k hk => ?_)
   have hk' : k < x.punches.length + 1 := by simpa using hk
   have hpr : jcb (⟨x.number, x.start, x.finish, x.punches ++ [⟨v, t⟩]⟩ : Card) k = jcb x.card k := by
    cases k with
    | zero => rfl
    | succ k =>
     show (match (x.punches ++ [_])[k]? with | some p => p.time | none => 0) = (match x.punches[k]? with | some p => p.time | none => 0)
     rw [List.getElem?_append_left (by omega)]
   rw [hpr]
   by_cases hkl : k < x.punches.length
   ·have h8 := jj9 (c5 k hkl)
    show jbi _ (x.punches ++ [_])[k] _ = true
    rw [List.getElem_append_left hkl]
    exact jkx h8.1 h8.2.1 h8.2.2.1 h8.2.2.2
   ·obtain rfl : k = x.punches.length := by omega
    show jbi _ (x.punches ++ [_])[x.punches.length] _ = true
    rw [List.getElem_append_right (Nat.le_refl _)]
    simp only [Nat.sub_self, List.getElem_cons_zero]
    refine jkx hv.1 ⟨ht0, ht⟩ ?_ (Or.inl g4)
    show jcb x.card x.punches.length ≤ t
    rcases Nat.eq_zero_or_pos x.punches.length with hz | hz
    ·rw [hz]
     exact g5
    ·obtain ⟨q, hq⟩ : ∃ q, x.punches.length = q + 1 := ⟨x.punches.length - 1, by omega⟩
     have hq2 : q < x.card.punches.length := by show q < x.punches.length; omega
     rw [hq, jd5 hq2]
     exact g6 _ (List.getElem_mem hq2)
  refine jnk (Or.inl hc.1) (fun _ => g1) hcard g3 ⟨fun h => absurd g4 h, fun h => by have h9 : x.state = 2 := h; have := hc.1; omega⟩ g5 (by show x.finish ≤ t; omega) (fun p hp => ?_)
  rcases List.mem_append.1 hp with hp | hp
  ·exact g6 p hp
  ·rw [List.mem_singleton.1 hp]
   exact Int.le_refl _
 rw [if_neg h3] at hs
 by_cases h4 : k = 4
 ·rw [if_pos h4] at hs
  injection hs with hs
  subst hs
  refine jnk (Or.inr (Or.inl rfl)) (fun h => by cases h) (jnd (x := ⟨x.number, x.start, t, x.punches⟩) c1 c2 (Or.inr ⟨g5, ht⟩) c4 (fun k hk => ?_)) g3 ⟨fun _ => rfl, fun _ => by show t ≠ -1; omega⟩ g5 (Int.le_refl _) g6
  have hpr : jcb (⟨x.number, x.start, t, x.punches⟩ : Card) k = jcb x.card k := by cases k <;> rfl
  rw [hpr]
  have h8 := jj9 (c5 k hk)
  exact jkx h8.1 h8.2.1 h8.2.2.1 (Or.inr (g6 _ (List.getElem_mem hk)))
 rw [if_neg h4] at hs
 by_cases h5 : k = 5
 ·rw [if_pos h5] at hs
  injection hs with hs
  subst hs
  exact jnk (Or.inr (Or.inr rfl)) (fun h => by cases h) g2 g3 ⟨fun h => absurd g4 h, fun h => by cases h⟩ g5 (by show x.finish ≤ t; omega) g6
 ·rw [if_neg h5] at hs
  cases hs
theorem jnt {r r2 : RaceV} {k e v : Int} (h : ja0 r = true) (hs : jba r k e v = some r2) : ja0 r2 = true := by
 obtain ⟨h0, h1, h2, h3, h4⟩ := jam h
 unfold jba at hs
 by_cases k1 : k = 1
 ·rw [if_pos k1] at hs
  by_cases hc : r.closed = false ∧ e = 0 ∧ inB v 1 (36000 - r.clock) = true
  rotate_left 1
  ·rw [if_neg hc] at hs
   cases hs
  rw [if_pos hc] at hs
  injection hs with hs
  subst hs
  have hv := jaq hc.2.2
  exact jkn (by show 0 ≤ r.clock + v; omega) (by show r.clock + v ≤ 36000; omega) h2 h3 (fun i hi => jom (by show r.clock ≤ r.clock + v; omega) (h4 i hi))
 rw [if_neg k1] at hs
 by_cases k6 : k = 6
 ·rw [if_pos k6] at hs
  by_cases hc : r.closed = false ∧ e = 0 ∧ v = 0 ∧ (inL r.field 1).length = 0
  rotate_left 1
  ·rw [if_neg hc] at hs
   cases hs
  rw [if_pos hc] at hs
  injection hs with hs
  subst hs
  have hl : (jb1 r.field).length = r.field.length := by simp [jb1]
  refine jkn h0 h1 (by show 1 ≤ (jb1 r.field).length; omega) (by show (jb1 r.field).length ≤ 8; omega) (fun i hi => ?_)
  have hi' : i < r.field.length := by rw [← hl]; exact hi
  have h5 := h4 i hi'
  show jcr r.clock true i (jb1 r.field)[i] = true
  have hg : (jb1 r.field)[i]'hi = jfv r.field[i] := by simp [jb1]
  rw [hg]
  have h6 : r.field[i].state ≠ 1 := fun hq => by
   have hm : (i : Int) ∈ inL r.field 1 := ji7.2 ⟨i, rfl, hi', hq⟩
   rw [List.eq_nil_of_length_eq_zero hc.2.2.2] at hm
   cases hm
  unfold jfv
  rw [hc.1] at h5
  by_cases hz : r.field[i].state = 0
  ·rw [if_pos hz]
   unfold jcr at h5 ⊢
   rw [if_pos hz] at h5
   rw [if_neg (by show ¬ (4 : Int) = 0; omega), if_pos (show (jni r.field[i]).state = 4 from rfl)]
   simp only [Bool.and_eq_true] at h5 ⊢
   exact ⟨h5.1, trivial⟩
  ·rw [if_neg hz]
   unfold jcr at h5 ⊢
   rw [if_neg hz] at *
   by_cases hf : r.field[i].state = 4
   ·rw [if_pos hf] at h5
    simp at h5
   rw [if_neg hf] at *
   by_cases hq : r.field[i].state = 1 ∨ r.field[i].state = 2 ∨ r.field[i].state = 3
   ·rw [if_pos hq] at *
    rw [decide_eq_false h6] at *
    exact h5
   ·rw [if_neg hq] at h5
    cases h5
 rw [if_neg k6] at hs
 by_cases hr : 0 ≤ e ∧ e < (r.field.length : Int)
 rotate_left 1
 ·rw [jfm hr] at hs
  cases hs
 obtain ⟨i, hi⟩ : ∃ i : Nat, e = i := ⟨e.toNat, by omega⟩
 have hil : i < r.field.length := by omega
 rw [jfa hi hil] at hs
 cases hy : jb6 r.clock e r.field[i] k v with
 | none => rw [hy] at hs; cases hs
 | some y =>
  rw [hy] at hs
  injection hs with hs
  subst hs
  have h5 := jof h0 h1 (by omega) hi (h4 i hil) hy
  refine jkn h0 h1 (by show 1 ≤ (r.field.set i y).length; simpa using h2) (by show (r.field.set i y).length ≤ 8; simpa using h3) (fun j hj => ?_)
  have hj' : j < r.field.length := by simpa using hj
  show jcr r.clock r.closed j (r.field.set i y)[j] = true
  rw [List.getElem_set]
  by_cases hij : i = j
  ·subst hij
   rw [if_pos rfl]
   exact h5
  ·rw [if_neg hij]
   exact h4 j hj'
theorem je5 {r r2 : RaceV} {k e v : Int} (hs : jdh r k e v = some r2) : ja0 r2 = true := by
 unfold jdh at hs
 by_cases h : ja0 r = true
 ·rw [if_pos h] at hs
  exact jnt h hs
 ·rw [if_neg h] at hs
  cases hs
theorem jco {r : RaceV} (h : ja0 r = true) : ∀ x ∈ r.field, x.punches.length ≤ 12 ∧ -1 ≤ x.finish ∧ x.finish ≤ 36000 ∧ 0 ≤ x.start ∧ x.start ≤ 36000 := by
 obtain ⟨h0, h1, h2, h3, h4⟩ := jam h
 intro x hx
 obtain ⟨i, hi, rfl⟩ := List.getElem_of_mem hx
 have h5 := h4 i hi
 have hz : jbp r.field[i].card = true → r.field[i].punches.length ≤ 12 ∧ -1 ≤ r.field[i].finish ∧ r.field[i].finish ≤ 36000 ∧ 0 ≤ r.field[i].start ∧ r.field[i].start ≤ 36000 := fun hq => by
  unfold jbp Entrant.card at hq
  simp only [Bool.and_eq_true, decide_eq_true_eq] at hq
  omega
 unfold jcr at h5
 by_cases s0 : r.field[i].state = 0
 ·rw [if_pos s0] at h5
  simp only [Bool.and_eq_true] at h5
  exact hz h5.1
 by_cases s4 : r.field[i].state = 4
 ·rw [if_neg s0, if_pos s4] at h5
  simp only [Bool.and_eq_true] at h5
  exact hz h5.1
 rw [if_neg s0, if_neg s4] at h5
 by_cases s1 : r.field[i].state = 1 ∨ r.field[i].state = 2 ∨ r.field[i].state = 3
 ·rw [if_pos s1] at h5
  simp only [Bool.and_eq_true] at h5
  obtain ⟨c1, c2, c3, c4, c5⟩ := jna h5.2.1
  have e1 : r.field[i].card.start = r.field[i].start := rfl
  have e2 : r.field[i].card.finish = r.field[i].finish := rfl
  have e3 : r.field[i].card.punches = r.field[i].punches := rfl
  rw [e1] at c2 c3
  rw [e2] at c3
  rw [e3] at c4
  omega
 ·rw [if_neg s1] at h5
  cases h5
end Go.Proofs.YtflpcdffmpfdpaaGreatDoor
