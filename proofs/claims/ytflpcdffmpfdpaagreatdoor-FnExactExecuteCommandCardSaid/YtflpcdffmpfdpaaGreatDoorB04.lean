/- Joined texts of this proof: Help2, S1, Lib1, Ints, Card. -/
import Derived.Shelf.Abstract
import Derived.Test.YtflpcdffmpfdpaaGreatDoorB01
import Derived.Test.YtflpcdffmpfdpaaGreatDoorB02
set_option maxRecDepth 100000
set_option maxHeartbeats 8000000
namespace Go.Proofs.YtflpcdffmpfdpaaGreatDoor
open Go.RowKit
structure Missing where
 runner : Int
 start : Int
 seen : Int
 place : Int
deriving DecidableEq
def Missing.enc (x : Missing) : List Value := [.int .i64 x.runner, .int .i64 x.start, .int .i64 x.seen, .int .i64 x.place]
def Missing.mark (k : Int) : Missing := ⟨k, k + 1, k + 1 + 1, k + 1 + 1 + 1⟩
structure Sector where
 cell : Int
 chance : Int
deriving DecidableEq
def Sector.enc (x : Sector) : List Value := [.int .i64 x.cell, .int .i64 x.chance]
def Sector.mark (k : Int) : Sector := ⟨k, k + 1⟩
structure Answers {α : Type} (g : Nat) (lb : Array Value) (enc : α → Value) (p : α → Bool) (xs : List α) (w : World) : Prop where
 enters : ∀ args w, (callFunc g args).run Tryz.prog w = .ok (.enter g args) w
 at' : ∀ (i : Nat) (hi : i < xs.length) (W : World), Below w.heap.size w W → Calls Tryz.prog g (#[enc xs[i]] ++ lb) W fun e W' => e = .returned (.bool (p xs[i])) ∧ Below W.heap.size W W'
def FirstAt {α : Type} (p : α → Bool) (xs : List α) (r : Int) : Prop :=
 (r = -1 ∧ xs.any p = false) ∨ ∃ k : Nat, r = k ∧ ∃ hk : k < xs.length, p xs[k] = true ∧ (xs.take k).any p = false
theorem jen {α : Type} {p : α → Bool} {xs : List α} {k : Nat} (hk : k < xs.length) (h : (xs.take k).any p = false) (hp : p xs[k] = false) : (xs.take (k + 1)).any p = false := by
 rw [List.take_succ_eq_append_getElem hk, List.any_append, h]
 simp [hp]
theorem FirstAt.any {α : Type} {p : α → Bool} {xs : List α} {r : Int} (h : FirstAt p xs r) : decide (0 ≤ r) = xs.any p := by
 rcases h with ⟨rfl, h⟩ | ⟨k, rfl, hk, hp, _⟩
 ·rw [h]; rfl
 ·rw [decide_eq_true (by omega), eq_comm, List.any_eq_true]
  exact ⟨_, List.getElem_mem hk, hp⟩
theorem jkf (g : Nat) (lb : Array Value) (p : Int → Bool) (A : Option Addr) (n c : Nat) (xs : List Int) (w : World) (hx : Sees w 0 1 A n (jb4 xs)) (hn : n ≤ 140737488355328) (hp : Answers g lb (.int .i64) p xs w) :
  Calls Tryz.prog 250 #[.slice A n c, .func (.func g) #[] lb] w fun e w' => ∃ r, e = .returned (.int .i64 r) ∧ FirstAt p xs r ∧ Below w.heap.size w w' := by
 have hl := hx.icount
 have eg := hp.enters
 go_enter Tryz.func250, Tryz.ntmps250
 go_wp2_with fail
 go_loopw [8] (fun v wr => ∃ k : Nat, k ≤ n ∧ v = .int .i64 k ∧ Hid ((xs.take k).any p = false) ∧ Below w.heap.size w wr) (fun v _ => n - (intOf v).toNat)
 case atStart => exact ⟨0, Nat.zero_le _, rfl, by simp [Hid], Below.refl _ _⟩
 case round =>
  obtain ⟨k, hk, rfl, ht, hb⟩ := hrel
  by_cases hlt : k < n
  ·obtain ⟨b, off, rfl, hkx, hcx⟩ := (hx.next hb).int hlt
   go_wp2_with fail
   refine (hp.at' k hkx _ hb).mono ?_
   cases hpk : p xs[k]
   ·rintro e w1 ⟨rfl, b1⟩
    go_wp2_with fail
    go_roundw
    case rel => exact ⟨k + 1, by omega, by go_num, jen hkx ht.out hpk, jaa hb b1⟩
    case measure => simp [intOf]; omega
   ·rintro e w1 ⟨rfl, b1⟩
    go_wp2_with fail
    go_ret
    exact ⟨_, rfl, .inr ⟨k, rfl, hkx, hpk, ht.out⟩, jaa hb b1⟩
  ·go_wp2_with fail
   go_ret
   have h := ht.out
   rw [List.take_of_length_le (by omega)] at h
   exact ⟨_, rfl, .inl ⟨rfl, h⟩, hb⟩
theorem jhc (g : Nat) (lb : Array Value) (p : Int → Bool) (A : Option Addr) (n c : Nat) (xs : List Int) (w : World) (hx : Sees w 0 1 A n (jb4 xs)) (hn : n ≤ 140737488355328) (hp : Answers g lb (.int .i64) p xs w) :
  Calls Tryz.prog 238 #[.slice A n c, .func (.func g) #[] lb] w fun e w' => e = .returned (.bool (xs.any p)) ∧ Below w.heap.size w w' := by
 go_enter Tryz.func238, Tryz.ntmps238
 go_wp2_with fail
 refine (jkf g lb p A n c xs w hx hn hp).mono ?_
 rintro e w1 ⟨r, rfl, hr, b1⟩
 have hany := Lib.hid hr.any
 go_wp2_with fail
 all_goals go_ret
 all_goals exact ⟨jab hany.out, b1⟩
def jda (x : Int) : Bool := inB x 31 99
def jec (xs : List Int) : Bool := decide (xs.length ≤ 12) && xs.all jda
def jbi (x : Card) (p : Punch) (t : Int) : Bool := jda p.code && inB p.time 0 36000 && decide (t ≤ p.time) && (decide (x.finish = -1) || decide (p.time ≤ x.finish))
def jcb (x : Card) : Nat → Int
 | 0 => x.start
 | k + 1 => match x.punches[k]? with | some p => p.time | none => 0
def jpt (x : Card) (k : Nat) : Bool := match x.punches[k]? with | some p => jbi x p (jcb x k) | none => true
def jee (x : Card) : Bool := inB x.number 1 9999 && inB x.start 0 36000 && (decide (x.finish = -1) || inB x.finish x.start 36000) && decide (x.punches.length ≤ 12)
def jap (x : Card) : Bool := jee x && jc7 x.punches.length (jpt x)
theorem jd5 {x : Card} {k : Nat} (hk : k < x.punches.length) : jcb x (k + 1) = x.punches[k].time := by simp [jcb, List.getElem?_eq_getElem hk]
theorem jfq {x : Card} {k : Nat} (hk : k < x.punches.length) : jpt x k = jbi x x.punches[k] (jcb x k) := by simp [jpt, List.getElem?_eq_getElem hk]
theorem jj3 {x : Card} (h : jee x = true) : inB x.number 1 9999 = true ∧ inB x.start 0 36000 = true ∧ (x.finish = -1 ∨ inB x.finish x.start 36000 = true) ∧ x.punches.length ≤ 12 := by
 unfold jee at h
 simp only [Bool.and_eq_true, Bool.or_eq_true, decide_eq_true_eq] at h
 exact ⟨h.1.1.1, h.1.1.2, h.1.2, h.2⟩
theorem jm7 {x : Card} {p : Punch} {t : Int} (h : jbi x p t = true) : jda p.code = true ∧ inB p.time 0 36000 = true ∧ t ≤ p.time ∧ (x.finish = -1 ∨ p.time ≤ x.finish) := by
 unfold jbi at h
 simp only [Bool.and_eq_true, Bool.or_eq_true, decide_eq_true_eq] at h
 exact ⟨h.1.1.1, h.1.1.2, h.1.2, h.2⟩
theorem jno {n lo hi : Int} (h : lo ≤ n ∧ n ≤ hi) : inB n lo hi = true := by simp [inB, h]
theorem jnh {n lo hi : Int} (h : ¬ (lo ≤ n ∧ n ≤ hi)) : inB n lo hi = false := by
 cases e : inB n lo hi with
 | false => rfl
 | true => exact absurd (jaq e) h
theorem jar (n : Int) (w : World) : Calls Tryz.prog 192 #[.int .i64 n] w fun e w' => e = .returned (.bool (jda n)) ∧ w = w' := by
 go_enter Tryz.func192, Tryz.ntmps192
 go_wp2_with (go_at_call 70; refine (jaf _ _ _ _).mono ?_; rintro e w' ⟨rfl, rfl⟩)
 go_ret
 exact ⟨rfl, rfl⟩
theorem jag (n : Int) (w : World) : Calls Tryz.prog 199 #[.int .i64 n] w fun e w' => e = .returned (.bool (jda n)) ∧ w = w' := by
 go_enter Tryz.func199, Tryz.ntmps199
 go_wp2_with (go_at_call 111; refine (jae _ _ _ _).mono ?_; rintro e w' ⟨rfl, rfl⟩)
 go_ret
 exact ⟨rfl, rfl⟩
theorem jki (x : Int) (w : World) : Calls Tryz.prog 239 #[.int .i64 x] w fun e w' => e = .returned (.bool (!jda x)) ∧ w = w' := by
 go_enter Tryz.func239, Tryz.ntmps239
 go_wp2_with (go_at_call 192; refine (jar _ _).mono ?_; rintro e w' ⟨rfl, rfl⟩)
 go_ret
 exact ⟨rfl, rfl⟩
theorem jgp (xs : List Int) (w : World) : Answers 239 #[] (.int .i64) (fun x => !jda x) xs w :=
 ⟨enters_of Tryz.func239 (by kernel_rfl) rfl, fun i hi W _ => (jki xs[i] W).mono fun e W' ⟨he, hw⟩ => ⟨he, hw ▸ Below.refl _ _⟩⟩
theorem jl7 {α : Type} (p : α → Bool) (l : List α) : (!l.any fun x => !p x) = l.all p := by
 induction l with
 | nil => rfl
 | cons x l ih => simp only [List.any_cons, List.all_cons, Bool.not_or, Bool.not_not, ih]
theorem jlr (A : Option Addr) (n c : Nat) (xs : List Int) (w : World) (hx : Sees w 0 1 A n (jb4 xs)) (hn : n ≤ 1048576) :
  Calls Tryz.prog 217 #[.slice A n c] w fun e w' => e = .returned (.bool (jec xs)) ∧ Below w.heap.size w w' := by
 have hl := hx.icount
 by_cases h : n ≤ 12
 ·have HR := Lib.hid (show jec xs = xs.all jda by simp [jec, hl, h])
  have h12 : decide ((n : Int) ≤ 12) = true := decide_eq_true (by omega)
  go_enter Tryz.func217, Tryz.ntmps217
  go_wp2_with fail
  refine (jhc 239 #[] _ A n c xs _ hx (by omega) (jgp xs _)).mono ?_
  rintro e w1 ⟨rfl, b1⟩
  go_wp2_with fail
  go_ret
  exact ⟨jab (by rw [HR.out, ← jl7]), b1⟩
 ·have HR := Lib.hid (show jec xs = false by simp [jec, hl, h])
  go_enter Tryz.func217, Tryz.ntmps217
  go_wp2_with fail
  go_ret
  exact ⟨jab HR.out.symm, Below.refl _ _⟩
theorem jl6 (A : Option Addr) (n c : Nat) (xs : List Int) (w : World) (hx : Sees w 0 1 A n (jb4 xs)) (hn : n ≤ 1048576) :
  Calls Tryz.prog 163 #[.slice A n c] w fun e w' => e = .returned (.bool (jec xs)) ∧ w = w' := by
 have hl := hx.icount
 go_enter Tryz.func163, Tryz.ntmps163
 go_wp2_with fail
 go_loop [3] (fun i => ∃ k : Nat, k ≤ n ∧ i = .int .i64 k ∧ Hid ((xs.take k).all jda = true)) (fun i => n - (intOf i).toNat)
 case atStart => exact ⟨0, Nat.zero_le _, rfl, Lib.hid rfl⟩
 case round =>
  obtain ⟨k, hk, rfl, HA⟩ := hrel
  by_cases hlt : k < n
  ·obtain ⟨b, off, rfl, hkx, c0⟩ := hx.int hlt
   cases hc : jda xs[k]
   ·have HR := Lib.hid (show jec xs = false by
     have : xs.all jda = false := by rw [Bool.eq_false_iff]; intro h; have := List.all_eq_true.1 h xs[k] (List.getElem_mem hkx); rw [hc] at this; cases this
     simp [jec, this])
    go_wp2_with (go_at_call 199; refine (jag _ _).mono ?_; rintro e w' ⟨rfl, rfl⟩)
    go_ret
    exact ⟨jab HR.out.symm, rfl⟩
   ·have HA2 := Lib.hid (show (xs.take (k + 1)).all jda = true by rw [List.take_succ_eq_append_getElem hkx, List.all_append, HA.out]; simp [hc])
    go_wp2_with (go_at_call 199; refine (jag _ _).mono ?_; rintro e w' ⟨rfl, rfl⟩)
    go_round
    case rel => exact ⟨k + 1, by omega, by go_num, HA2⟩
    case measure => simp [intOf]; omega
  ·have HR := Lib.hid (show jec xs = decide ((n : Int) ≤ 12) by
    have h := HA.out
    rw [List.take_of_length_le (by omega)] at h
    simp only [jec, h, hl, Bool.and_true, decide_eq_decide]
    omega)
   go_wp2_with fail
   go_ret
   exact ⟨jab (by rw [HR.out]), rfl⟩
theorem jd6 (A : Option Addr) (n c lo : Nat) (x : Card) (w : World) (hx : Sees w lo 2 A n (x.punches.flatMap Punch.enc)) (hn : n ≤ 1048576) :
  Calls Tryz.prog 153 #[.agg #[x.number, x.start, x.finish, .slice A n c]] w fun e w' => e = .returned (.bool (jap x)) ∧ Below w.heap.size w w' := by
 have hl := hx.count (by decide) (fun _ => rfl)
 have K0 := nB w (.cells #[x.number, x.start, x.finish, .slice A n c] 106)
 have Bm0 := nP w [x.number, x.start, x.finish, .slice A n c] 106
 cases h1 : inB x.number 1 9999
 ·have HF := Lib.hid (show jap x = false by simp [jap, jee, h1])
  go_enter Tryz.func153, Tryz.ntmps153
  go_wp2_with (first | (go_at_call 70; refine (jaf _ _ _ _).mono ?_; rintro e w' ⟨rfl, rfl⟩) | (go_at_call 114; refine (jav _ _).mono ?_; rintro e w' ⟨rfl, rfl⟩) | (go_at_call 192; refine (jar _ _).mono ?_; rintro e w' ⟨rfl, rfl⟩))
  go_ret
  exact ⟨jab HF.out.symm, K0⟩
 cases h2 : inB x.start 0 36000
 ·have HF := Lib.hid (show jap x = false by simp [jap, jee, h2])
  go_enter Tryz.func153, Tryz.ntmps153
  go_wp2_with (first | (go_at_call 70; refine (jaf _ _ _ _).mono ?_; rintro e w' ⟨rfl, rfl⟩) | (go_at_call 114; refine (jav _ _).mono ?_; rintro e w' ⟨rfl, rfl⟩) | (go_at_call 192; refine (jar _ _).mono ?_; rintro e w' ⟨rfl, rfl⟩))
  go_ret
  exact ⟨jab HF.out.symm, K0⟩
 have h2b := jaq h2
 by_cases h3 : x.finish = -1
 ·have f1 : (x.finish != -1) = false := by simp [h3]
  have f2 : (x.finish == -1) = true := by simp [h3]
  by_cases h4 : n ≤ 12
  ·have HC := Lib.hid (show jap x = jc7 n (jpt x) by simp [jap, jee, h1, h2, h3, h4, hl])
   have HF3 := Lib.hid h3
   clear h3
   go_enter Tryz.func153, Tryz.ntmps153
   go_wp2_with (first | (go_at_call 70; refine (jaf _ _ _ _).mono ?_; rintro e w' ⟨rfl, rfl⟩) | (go_at_call 114; refine (jav _ _).mono ?_; rintro e w' ⟨rfl, rfl⟩) | (go_at_call 192; refine (jar _ _).mono ?_; rintro e w' ⟨rfl, rfl⟩))
   go_loopw [3, 40] (fun t i wr => ∃ k : Nat, k ≤ n ∧ i = .int .i64 k ∧ t = .int .i64 (jcb x k) ∧ 0 ≤ jcb x k ∧ jcb x k ≤ 36000 ∧ Hid (jc7 k (jpt x) = true) ∧ Blk wr w.heap.size 106 [.int .i64 x.number, .int .i64 x.start, .int .i64 x.finish, .slice A n c] ∧ Below w.heap.size w wr) (fun _ i _ => n - (intOf i).toNat)
   case atStart => exact ⟨0, Nat.zero_le _, rfl, rfl, h2b.1, h2b.2, Lib.hid rfl, Bm0, K0⟩
   case round =>
    obtain ⟨k, hk, rfl, rfl, hp0, hp1, HA, Bm, hb⟩ := hrel
    have cm := Bm.cell
    by_cases hlt : k < n
    ·obtain ⟨b, off, rfl, hkx, c0, c1⟩ := (hx.next hb).elem2 (fun _ => rfl) hlt
     have hblt := World.block_lt_of_cell? wr _ c0
     have K2 : Below w.heap.size w (wr.alloc (.cells #[.int .i64 x.punches[k].code, .int .i64 x.punches[k].time] 188)) := hb.alloc hb.size _
     have B2 := Bm.alloc (.cells #[.int .i64 x.punches[k].code, .int .i64 x.punches[k].time] 188)
     have HO := jfq hkx
     have HPS := Lib.hid (jd5 hkx)
     have hbm := Bm.lt
     cases g1 : jda x.punches[k].code
     ·have HR := Lib.hid (show jap x = false by rw [HC.out]; exact jaw hlt (HO.trans (by simp [jbi, g1])))
      clear HO
      go_wp2_with (first | (go_at_call 70; refine (jaf _ _ _ _).mono ?_; rintro e w' ⟨rfl, rfl⟩) | (go_at_call 114; refine (jav _ _).mono ?_; rintro e w' ⟨rfl, rfl⟩) | (go_at_call 192; refine (jar _ _).mono ?_; rintro e w' ⟨rfl, rfl⟩))
      go_ret
      exact ⟨jab HR.out.symm, K2⟩
     cases g2 : inB x.punches[k].time 0 36000
     ·have HR := Lib.hid (show jap x = false by rw [HC.out]; exact jaw hlt (HO.trans (by simp [jbi, g2])))
      clear HO
      go_wp2_with (first | (go_at_call 70; refine (jaf _ _ _ _).mono ?_; rintro e w' ⟨rfl, rfl⟩) | (go_at_call 114; refine (jav _ _).mono ?_; rintro e w' ⟨rfl, rfl⟩) | (go_at_call 192; refine (jar _ _).mono ?_; rintro e w' ⟨rfl, rfl⟩))
      go_ret
      exact ⟨jab HR.out.symm, K2⟩
     by_cases g3 : jcb x k ≤ x.punches[k].time
     ·have g2b := jaq g2
      have HA2 := Lib.hid (jdp HA.out (HO.trans (by simp [jbi, g1, g2, g3, HF3.out])))
      clear HO
      go_wp2_with (first | (go_at_call 70; refine (jaf _ _ _ _).mono ?_; rintro e w' ⟨rfl, rfl⟩) | (go_at_call 114; refine (jav _ _).mono ?_; rintro e w' ⟨rfl, rfl⟩) | (go_at_call 192; refine (jar _ _).mono ?_; rintro e w' ⟨rfl, rfl⟩))
      go_roundw
      case rel => exact ⟨k + 1, by omega, by go_num, by rw [HPS.out], by rw [HPS.out]; exact g2b.1, by rw [HPS.out]; exact g2b.2, HA2, B2, K2⟩
      case measure => simp [intOf]; omega
     ·have HR := Lib.hid (show jap x = false by rw [HC.out]; exact jaw hlt (HO.trans (by simp [jbi, g3])))
      clear HO
      go_wp2_with (first | (go_at_call 70; refine (jaf _ _ _ _).mono ?_; rintro e w' ⟨rfl, rfl⟩) | (go_at_call 114; refine (jav _ _).mono ?_; rintro e w' ⟨rfl, rfl⟩) | (go_at_call 192; refine (jar _ _).mono ?_; rintro e w' ⟨rfl, rfl⟩))
      go_ret
      exact ⟨jab HR.out.symm, K2⟩
    ·obtain rfl : k = n := by omega
     go_wp2_with fail
     go_ret
     exact ⟨jab (by rw [HC.out, HA.out]), hb⟩
  ·have HF := Lib.hid (show jap x = false by simp [jap, jee, h4, hl])
   clear h3
   go_enter Tryz.func153, Tryz.ntmps153
   go_wp2_with (first | (go_at_call 70; refine (jaf _ _ _ _).mono ?_; rintro e w' ⟨rfl, rfl⟩) | (go_at_call 114; refine (jav _ _).mono ?_; rintro e w' ⟨rfl, rfl⟩) | (go_at_call 192; refine (jar _ _).mono ?_; rintro e w' ⟨rfl, rfl⟩))
   go_ret
   exact ⟨jab HF.out.symm, K0⟩
 ·have f1 : (x.finish != -1) = true := by simp [h3]
  have f2 : (x.finish == -1) = false := by simp [h3]
  cases h5 : inB x.finish x.start 36000
  ·have HF := Lib.hid (show jap x = false by simp [jap, jee, h3, h5])
   clear h3
   go_enter Tryz.func153, Tryz.ntmps153
   go_wp2_with (first | (go_at_call 70; refine (jaf _ _ _ _).mono ?_; rintro e w' ⟨rfl, rfl⟩) | (go_at_call 114; refine (jav _ _).mono ?_; rintro e w' ⟨rfl, rfl⟩) | (go_at_call 192; refine (jar _ _).mono ?_; rintro e w' ⟨rfl, rfl⟩))
   go_ret
   exact ⟨jab HF.out.symm, K0⟩
  by_cases h4 : n ≤ 12
  ·have HC := Lib.hid (show jap x = jc7 n (jpt x) by simp [jap, jee, h1, h2, h5, h4, hl])
   have HF3 := Lib.hid h3
   clear h3
   go_enter Tryz.func153, Tryz.ntmps153
   go_wp2_with (first | (go_at_call 70; refine (jaf _ _ _ _).mono ?_; rintro e w' ⟨rfl, rfl⟩) | (go_at_call 114; refine (jav _ _).mono ?_; rintro e w' ⟨rfl, rfl⟩) | (go_at_call 192; refine (jar _ _).mono ?_; rintro e w' ⟨rfl, rfl⟩))
   go_loopw [3, 40] (fun t i wr => ∃ k : Nat, k ≤ n ∧ i = .int .i64 k ∧ t = .int .i64 (jcb x k) ∧ 0 ≤ jcb x k ∧ jcb x k ≤ 36000 ∧ Hid (jc7 k (jpt x) = true) ∧ Blk wr w.heap.size 106 [.int .i64 x.number, .int .i64 x.start, .int .i64 x.finish, .slice A n c] ∧ Below w.heap.size w wr) (fun _ i _ => n - (intOf i).toNat)
   case atStart => exact ⟨0, Nat.zero_le _, rfl, rfl, h2b.1, h2b.2, Lib.hid rfl, Bm0, K0⟩
   case round =>
    obtain ⟨k, hk, rfl, rfl, hp0, hp1, HA, Bm, hb⟩ := hrel
    have cm := Bm.cell
    by_cases hlt : k < n
    ·obtain ⟨b, off, rfl, hkx, c0, c1⟩ := (hx.next hb).elem2 (fun _ => rfl) hlt
     have hblt := World.block_lt_of_cell? wr _ c0
     have K2 : Below w.heap.size w (wr.alloc (.cells #[.int .i64 x.punches[k].code, .int .i64 x.punches[k].time] 188)) := hb.alloc hb.size _
     have B2 := Bm.alloc (.cells #[.int .i64 x.punches[k].code, .int .i64 x.punches[k].time] 188)
     have HO := jfq hkx
     have HPS := Lib.hid (jd5 hkx)
     have hbm := Bm.lt
     cases g1 : jda x.punches[k].code
     ·have HR := Lib.hid (show jap x = false by rw [HC.out]; exact jaw hlt (HO.trans (by simp [jbi, g1])))
      clear HO
      go_wp2_with (first | (go_at_call 70; refine (jaf _ _ _ _).mono ?_; rintro e w' ⟨rfl, rfl⟩) | (go_at_call 114; refine (jav _ _).mono ?_; rintro e w' ⟨rfl, rfl⟩) | (go_at_call 192; refine (jar _ _).mono ?_; rintro e w' ⟨rfl, rfl⟩))
      go_ret
      exact ⟨jab HR.out.symm, K2⟩
     cases g2 : inB x.punches[k].time 0 36000
     ·have HR := Lib.hid (show jap x = false by rw [HC.out]; exact jaw hlt (HO.trans (by simp [jbi, g2])))
      clear HO
      go_wp2_with (first | (go_at_call 70; refine (jaf _ _ _ _).mono ?_; rintro e w' ⟨rfl, rfl⟩) | (go_at_call 114; refine (jav _ _).mono ?_; rintro e w' ⟨rfl, rfl⟩) | (go_at_call 192; refine (jar _ _).mono ?_; rintro e w' ⟨rfl, rfl⟩))
      go_ret
      exact ⟨jab HR.out.symm, K2⟩
     by_cases g3 : jcb x k ≤ x.punches[k].time
     ·have g2b := jaq g2
      by_cases g4 : x.punches[k].time ≤ x.finish
      ·have HA2 := Lib.hid (jdp HA.out (HO.trans (by simp [jbi, g1, g2, g3, g4])))
       clear HO
       go_wp2_with (first | (go_at_call 70; refine (jaf _ _ _ _).mono ?_; rintro e w' ⟨rfl, rfl⟩) | (go_at_call 114; refine (jav _ _).mono ?_; rintro e w' ⟨rfl, rfl⟩) | (go_at_call 192; refine (jar _ _).mono ?_; rintro e w' ⟨rfl, rfl⟩))
       go_roundw
       case rel => exact ⟨k + 1, by omega, by go_num, by rw [HPS.out], by rw [HPS.out]; exact g2b.1, by rw [HPS.out]; exact g2b.2, HA2, B2, K2⟩
       case measure => simp [intOf]; omega
      ·have HR := Lib.hid (show jap x = false by rw [HC.out]; exact jaw hlt (HO.trans (by simp [jbi, g4, HF3.out])))
       clear HO
       go_wp2_with (first | (go_at_call 70; refine (jaf _ _ _ _).mono ?_; rintro e w' ⟨rfl, rfl⟩) | (go_at_call 114; refine (jav _ _).mono ?_; rintro e w' ⟨rfl, rfl⟩) | (go_at_call 192; refine (jar _ _).mono ?_; rintro e w' ⟨rfl, rfl⟩))
       go_ret
       exact ⟨jab HR.out.symm, K2⟩
     ·have HR := Lib.hid (show jap x = false by rw [HC.out]; exact jaw hlt (HO.trans (by simp [jbi, g3])))
      clear HO
      go_wp2_with (first | (go_at_call 70; refine (jaf _ _ _ _).mono ?_; rintro e w' ⟨rfl, rfl⟩) | (go_at_call 114; refine (jav _ _).mono ?_; rintro e w' ⟨rfl, rfl⟩) | (go_at_call 192; refine (jar _ _).mono ?_; rintro e w' ⟨rfl, rfl⟩))
      go_ret
      exact ⟨jab HR.out.symm, K2⟩
    ·obtain rfl : k = n := by omega
     go_wp2_with fail
     go_ret
     exact ⟨jab (by rw [HC.out, HA.out]), hb⟩
  ·have HF := Lib.hid (show jap x = false by simp [jap, jee, h4, hl])
   clear h3
   go_enter Tryz.func153, Tryz.ntmps153
   go_wp2_with (first | (go_at_call 70; refine (jaf _ _ _ _).mono ?_; rintro e w' ⟨rfl, rfl⟩) | (go_at_call 114; refine (jav _ _).mono ?_; rintro e w' ⟨rfl, rfl⟩) | (go_at_call 192; refine (jar _ _).mono ?_; rintro e w' ⟨rfl, rfl⟩))
   go_ret
   exact ⟨jab HF.out.symm, K0⟩
theorem jc2 (A : Option Addr) (n c lo : Nat) (x : Card) (w : World) (hx : Sees w lo 2 A n (x.punches.flatMap Punch.enc)) (hn : n ≤ 1048576) :
  Calls Tryz.prog 159 #[.agg #[x.number, x.start, x.finish, .slice A n c]] w fun e w' => e = .returned (.bool (jap x)) ∧ Below w.heap.size w w' := by
 have hl := hx.count (by decide) (fun _ => rfl)
 have K0 := nB w (.cells #[x.number, x.start, x.finish, .slice A n c] 106)
 have Bm0 := nP w [x.number, x.start, x.finish, .slice A n c] 106
 cases h1 : inB x.number 1 9999
 ·have HF := Lib.hid (show jap x = false by simp [jap, jee, h1])
  go_enter Tryz.func159, Tryz.ntmps159
  go_wp2_with (first | (go_at_call 111; refine (jae _ _ _ _).mono ?_; rintro e w' ⟨rfl, rfl⟩) | (go_at_call 119; refine (jan _ _).mono ?_; rintro e w' ⟨rfl, rfl⟩) | (go_at_call 199; refine (jag _ _).mono ?_; rintro e w' ⟨rfl, rfl⟩))
  go_ret
  exact ⟨jab HF.out.symm, K0⟩
 cases h2 : inB x.start 0 36000
 ·have HF := Lib.hid (show jap x = false by simp [jap, jee, h2])
  go_enter Tryz.func159, Tryz.ntmps159
  go_wp2_with (first | (go_at_call 111; refine (jae _ _ _ _).mono ?_; rintro e w' ⟨rfl, rfl⟩) | (go_at_call 119; refine (jan _ _).mono ?_; rintro e w' ⟨rfl, rfl⟩) | (go_at_call 199; refine (jag _ _).mono ?_; rintro e w' ⟨rfl, rfl⟩))
  go_ret
  exact ⟨jab HF.out.symm, K0⟩
 have h2b := jaq h2
 by_cases h3 : x.finish = -1
 ·have f1 : (x.finish != -1) = false := by simp [h3]
  have f2 : (x.finish == -1) = true := by simp [h3]
  by_cases h4 : n ≤ 12
  ·have HC := Lib.hid (show jap x = jc7 n (jpt x) by simp [jap, jee, h1, h2, h3, h4, hl])
   have HF3 := Lib.hid h3
   clear h3
   go_enter Tryz.func159, Tryz.ntmps159
   go_wp2_with (first | (go_at_call 111; refine (jae _ _ _ _).mono ?_; rintro e w' ⟨rfl, rfl⟩) | (go_at_call 119; refine (jan _ _).mono ?_; rintro e w' ⟨rfl, rfl⟩) | (go_at_call 199; refine (jag _ _).mono ?_; rintro e w' ⟨rfl, rfl⟩))
   go_loopw [3, 4] (fun t i wr => ∃ k : Nat, k ≤ n ∧ i = .int .i64 k ∧ t = .int .i64 (jcb x k) ∧ 0 ≤ jcb x k ∧ jcb x k ≤ 36000 ∧ Hid (jc7 k (jpt x) = true) ∧ Blk wr w.heap.size 106 [.int .i64 x.number, .int .i64 x.start, .int .i64 x.finish, .slice A n c] ∧ Below w.heap.size w wr) (fun _ i _ => n - (intOf i).toNat)
   case atStart => exact ⟨0, Nat.zero_le _, rfl, rfl, h2b.1, h2b.2, Lib.hid rfl, Bm0, K0⟩
   case round =>
    obtain ⟨k, hk, rfl, rfl, hp0, hp1, HA, Bm, hb⟩ := hrel
    have cm := Bm.cell
    by_cases hlt : k < n
    ·obtain ⟨b, off, rfl, hkx, c0, c1⟩ := (hx.next hb).elem2 (fun _ => rfl) hlt
     have hblt := World.block_lt_of_cell? wr _ c0
     have K2 : Below w.heap.size w (wr.alloc (.cells #[.int .i64 x.punches[k].code, .int .i64 x.punches[k].time] 188)) := hb.alloc hb.size _
     have B2 := Bm.alloc (.cells #[.int .i64 x.punches[k].code, .int .i64 x.punches[k].time] 188)
     have HO := jfq hkx
     have HPS := Lib.hid (jd5 hkx)
     have hbm := Bm.lt
     cases g1 : jda x.punches[k].code
     ·have HR := Lib.hid (show jap x = false by rw [HC.out]; exact jaw hlt (HO.trans (by simp [jbi, g1])))
      clear HO
      go_wp2_with (first | (go_at_call 111; refine (jae _ _ _ _).mono ?_; rintro e w' ⟨rfl, rfl⟩) | (go_at_call 119; refine (jan _ _).mono ?_; rintro e w' ⟨rfl, rfl⟩) | (go_at_call 199; refine (jag _ _).mono ?_; rintro e w' ⟨rfl, rfl⟩))
      go_ret
      exact ⟨jab HR.out.symm, K2⟩
     cases g2 : inB x.punches[k].time 0 36000
     ·have HR := Lib.hid (show jap x = false by rw [HC.out]; exact jaw hlt (HO.trans (by simp [jbi, g2])))
      clear HO
      have e2 : inB x.punches[k].time (jcb x k) 36000 = false := jnh (fun h => by rw [jno (⟨by omega, h.2⟩ : 0 ≤ x.punches[k].time ∧ x.punches[k].time ≤ 36000)] at g2; cases g2)
      go_wp2_with (first | (go_at_call 111; refine (jae _ _ _ _).mono ?_; rintro e w' ⟨rfl, rfl⟩) | (go_at_call 119; refine (jan _ _).mono ?_; rintro e w' ⟨rfl, rfl⟩) | (go_at_call 199; refine (jag _ _).mono ?_; rintro e w' ⟨rfl, rfl⟩))
      go_ret
      exact ⟨jab HR.out.symm, K2⟩
     by_cases g3 : jcb x k ≤ x.punches[k].time
     ·have g2b := jaq g2
      have e2 : inB x.punches[k].time (jcb x k) 36000 = true := jno ⟨g3, g2b.2⟩
      have HA2 := Lib.hid (jdp HA.out (HO.trans (by simp [jbi, g1, g2, g3, HF3.out])))
      clear HO
      go_wp2_with (first | (go_at_call 111; refine (jae _ _ _ _).mono ?_; rintro e w' ⟨rfl, rfl⟩) | (go_at_call 119; refine (jan _ _).mono ?_; rintro e w' ⟨rfl, rfl⟩) | (go_at_call 199; refine (jag _ _).mono ?_; rintro e w' ⟨rfl, rfl⟩))
      go_roundw
      case rel => exact ⟨k + 1, by omega, by go_num, by rw [HPS.out], by rw [HPS.out]; exact g2b.1, by rw [HPS.out]; exact g2b.2, HA2, B2, K2⟩
      case measure => simp [intOf]; omega
     ·have HR := Lib.hid (show jap x = false by rw [HC.out]; exact jaw hlt (HO.trans (by simp [jbi, g3])))
      clear HO
      have e2 : inB x.punches[k].time (jcb x k) 36000 = false := jnh (fun h => g3 h.1)
      go_wp2_with (first | (go_at_call 111; refine (jae _ _ _ _).mono ?_; rintro e w' ⟨rfl, rfl⟩) | (go_at_call 119; refine (jan _ _).mono ?_; rintro e w' ⟨rfl, rfl⟩) | (go_at_call 199; refine (jag _ _).mono ?_; rintro e w' ⟨rfl, rfl⟩))
      go_ret
      exact ⟨jab HR.out.symm, K2⟩
    ·obtain rfl : k = n := by omega
     go_wp2_with fail
     go_ret
     exact ⟨jab (by rw [HC.out, HA.out]), hb⟩
  ·have HF := Lib.hid (show jap x = false by simp [jap, jee, h4, hl])
   clear h3
   go_enter Tryz.func159, Tryz.ntmps159
   go_wp2_with (first | (go_at_call 111; refine (jae _ _ _ _).mono ?_; rintro e w' ⟨rfl, rfl⟩) | (go_at_call 119; refine (jan _ _).mono ?_; rintro e w' ⟨rfl, rfl⟩) | (go_at_call 199; refine (jag _ _).mono ?_; rintro e w' ⟨rfl, rfl⟩))
   go_ret
   exact ⟨jab HF.out.symm, K0⟩
 ·have f1 : (x.finish != -1) = true := by simp [h3]
  have f2 : (x.finish == -1) = false := by simp [h3]
  cases h5 : inB x.finish x.start 36000
  ·have HF := Lib.hid (show jap x = false by simp [jap, jee, h3, h5])
   clear h3
   go_enter Tryz.func159, Tryz.ntmps159
   go_wp2_with (first | (go_at_call 111; refine (jae _ _ _ _).mono ?_; rintro e w' ⟨rfl, rfl⟩) | (go_at_call 119; refine (jan _ _).mono ?_; rintro e w' ⟨rfl, rfl⟩) | (go_at_call 199; refine (jag _ _).mono ?_; rintro e w' ⟨rfl, rfl⟩))
   go_ret
   exact ⟨jab HF.out.symm, K0⟩
  by_cases h4 : n ≤ 12
  ·have HC := Lib.hid (show jap x = jc7 n (jpt x) by simp [jap, jee, h1, h2, h5, h4, hl])
   have HF3 := Lib.hid h3
   clear h3
   go_enter Tryz.func159, Tryz.ntmps159
   go_wp2_with (first | (go_at_call 111; refine (jae _ _ _ _).mono ?_; rintro e w' ⟨rfl, rfl⟩) | (go_at_call 119; refine (jan _ _).mono ?_; rintro e w' ⟨rfl, rfl⟩) | (go_at_call 199; refine (jag _ _).mono ?_; rintro e w' ⟨rfl, rfl⟩))
   go_loopw [3, 4] (fun t i wr => ∃ k : Nat, k ≤ n ∧ i = .int .i64 k ∧ t = .int .i64 (jcb x k) ∧ 0 ≤ jcb x k ∧ jcb x k ≤ 36000 ∧ Hid (jc7 k (jpt x) = true) ∧ Blk wr w.heap.size 106 [.int .i64 x.number, .int .i64 x.start, .int .i64 x.finish, .slice A n c] ∧ Below w.heap.size w wr) (fun _ i _ => n - (intOf i).toNat)
   case atStart => exact ⟨0, Nat.zero_le _, rfl, rfl, h2b.1, h2b.2, Lib.hid rfl, Bm0, K0⟩
   case round =>
    obtain ⟨k, hk, rfl, rfl, hp0, hp1, HA, Bm, hb⟩ := hrel
    have cm := Bm.cell
    by_cases hlt : k < n
    ·obtain ⟨b, off, rfl, hkx, c0, c1⟩ := (hx.next hb).elem2 (fun _ => rfl) hlt
     have hblt := World.block_lt_of_cell? wr _ c0
     have K2 : Below w.heap.size w (wr.alloc (.cells #[.int .i64 x.punches[k].code, .int .i64 x.punches[k].time] 188)) := hb.alloc hb.size _
     have B2 := Bm.alloc (.cells #[.int .i64 x.punches[k].code, .int .i64 x.punches[k].time] 188)
     have HO := jfq hkx
     have HPS := Lib.hid (jd5 hkx)
     have hbm := Bm.lt
     cases g1 : jda x.punches[k].code
     ·have HR := Lib.hid (show jap x = false by rw [HC.out]; exact jaw hlt (HO.trans (by simp [jbi, g1])))
      clear HO
      go_wp2_with (first | (go_at_call 111; refine (jae _ _ _ _).mono ?_; rintro e w' ⟨rfl, rfl⟩) | (go_at_call 119; refine (jan _ _).mono ?_; rintro e w' ⟨rfl, rfl⟩) | (go_at_call 199; refine (jag _ _).mono ?_; rintro e w' ⟨rfl, rfl⟩))
      go_ret
      exact ⟨jab HR.out.symm, K2⟩
     cases g2 : inB x.punches[k].time 0 36000
     ·have HR := Lib.hid (show jap x = false by rw [HC.out]; exact jaw hlt (HO.trans (by simp [jbi, g2])))
      clear HO
      have e2 : inB x.punches[k].time (jcb x k) 36000 = false := jnh (fun h => by rw [jno (⟨by omega, h.2⟩ : 0 ≤ x.punches[k].time ∧ x.punches[k].time ≤ 36000)] at g2; cases g2)
      go_wp2_with (first | (go_at_call 111; refine (jae _ _ _ _).mono ?_; rintro e w' ⟨rfl, rfl⟩) | (go_at_call 119; refine (jan _ _).mono ?_; rintro e w' ⟨rfl, rfl⟩) | (go_at_call 199; refine (jag _ _).mono ?_; rintro e w' ⟨rfl, rfl⟩))
      go_ret
      exact ⟨jab HR.out.symm, K2⟩
     by_cases g3 : jcb x k ≤ x.punches[k].time
     ·have g2b := jaq g2
      have e2 : inB x.punches[k].time (jcb x k) 36000 = true := jno ⟨g3, g2b.2⟩
      by_cases g4 : x.punches[k].time ≤ x.finish
      ·have HA2 := Lib.hid (jdp HA.out (HO.trans (by simp [jbi, g1, g2, g3, g4])))
       clear HO
       go_wp2_with (first | (go_at_call 111; refine (jae _ _ _ _).mono ?_; rintro e w' ⟨rfl, rfl⟩) | (go_at_call 119; refine (jan _ _).mono ?_; rintro e w' ⟨rfl, rfl⟩) | (go_at_call 199; refine (jag _ _).mono ?_; rintro e w' ⟨rfl, rfl⟩))
       go_roundw
       case rel => exact ⟨k + 1, by omega, by go_num, by rw [HPS.out], by rw [HPS.out]; exact g2b.1, by rw [HPS.out]; exact g2b.2, HA2, B2, K2⟩
       case measure => simp [intOf]; omega
      ·have HR := Lib.hid (show jap x = false by rw [HC.out]; exact jaw hlt (HO.trans (by simp [jbi, g4, HF3.out])))
       clear HO
       go_wp2_with (first | (go_at_call 111; refine (jae _ _ _ _).mono ?_; rintro e w' ⟨rfl, rfl⟩) | (go_at_call 119; refine (jan _ _).mono ?_; rintro e w' ⟨rfl, rfl⟩) | (go_at_call 199; refine (jag _ _).mono ?_; rintro e w' ⟨rfl, rfl⟩))
       go_ret
       exact ⟨jab HR.out.symm, K2⟩
     ·have HR := Lib.hid (show jap x = false by rw [HC.out]; exact jaw hlt (HO.trans (by simp [jbi, g3])))
      clear HO
      have e2 : inB x.punches[k].time (jcb x k) 36000 = false := jnh (fun h => g3 h.1)
      go_wp2_with (first | (go_at_call 111; refine (jae _ _ _ _).mono ?_; rintro e w' ⟨rfl, rfl⟩) | (go_at_call 119; refine (jan _ _).mono ?_; rintro e w' ⟨rfl, rfl⟩) | (go_at_call 199; refine (jag _ _).mono ?_; rintro e w' ⟨rfl, rfl⟩))
      go_ret
      exact ⟨jab HR.out.symm, K2⟩
    ·obtain rfl : k = n := by omega
     go_wp2_with fail
     go_ret
     exact ⟨jab (by rw [HC.out, HA.out]), hb⟩
  ·have HF := Lib.hid (show jap x = false by simp [jap, jee, h4, hl])
   clear h3
   go_enter Tryz.func159, Tryz.ntmps159
   go_wp2_with (first | (go_at_call 111; refine (jae _ _ _ _).mono ?_; rintro e w' ⟨rfl, rfl⟩) | (go_at_call 119; refine (jan _ _).mono ?_; rintro e w' ⟨rfl, rfl⟩) | (go_at_call 199; refine (jag _ _).mono ?_; rintro e w' ⟨rfl, rfl⟩))
   go_ret
   exact ⟨jab HF.out.symm, K0⟩
end Go.Proofs.YtflpcdffmpfdpaaGreatDoor
