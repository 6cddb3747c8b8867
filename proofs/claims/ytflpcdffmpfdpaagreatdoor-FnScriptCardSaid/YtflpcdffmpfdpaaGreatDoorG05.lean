/- Joined texts of this proof: CurRc, CurG, CurH. -/
import Derived.Test.YtflpcdffmpfdpaaGreatDoorG02
import Derived.Test.YtflpcdffmpfdpaaGreatDoorB13
import Derived.Test.YtflpcdffmpfdpaaGreatDoorB05
import Derived.Test.YtflpcdffmpfdpaaGreatDoorG01
import Derived.Test.YtflpcdffmpfdpaaGreatDoorW01
set_option maxRecDepth 100000
set_option maxHeartbeats 8000000
namespace Go.Proofs.YtflpcdffmpfdpaaGreatDoor
open Go.RowKit
theorem jtw : ∀ s ∈ ([⟨#[]⟩, ⟨#[119, 104, 97, 116]⟩, ⟨#[119, 97, 105, 116]⟩, ⟨#[115, 116, 97, 114, 116, 32, 120]⟩, ⟨#[112, 117, 110, 99, 104, 32, 48]⟩, ⟨#[112, 117, 110, 99, 104, 32, 48, 32, 51, 48]⟩, ⟨#[99, 111, 117, 114, 115, 101]⟩, ⟨#[99, 111, 117, 114, 115, 101, 32, 53]⟩, ⟨#[97, 64, 98]⟩, ⟨#[99, 97, 114, 100, 32, 57]⟩, ⟨#[115, 101, 101, 110, 32, 45, 49]⟩, ⟨#[99, 108, 111, 99, 107, 32, 49]⟩, ⟨#[99, 108, 111, 115, 101, 32, 48]⟩] : List ByteArray), s.size ≤ 100 := by decide
theorem jtq {E : ByteArray} (h : E.size ≤ 11) : ∀ s ∈ ([⟨#[99, 108, 111, 99, 107]⟩, ⟨#[111, 117, 116]⟩, ⟨#[115, 116, 97, 116, 101, 115]⟩, ⟨#[99, 97, 114, 100, 32]⟩ ++ E, ⟨#[115, 101, 101, 110, 32]⟩ ++ E, ⟨#[99, 111, 117, 114, 115, 101, 32, 51, 49, 32, 51, 50]⟩, ⟨#[99, 111, 117, 114, 115, 101, 32, 51, 49]⟩] : List ByteArray), s.size ≤ 100 := by
 intro s hs
 simp only [List.mem_cons, List.not_mem_nil, or_false] at hs
 rcases hs with rfl | rfl | rfl | rfl | rfl | rfl | rfl
 ·decide
 ·decide
 ·decide
 ·rw [ByteArray.size_append]; show 5 + E.size ≤ 100; omega
 ·rw [ByteArray.size_append]; show 5 + E.size ≤ 100; omega
 ·decide
 ·decide
theorem jq8 (g n : Nat) (t : Int) (cl : Bool) (l : Log) (A : Option Addr) (q c : Nat) (xs : List Entrant) (w : World) (h : Cur w g n) (hn : n ≤ 800000) (hx : ∀ W, Only (fun b => b = g) w W → SeesN entrantSh W 0 A q xs) (hq : q ≤ 8) :
  Calls Tryz.prog 60 #[.pointer (some ⟨g, 0, none⟩), .agg #[t, cl, .slice A q c, l.durable, l.pending, l.count]] w (jta w g (n + 54) (fun s => s.size ≤ 100)) := by
 have hg := h.lt
 have U0 := nB w (.cells #[t, cl, .slice A q c, l.durable, l.pending, l.count] 35)
 have P := nP w [t, cl, .slice A q c, l.durable, l.pending, l.count] 35
 have D := h.next U0
 have O : Only (fun b => b = g) w (w.alloc (.cells #[t, cl, .slice A q c, l.durable, l.pending, l.count] 35)) := .of_below U0
 have HX := Lib.hid (fun (W : World) (ho : Only (fun b => b = g) (w.alloc (.cells #[t, cl, .slice A q c, l.durable, l.pending, l.count] 35)) W) => hx W (O.trans ho))
 clear h hx U0
 go_enter Tryz.func60, Tryz.ntmps60
 go_upto_region 1 with fail
 generalize w.alloc _ = w0 at *
 have pc := P.cell
 go_wp2_with fail
 refine (jrh g n t cl A q c xs w0 D (by omega) HX.out hq).mono ?_
 rintro e9 w1 ⟨k, e, v, rfl, he, hv, hk, c9, o9⟩
 clear pc P HX D
 have hg1 := c9.lt
 replace O := O.trans o9
 have U1 := nB w1 (.cells #[k, e, v] 124)
 have S := nP w1 [k, e, v] 124
 have D := c9.next U1
 replace O := O.then_ U1
 clear U1 o9 c9
 go_upto_region 2 with fail
 generalize w1.alloc _ = w2 at *
 generalize w1.heap.size = gs at *
 have sc := S.cell
 go_wp2_with fail
 refine (jj2 _ _ _).mono ?_
 rintro e9 w3 ⟨mx, rfl, rfl, hmx⟩
 have hm1 : 0 ≤ mx ∧ mx ≤ 100000 := by
  have h1 := (hmx.out 100000).2 ⟨by omega, by omega⟩
  have h2 := (hmx.out mx).1 (by omega)
  omega
 clear hmx
 go_wp2_with fail
 refine (jau mx _ (by omega) (by omega)).mono ?_
 rintro e9 w4 ⟨rfl, q9⟩
 have b9 := q9.below w2.heap.size
 have hE := ja2 (z := mx) (by omega) (by omega)
 obtain ⟨E, hEe⟩ : ∃ E, jbe mx = E := ⟨_, rfl⟩
 rw [hEe] at hE ⊢
 clear hEe q9 sc hm1
 replace S := S.next b9
 replace D := D.next b9
 replace O := O.then_ b9
 clear b9
 go_wp2_with fail
 refine (jq0 6 g _ _ D (by omega) (by decide) (by decide)).mono ?_
 rintro e9 w5 ⟨r, rfl, hr, c9, o9⟩
 have hr5 : r ≤ 5 := hr
 replace S := S.only o9 (fun (e : _ = _) => by omega)
 replace D := c9
 replace O := O.trans o9
 clear c9 o9 hr hg1
 have sc := S.cell
 go_upto_block 0 with fail
 go_upto_if 17 with fail
 go_cut [17] from 17 to 20 (fun s17 wr => s17 = .bool (decide (r ≤ 2)) ∧ wr = w5)
 case first =>
  by_cases r0 : r = 0
  ·subst r0
   go_wp2_with fail
   go_meet
   exact ⟨rfl, rfl⟩
  have e0 : ((r : Int) == 0) = false := beq_eq_false_iff_ne.2 (by omega)
  by_cases r1 : r = 1
  ·subst r1
   go_wp2_with fail
   go_meet
   exact ⟨rfl, rfl⟩
  have e1 : ((r : Int) == 1) = false := beq_eq_false_iff_ne.2 (by omega)
  by_cases r2 : r = 2
  ·subst r2
   go_wp2_with fail
   go_meet
   exact ⟨rfl, rfl⟩
  have e2 : ((r : Int) == 2) = false := beq_eq_false_iff_ne.2 (by omega)
  have e3 : decide (r ≤ 2) = false := decide_eq_false (by omega)
  go_wp2_with fail
  go_meet
  exact ⟨by rw [e3], rfl⟩
 case rest =>
  obtain ⟨rfl, rfl⟩ := hcut
  by_cases hr2 : r ≤ 2
  ·rw [decide_eq_true hr2]
   by_cases k1 : k = 1
   ·subst k1
    go_wp2_with fail
    refine (jau v _ (by omega) (by omega)).mono ?_
    rintro e9 w6 ⟨rfl, q9⟩
    have b9 := q9.below wc.heap.size
    have hv11 := ja2 (z := v) (by omega) (by omega)
    obtain ⟨F, hF⟩ : ∃ F, jbe v = F := ⟨_, rfl⟩
    rw [hF] at hv11 ⊢
    clear hF q9
    replace D := D.next b9
    replace O := O.then_ b9
    have g1 : ¬ 9223372036854775807 < 5 + F.size := by omega
    go_wp2_with fail
    go_ret
    exact ⟨_, rfl, by simp only [ByteArray.size_append]; show 5 + F.size ≤ 100; omega, D.more (by omega), O⟩
   have f1 : (k == 1) = false := beq_eq_false_iff_ne.2 k1
   by_cases k2 : k = 2
   ·subst k2
    have g1 : ¬ 9223372036854775807 < 6 + E.size := by omega
    go_wp2_with fail
    go_ret
    exact ⟨_, rfl, by simp only [ByteArray.size_append]; show 6 + E.size ≤ 100; omega, D.more (by omega), O⟩
   have f2 : (k == 2) = false := beq_eq_false_iff_ne.2 k2
   by_cases k3 : k = 3
   ·subst k3
    have g1 : ¬ 9223372036854775807 < 6 + E.size := by omega
    have g2 : ¬ 9223372036854775807 < 6 + E.size + 1 := by omega
    go_wp2_with fail
    refine (jau v _ (by omega) (by omega)).mono ?_
    rintro e9 w6 ⟨rfl, q9⟩
    have b9 := q9.below wc.heap.size
    have hv11 := ja2 (z := v) (by omega) (by omega)
    obtain ⟨F, hF⟩ : ∃ F, jbe v = F := ⟨_, rfl⟩
    rw [hF] at hv11 ⊢
    clear hF q9
    replace D := D.next b9
    replace O := O.then_ b9
    have g3 : ¬ 9223372036854775807 < 6 + E.size + 1 + F.size := by omega
    go_wp2_with fail
    go_ret
    exact ⟨_, rfl, by simp only [ByteArray.size_append]; show 6 + E.size + 1 + F.size ≤ 100; omega, D.more (by omega), O⟩
   have f3 : (k == 3) = false := beq_eq_false_iff_ne.2 k3
   by_cases k4 : k = 4
   ·subst k4
    have g1 : ¬ 9223372036854775807 < 7 + E.size := by omega
    go_wp2_with fail
    go_ret
    exact ⟨_, rfl, by simp only [ByteArray.size_append]; show 7 + E.size ≤ 100; omega, D.more (by omega), O⟩
   have f4 : (k == 4) = false := beq_eq_false_iff_ne.2 k4
   by_cases k5 : k = 5
   ·subst k5
    have g1 : ¬ 9223372036854775807 < 5 + E.size := by omega
    go_wp2_with fail
    go_ret
    exact ⟨_, rfl, by simp only [ByteArray.size_append]; show 5 + E.size ≤ 100; omega, D.more (by omega), O⟩
   have f5 : (k == 5) = false := beq_eq_false_iff_ne.2 k5
   go_wp2_with fail
   go_ret
   exact ⟨_, rfl, by decide, D.more (by omega), O⟩
  ·rw [decide_eq_false hr2]
   have g1 : ¬ 9223372036854775807 < 5 + E.size := by omega
   by_cases r5 : r = 5
   ·have e3 : ((r : Int) == 3) = false := beq_eq_false_iff_ne.2 (by omega)
    have e4 : ((r : Int) == 4) = false := beq_eq_false_iff_ne.2 (by omega)
    have UA := nB wc (.cells #[.string ⟨#[]⟩, .string ⟨#[119, 104, 97, 116]⟩, .string ⟨#[119, 97, 105, 116]⟩, .string ⟨#[115, 116, 97, 114, 116, 32, 120]⟩, .string ⟨#[112, 117, 110, 99, 104, 32, 48]⟩, .string ⟨#[112, 117, 110, 99, 104, 32, 48, 32, 51, 48]⟩, .string ⟨#[99, 111, 117, 114, 115, 101]⟩, .string ⟨#[99, 111, 117, 114, 115, 101, 32, 53]⟩, .string ⟨#[97, 64, 98]⟩, .string ⟨#[99, 97, 114, 100, 32, 57]⟩, .string ⟨#[115, 101, 101, 110, 32, 45, 49]⟩, .string ⟨#[99, 108, 111, 99, 107, 32, 49]⟩, .string ⟨#[99, 108, 111, 115, 101, 32, 48]⟩] 9)
    have BL : Blk (wc.alloc (.cells #[.string ⟨#[]⟩, .string ⟨#[119, 104, 97, 116]⟩, .string ⟨#[119, 97, 105, 116]⟩, .string ⟨#[115, 116, 97, 114, 116, 32, 120]⟩, .string ⟨#[112, 117, 110, 99, 104, 32, 48]⟩, .string ⟨#[112, 117, 110, 99, 104, 32, 48, 32, 51, 48]⟩, .string ⟨#[99, 111, 117, 114, 115, 101]⟩, .string ⟨#[99, 111, 117, 114, 115, 101, 32, 53]⟩, .string ⟨#[97, 64, 98]⟩, .string ⟨#[99, 97, 114, 100, 32, 57]⟩, .string ⟨#[115, 101, 101, 110, 32, 45, 49]⟩, .string ⟨#[99, 108, 111, 99, 107, 32, 49]⟩, .string ⟨#[99, 108, 111, 115, 101, 32, 48]⟩] 9)) wc.heap.size 9 (([⟨#[]⟩, ⟨#[119, 104, 97, 116]⟩, ⟨#[119, 97, 105, 116]⟩, ⟨#[115, 116, 97, 114, 116, 32, 120]⟩, ⟨#[112, 117, 110, 99, 104, 32, 48]⟩, ⟨#[112, 117, 110, 99, 104, 32, 48, 32, 51, 48]⟩, ⟨#[99, 111, 117, 114, 115, 101]⟩, ⟨#[99, 111, 117, 114, 115, 101, 32, 53]⟩, ⟨#[97, 64, 98]⟩, ⟨#[99, 97, 114, 100, 32, 57]⟩, ⟨#[115, 101, 101, 110, 32, 45, 49]⟩, ⟨#[99, 108, 111, 99, 107, 32, 49]⟩, ⟨#[99, 108, 111, 115, 101, 32, 48]⟩] : List ByteArray).map Value.string) := Blk.at_ rfl
    have hgl := D.lt
    replace D := D.next UA
    replace O := O.then_ UA
    clear UA
    go_wp2_with fail
    refine (jrw g _ wc.heap.size 13 _ [⟨#[]⟩, ⟨#[119, 104, 97, 116]⟩, ⟨#[119, 97, 105, 116]⟩, ⟨#[115, 116, 97, 114, 116, 32, 120]⟩, ⟨#[112, 117, 110, 99, 104, 32, 48]⟩, ⟨#[112, 117, 110, 99, 104, 32, 48, 32, 51, 48]⟩, ⟨#[99, 111, 117, 114, 115, 101]⟩, ⟨#[99, 111, 117, 114, 115, 101, 32, 53]⟩, ⟨#[97, 64, 98]⟩, ⟨#[99, 97, 114, 100, 32, 57]⟩, ⟨#[115, 101, 101, 110, 32, 45, 49]⟩, ⟨#[99, 108, 111, 99, 107, 32, 49]⟩, ⟨#[99, 108, 111, 115, 101, 32, 48]⟩] _ BL (by omega) D (by omega) rfl (by decide) (by decide)).mono ?_
    rintro e9 w6 ⟨s, rfl, hs, c9, o9⟩
    have hz := jtw s hs
    go_wp2_with fail
    go_ret
    exact ⟨_, rfl, hz, c9.more (by omega), O.trans o9⟩
   ·by_cases r3 : r = 3
    ·subst r3
     have UA := nB wc (.cells #[.string ⟨#[99, 108, 111, 99, 107]⟩, .string ⟨#[111, 117, 116]⟩, .string ⟨#[115, 116, 97, 116, 101, 115]⟩, .string (⟨#[99, 97, 114, 100, 32]⟩ ++ E), .string (⟨#[115, 101, 101, 110, 32]⟩ ++ E), .string ⟨#[99, 111, 117, 114, 115, 101, 32, 51, 49, 32, 51, 50]⟩, .string ⟨#[99, 111, 117, 114, 115, 101, 32, 51, 49]⟩] 9)
     have BL : Blk (wc.alloc (.cells #[.string ⟨#[99, 108, 111, 99, 107]⟩, .string ⟨#[111, 117, 116]⟩, .string ⟨#[115, 116, 97, 116, 101, 115]⟩, .string (⟨#[99, 97, 114, 100, 32]⟩ ++ E), .string (⟨#[115, 101, 101, 110, 32]⟩ ++ E), .string ⟨#[99, 111, 117, 114, 115, 101, 32, 51, 49, 32, 51, 50]⟩, .string ⟨#[99, 111, 117, 114, 115, 101, 32, 51, 49]⟩] 9)) wc.heap.size 9 (([⟨#[99, 108, 111, 99, 107]⟩, ⟨#[111, 117, 116]⟩, ⟨#[115, 116, 97, 116, 101, 115]⟩, ⟨#[99, 97, 114, 100, 32]⟩ ++ E, ⟨#[115, 101, 101, 110, 32]⟩ ++ E, ⟨#[99, 111, 117, 114, 115, 101, 32, 51, 49, 32, 51, 50]⟩, ⟨#[99, 111, 117, 114, 115, 101, 32, 51, 49]⟩] : List ByteArray).map Value.string) := Blk.at_ rfl
     have hgl := D.lt
     replace D := D.next UA
     replace O := O.then_ UA
     clear UA
     go_wp2_with fail
     refine (jrw g _ wc.heap.size 7 _ [⟨#[99, 108, 111, 99, 107]⟩, ⟨#[111, 117, 116]⟩, ⟨#[115, 116, 97, 116, 101, 115]⟩, ⟨#[99, 97, 114, 100, 32]⟩ ++ E, ⟨#[115, 101, 101, 110, 32]⟩ ++ E, ⟨#[99, 111, 117, 114, 115, 101, 32, 51, 49, 32, 51, 50]⟩, ⟨#[99, 111, 117, 114, 115, 101, 32, 51, 49]⟩] _ BL (by omega) D (by omega) rfl (by decide) (by decide)).mono ?_
     rintro e9 w6 ⟨s, rfl, hs, c9, o9⟩
     have hz := jtq hE s hs
     go_wp2_with fail
     go_ret
     exact ⟨_, rfl, hz, c9.more (by omega), O.trans o9⟩
    ·obtain rfl : r = 4 := by omega
     have UA := nB wc (.cells #[.string ⟨#[99, 108, 111, 99, 107]⟩, .string ⟨#[111, 117, 116]⟩, .string ⟨#[115, 116, 97, 116, 101, 115]⟩, .string (⟨#[99, 97, 114, 100, 32]⟩ ++ E), .string (⟨#[115, 101, 101, 110, 32]⟩ ++ E), .string ⟨#[99, 111, 117, 114, 115, 101, 32, 51, 49, 32, 51, 50]⟩, .string ⟨#[99, 111, 117, 114, 115, 101, 32, 51, 49]⟩] 9)
     have BL : Blk (wc.alloc (.cells #[.string ⟨#[99, 108, 111, 99, 107]⟩, .string ⟨#[111, 117, 116]⟩, .string ⟨#[115, 116, 97, 116, 101, 115]⟩, .string (⟨#[99, 97, 114, 100, 32]⟩ ++ E), .string (⟨#[115, 101, 101, 110, 32]⟩ ++ E), .string ⟨#[99, 111, 117, 114, 115, 101, 32, 51, 49, 32, 51, 50]⟩, .string ⟨#[99, 111, 117, 114, 115, 101, 32, 51, 49]⟩] 9)) wc.heap.size 9 (([⟨#[99, 108, 111, 99, 107]⟩, ⟨#[111, 117, 116]⟩, ⟨#[115, 116, 97, 116, 101, 115]⟩, ⟨#[99, 97, 114, 100, 32]⟩ ++ E, ⟨#[115, 101, 101, 110, 32]⟩ ++ E, ⟨#[99, 111, 117, 114, 115, 101, 32, 51, 49, 32, 51, 50]⟩, ⟨#[99, 111, 117, 114, 115, 101, 32, 51, 49]⟩] : List ByteArray).map Value.string) := Blk.at_ rfl
     have hgl := D.lt
     replace D := D.next UA
     replace O := O.then_ UA
     clear UA
     go_wp2_with fail
     refine (jrw g _ wc.heap.size 7 _ [⟨#[99, 108, 111, 99, 107]⟩, ⟨#[111, 117, 116]⟩, ⟨#[115, 116, 97, 116, 101, 115]⟩, ⟨#[99, 97, 114, 100, 32]⟩ ++ E, ⟨#[115, 101, 101, 110, 32]⟩ ++ E, ⟨#[99, 111, 117, 114, 115, 101, 32, 51, 49, 32, 51, 50]⟩, ⟨#[99, 111, 117, 114, 115, 101, 32, 51, 49]⟩] _ BL (by omega) D (by omega) rfl (by decide) (by decide)).mono ?_
     rintro e9 w6 ⟨s, rfl, hs, c9, o9⟩
     have hz := jtq hE s hs
     go_wp2_with fail
     go_ret
     exact ⟨_, rfl, hz, c9.more (by omega), O.trans o9⟩
def jtn (m : Nat) (x : Log) : Prop := x.durable.size + x.pending.size ≤ m
theorem jrd {m : Nat} {x : Log} (h : jtn m x) (hm : m ≤ 1048576) : x.upto 1048576 := by unfold jtn at h; unfold Log.upto; omega
theorem jsy {x : Log} {e : LogRecord} (h : jtn 31000 x) : jtn 31000 (jgg x e).1 := by
 unfold jgg
 split
 ·rename_i hv
  simp only [Bool.and_eq_true] at hv
  obtain ⟨h1, h2, h3⟩ := jg4 hv.1
  split
  ·exact h
  ·rename_i hc
   have h4 := jf6 (k := x.count.toNat) hv.2 (by omega)
   show x.durable.size + (x.pending ++ jck x.count.toNat e).size ≤ 31000
   rw [ByteArray.size_append]
   omega
 ·exact h
theorem jsl {x : Log} (h : jtn 31000 x) : jtn 31000 (jsd x).1 := by
 unfold jsd
 split
 ·show (x.durable ++ x.pending).size + 0 ≤ 31000
  rw [ByteArray.size_append]
  exact h
 ·exact Nat.zero_le _
def jto (w : World) (g n m : Nat) (e : Ending) (w' : World) : Prop := ∃ x : Log, e = .returned (.agg #[x.durable, x.pending, x.count]) ∧ jtn m x ∧ Cur w' g n ∧ Only (fun b => b = g) w w'
def LoopL (w : World) (g n gl gr : Nat) (zl : List Value) (x : Log) (wr : World) : Prop := jtn 31000 x ∧ Cur wr g n ∧ Only (fun b => b = g) w wr ∧ Blk wr gl 33 [.string x.durable, .string x.pending, .int .i64 x.count] ∧ Blk wr gr 33 zl
theorem LoopL.put {w w1 : World} {g n gl gr : Nat} {zl : List Value} {x y : Log} (hc : Cur w1 g n) (ho : Only (fun b => b = g) w w1) (hl : Blk w1 gl 33 [.string x.durable, .string x.pending, .int .i64 x.count]) (hr : Blk w1 gr 33 zl) (hy : jtn 31000 y) (h1 : g < gl) (h2 : w.heap.size ≤ gl) (h3 : gr ≠ gl) :
  LoopL w g n gl gr zl y (((w1.setCell ⟨gl, 0, none⟩ (.string y.durable)).setCell ⟨gl, 1, none⟩ (.string y.pending)).setCell ⟨gl, 2, none⟩ (.int .i64 y.count)) := by
 have o := jqx (jqx (jqx (Only.refl (fun b => b = gl) w1) 0 (.string y.durable)) 1 (.string y.pending)) 2 (.int .i64 y.count)
 exact ⟨hy, hc.keep o (by omega) (fun b hb => by omega), jqw (jqw (jqw ho (p := ⟨gl, 0, none⟩) h2 _) (p := ⟨gl, 1, none⟩) h2 _) (p := ⟨gl, 2, none⟩) h2 _,
  ((hl.set_ 0 (.string y.durable)).set_ 1 (.string y.pending)).set_ 2 (.int .i64 y.count), hr.only o h3⟩
theorem jtv (g n : Nat) (w : World) (h : Cur w g n) (hn : n ≤ 800000) :
  Calls Tryz.prog 149 #[.pointer (some ⟨g, 0, none⟩)] w (jto w g (n + 62) 31000) := by
 have hg := h.lt
 have U0 := nB2 w (.cells #[.string ⟨#[]⟩, .string ⟨#[]⟩, .int .i64 0] 33) (.cells #[.string ⟨#[]⟩, .string ⟨#[]⟩, .int .i64 0] 33)
 have R0 := nPa w [.string ⟨#[]⟩, .string ⟨#[]⟩, .int .i64 0] 33 (.cells #[.string ⟨#[]⟩, .string ⟨#[]⟩, .int .i64 0] 33)
 have L0 := nQ w (.cells #[.string ⟨#[]⟩, .string ⟨#[]⟩, .int .i64 0] 33) [.string ⟨#[]⟩, .string ⟨#[]⟩, .int .i64 0] 33
 go_enter Tryz.func149, Tryz.ntmps149
 go_wp2_with fail
 refine (jq0 7 g n _ (h.next U0) (by omega) (by decide) (by decide)).mono ?_
 rintro e w0 ⟨r, rfl, hr, C0, o0⟩
 have hr6 : r ≤ 6 := by simp at hr; omega
 clear hr
 have HL0 : LoopL w g (n + 2) (w.heap.size + 1) w.heap.size [.string ⟨#[]⟩, .string ⟨#[]⟩, .int .i64 0] ⟨⟨#[]⟩, ⟨#[]⟩, 0⟩ w0 := ⟨Nat.zero_le _, C0, (Only.of_below U0).trans o0, L0.only o0 (fun (h : _ = _) => by omega), R0.only o0 (fun (h : _ = _) => by omega)⟩
 clear U0 R0 L0 C0 o0
 go_wp2_with fail
 go_loopw [4] (fun v wr => ∃ (k : Nat) (x : Log), k ≤ 6 ∧ v = .int .i64 (k : Int) ∧ LoopL w g (n + 2 + (6 - k) * 10) (w.heap.size + 1) w.heap.size [.string ⟨#[]⟩, .string ⟨#[]⟩, .int .i64 0] x wr) (fun v _ => (intOf v).toNat)
 case atStart => exact ⟨r, ⟨⟨#[]⟩, ⟨#[]⟩, 0⟩, hr6, rfl, HL0.1, HL0.2.1.more (by omega), HL0.2.2⟩
 case round =>
  obtain ⟨k, x, hk, rfl, hx, C1, O1, L1, R1⟩ := hrel
  have lt1 := L1.lt
  by_cases hk0 : 0 < k
  ·obtain ⟨k, rfl⟩ : ∃ j, k = j + 1 := ⟨k - 1, by omega⟩
   go_wp2_with fail
   replace C1 := C1.next ((Quiet.one wr).below _)
   replace O1 := O1.quiet (Quiet.one wr)
   replace L1 := L1.quiet (Quiet.one wr)
   replace R1 := R1.quiet (Quiet.one wr)
   have l1 := L1.cell
   refine wp_region_held_drew (S := fun w' => True) (by kernel_rfl) (by trivial) (fun hH => ?_)
   refine wQ 1 ?_
   refine wR (rs := [0, 2]) (by kernel_rfl) (by simp) ?_
   refine aC rfl (fun K hK => ?_) ?_
   ·go_simp
    refine hK.out _ _ (by trivial) (fun hH => ?_)
    clear hK K
    try simp only [Act.put, pX]
    refine wR (rs := [2]) (by kernel_rfl) (by simp) ?_
    refine aC rfl (fun K hK => ?_) aN
    go_simp
    refine (jrm g _ _ C1 (by omega)).mono ?_
    rintro e w2 ⟨rec, rfl, hrec, c2, o2⟩
    have L2 := L1.only o2 (fun (h : _ = _) => by omega)
    have R2 := R1.only o2 (fun (h : _ = _) => by omega)
    have O2 := O1.trans o2
    have l2 := L2.cell

    go_wp2_with fail
    refine hK.out _ _ (by trivial) (fun hH => ?_)
    clear hK K
    refine wR (rs := [3]) (by kernel_rfl) (by simp) ?_
    refine aC rfl (fun K hK => ?_) aN
    go_simp
    refine (jdc x rec _ (jrd hx (by decide)) (LogRecord.upto_mono hrec (by decide))).mono ?_
    obtain ⟨y, hy⟩ : ∃ y, jgg x rec = y := ⟨_, rfl⟩
    have ty := jsy (e := rec) hx
    rw [hy] at ty ⊢
    clear hy
    rintro e w3 ⟨rfl, b3⟩
    have L3 := L2.next b3
    have l3 := L3.cell
    have l3f := L3.frozen
    have HL := Lib.hid (LoopL.put (zl := [.string ⟨#[]⟩, .string ⟨#[]⟩, .int .i64 0]) (c2.next b3) (O2.then_ b3) L3 (R2.next b3) ty (by omega) (by omega) (by omega))
    clear l1 l2

    go_wp2_with fail
    refine hK.out _ _ (by trivial) (fun hH => ?_)
    clear hK K
    refine wQ 4 ?_
    refine wQ 5 ?_
    refine wQ 6 ?_
    refine wR (rs := [7]) (by kernel_rfl) (by simp) ?_
    refine aC rfl (fun K hK => ?_) aN
    go_simp
    refine hK.out _ _ (by trivial) (fun hH => ?_)
    clear hK K
    try simp only [Act.put, pX]
    refine wD (by kernel_rfl) ?_ _
    go_wp2_with fail
    obtain ⟨hx4, C4, O4, L4, R4⟩ := HL.out
    clear HL l3 l3f L3
    generalize ((w3.setCell _ _).setCell _ _).setCell _ _ = w4 at *
    refine (jrf 4 g _ w4 C4 (by omega) (by decide) (by decide)).mono ?_
    rintro e w5 ⟨bb, rfl, C5, o5⟩
    have O5 := O4.trans o5
    have L5 := L4.only o5 (fun (h : _ = _) => by omega)
    have R5 := R4.only o5 (fun (h : _ = _) => by omega)
    have l5 := L5.cell
    have l5f := L5.frozen
    cases bb
    ·go_wp2_with fail
     go_roundw
     case rel => exact ⟨k, y.1, by omega, by go_num, hx4, C5.more (by omega), O5, L5, R5⟩
     case measure => simp [intOf]
    ·go_wp2_with fail
     refine (jrj y.1 _ (jrd hx4 (by decide))).mono ?_
     obtain ⟨z, hz⟩ : ∃ z, jsd y.1 = z := ⟨_, rfl⟩
     have tz := jsl hx4
     rw [hz] at tz ⊢
     clear hz
     rintro e w6 ⟨rfl, b6⟩
     have L6 := L5.next b6
     have l6 := L6.cell
     have l6f := L6.frozen
     have HL := Lib.hid (LoopL.put (zl := [.string ⟨#[]⟩, .string ⟨#[]⟩, .int .i64 0]) (C5.next b6) (O5.then_ b6) L6 (R5.next b6) tz (by omega) (by omega) (by omega))
     clear l5 l5f
     go_wp2_with fail
     go_roundw
     case rel => exact ⟨k, z.1, by omega, by go_num, HL.out.1, HL.out.2.1.more (by omega), HL.out.2.2⟩
     case measure => simp [intOf]
   refine aC rfl (fun K hK => ?_) aN
   ·go_simp
    refine (jrm g _ _ C1 (by omega)).mono ?_
    rintro e w2 ⟨rec, rfl, hrec, c2, o2⟩
    have L2 := L1.only o2 (fun (h : _ = _) => by omega)
    have R2 := R1.only o2 (fun (h : _ = _) => by omega)
    have O2 := O1.trans o2
    have l2 := L2.cell

    go_wp2_with fail
    refine hK.out _ _ (by trivial) (fun hH => ?_)
    clear hK K
    refine wR (rs := [0]) (by kernel_rfl) (by simp) ?_
    refine aC rfl (fun K hK => ?_) aN
    go_simp
    refine hK.out _ _ (by trivial) (fun hH => ?_)
    clear hK K
    try simp only [Act.put, pX]
    refine wR (rs := [3]) (by kernel_rfl) (by simp) ?_
    refine aC rfl (fun K hK => ?_) aN
    go_simp
    refine (jdc x rec _ (jrd hx (by decide)) (LogRecord.upto_mono hrec (by decide))).mono ?_
    obtain ⟨y, hy⟩ : ∃ y, jgg x rec = y := ⟨_, rfl⟩
    have ty := jsy (e := rec) hx
    rw [hy] at ty ⊢
    clear hy
    rintro e w3 ⟨rfl, b3⟩
    have L3 := L2.next b3
    have l3 := L3.cell
    have l3f := L3.frozen
    have HL := Lib.hid (LoopL.put (zl := [.string ⟨#[]⟩, .string ⟨#[]⟩, .int .i64 0]) (c2.next b3) (O2.then_ b3) L3 (R2.next b3) ty (by omega) (by omega) (by omega))
    clear l1 l2

    go_wp2_with fail
    refine hK.out _ _ (by trivial) (fun hH => ?_)
    clear hK K
    refine wQ 4 ?_
    refine wQ 5 ?_
    refine wQ 6 ?_
    refine wR (rs := [7]) (by kernel_rfl) (by simp) ?_
    refine aC rfl (fun K hK => ?_) aN
    go_simp
    refine hK.out _ _ (by trivial) (fun hH => ?_)
    clear hK K
    try simp only [Act.put, pX]
    refine wD (by kernel_rfl) ?_ _
    go_wp2_with fail
    obtain ⟨hx4, C4, O4, L4, R4⟩ := HL.out
    clear HL l3 l3f L3
    generalize ((w3.setCell _ _).setCell _ _).setCell _ _ = w4 at *
    refine (jrf 4 g _ w4 C4 (by omega) (by decide) (by decide)).mono ?_
    rintro e w5 ⟨bb, rfl, C5, o5⟩
    have O5 := O4.trans o5
    have L5 := L4.only o5 (fun (h : _ = _) => by omega)
    have R5 := R4.only o5 (fun (h : _ = _) => by omega)
    have l5 := L5.cell
    have l5f := L5.frozen
    cases bb
    ·go_wp2_with fail
     go_roundw
     case rel => exact ⟨k, y.1, by omega, by go_num, hx4, C5.more (by omega), O5, L5, R5⟩
     case measure => simp [intOf]
    ·go_wp2_with fail
     refine (jrj y.1 _ (jrd hx4 (by decide))).mono ?_
     obtain ⟨z, hz⟩ : ∃ z, jsd y.1 = z := ⟨_, rfl⟩
     have tz := jsl hx4
     rw [hz] at tz ⊢
     clear hz
     rintro e w6 ⟨rfl, b6⟩
     have L6 := L5.next b6
     have l6 := L6.cell
     have l6f := L6.frozen
     have HL := Lib.hid (LoopL.put (zl := [.string ⟨#[]⟩, .string ⟨#[]⟩, .int .i64 0]) (C5.next b6) (O5.then_ b6) L6 (R5.next b6) tz (by omega) (by omega) (by omega))
     clear l5 l5f
     go_wp2_with fail
     go_roundw
     case rel => exact ⟨k, z.1, by omega, by go_num, HL.out.1, HL.out.2.1.more (by omega), HL.out.2.2⟩
     case measure => simp [intOf]

  ·have hk1 : ¬ (0 : Int) < (k : Int) := by omega
   have l1 := L1.cell
   have r1 := R1.cell
   have r1f := R1.frozen
   go_wp2_with fail
   refine bodyPost_ret (v := .agg #[x.durable, x.pending, x.count]) (by simp [results, Tryz.results149, go_sem, r1]) rfl ⟨x, rfl, hx, ?_, ?_⟩
   ·exact (C1.keep (S := fun b => b = w.heap.size) (jqx (jqx (jqx (Only.refl _ _) 0 _) 1 _) 2 _) (by omega) (fun b hb => by omega)).more (by omega)
   ·exact jqw (jqw (jqw O1 (p := ⟨w.heap.size, 0, none⟩) (Nat.le_refl _) _) (p := ⟨w.heap.size, 1, none⟩) (Nat.le_refl _) _) (p := ⟨w.heap.size, 2, none⟩) (Nat.le_refl _) _
theorem jsb {w wx : World} {g n : Nat} (hc : Cur wx g n) (ho : Only (fun b => b = g) w wx) (hg : g < w.heap.size) (u v x : Value) :
  Cur (((wx.setCell ⟨w.heap.size, 0, none⟩ u).setCell ⟨w.heap.size, 1, none⟩ v).setCell ⟨w.heap.size, 2, none⟩ x) g n ∧ Only (fun b => b = g) w (((wx.setCell ⟨w.heap.size, 0, none⟩ u).setCell ⟨w.heap.size, 1, none⟩ v).setCell ⟨w.heap.size, 2, none⟩ x) :=
 ⟨hc.keep (S := fun b => b = w.heap.size) (jqx (jqx (jqx (Only.refl _ _) 0 u) 1 v) 2 x) (by omega) (fun b hb => by omega),
  jqw (jqw (jqw ho (p := ⟨w.heap.size, 0, none⟩) (Nat.le_refl _) _) (p := ⟨w.heap.size, 1, none⟩) (Nat.le_refl _) _) (p := ⟨w.heap.size, 2, none⟩) (Nat.le_refl _) _⟩
theorem jr8 (g n : Nat) (w : World) (h : Cur w g n) (hn : n ≤ 700000) :
  Calls Tryz.prog 110 #[.pointer (some ⟨g, 0, none⟩)] w (jto w g (n + 70) 64000) := by
 have hg := h.lt
 have U0 := nB w (.cells #[.string ⟨#[]⟩, .string ⟨#[]⟩, .int .i64 0] 33)
 have R0 := nP w [.string ⟨#[]⟩, .string ⟨#[]⟩, .int .i64 0] 33
 go_enter Tryz.func110, Tryz.ntmps110
 go_wp2_with fail
 refine (jtv g n _ (h.next U0) (by omega)).mono ?_
 rintro e w1 ⟨x, rfl, hx, c1, o1⟩
 have R1 := R0.only o1 (fun (h : _ = _) => by omega)
 have lt1 := R1.lt
 have U1 := nB w1 (.cells #[x.durable, x.pending, x.count] 33)
 have L1 := nP w1 [x.durable, x.pending, x.count] 33
 go_wp2_with fail
 refine (jq0 24 g _ _ (c1.next U1) (by omega) (by decide) (by decide)).mono ?_
 rintro e w2 ⟨q, rfl, hq, C2, o2⟩
 have L2 := L1.only o2 (fun (h : _ = _) => by omega)
 have R2 := (R1.next U1).only o2 (fun (h : _ = _) => by omega)
 have O2 : Only (fun b => b = g) w w2 := (((Only.of_below U0).trans o1).then_ U1).trans o2
 have hne : w.heap.size ≠ w1.heap.size := by omega
 have hne' : w1.heap.size ≠ w.heap.size := by omega
 have hx' : x.durable.size + x.pending.size ≤ 31000 := hx
 clear U0 R0 o1 c1 R1 U1 L1 o2
 have l2 := L2.cell
 have l2f := L2.frozen
 by_cases q0 : q = 0
 ·subst q0
  have HF := Lib.hid (fun t u v z => jsb (C2.keep (S := fun b => b = w1.heap.size) (jqx (Only.refl _ _) 2 t) (by omega) (fun b hb => by omega)) (jqw O2 (p := ⟨w1.heap.size, 2, none⟩) (by show w.heap.size ≤ w1.heap.size; omega) t) hg u v z)
  have r2 := R2.cell
  have r2f := R2.frozen
  go_wp2_with fail
  refine bodyPost_ret (v := .agg #[x.durable, x.pending, .int .i64 (wrap64 (x.count + 1))]) (by simp [results, Tryz.results110, go_sem, r2]) rfl ⟨⟨x.durable, x.pending, wrap64 (x.count + 1)⟩, rfl, Nat.le_trans hx (by decide), ((HF.out _ _ _ _).1).more (by omega), (HF.out _ _ _ _).2⟩
 have d0 : ((q : Int) == 0) = false := beq_eq_false_iff_ne.2 (by omega)
 by_cases q1 : q = 1
 ·subst q1
  go_wp2_with fail
  refine (js3 x.pending ⟨#[35, 64, 10, 48, 49]⟩ g _ w2 C2 (by omega) (by omega) (by decide) (by decide)).mono ?_
  rintro e w3 ⟨s3, rfl, hs3, C3, o3⟩
  have hs3' : s3.size ≤ x.pending.size + 1 := hs3
  have L3 := L2.only o3 (fun (h : _ = _) => by omega)
  have R3 := R2.only o3 (fun (h : _ = _) => by omega)
  have O3 := O2.trans o3
  clear hs3 o3 l2 l2f C2 L2 R2 O2
  have l3 := L3.cell
  have l3f := L3.frozen
  have r3 := R3.cell
  have r3f := R3.frozen
  have C5 := C3.keep (S := fun b => b = w1.heap.size) (jqx (Only.refl _ _) 1 (.string s3)) (by omega) (fun b hb => by omega)
  have O5 := jqw O3 (p := ⟨w1.heap.size, 1, none⟩) (by show w.heap.size ≤ w1.heap.size; omega) (.string s3)
  have HF := Lib.hid (fun u v z => jsb C5 O5 hg u v z)
  clear C5 O5
  go_wp2_with fail
  refine bodyPost_ret (v := .agg #[x.durable, s3, x.count]) (by simp [results, Tryz.results110, go_sem, r3]) rfl ⟨⟨x.durable, s3, x.count⟩, rfl, (by show x.durable.size + s3.size ≤ 64000; omega), ((HF.out _ _ _).1).more (by omega), (HF.out _ _ _).2⟩
 have d1 : ((q : Int) == 1) = false := beq_eq_false_iff_ne.2 (by omega)
 have r2 := R2.cell
 have r2f := R2.frozen
 by_cases q2 : q = 2
 ·subst q2
  have fs : ¬ 9223372036854775807 < x.durable.size + x.pending.size := by omega
  have C5 := C2.keep (S := fun b => b = w1.heap.size) (jqx (Only.refl _ _) 0 (.string (x.durable ++ x.pending))) (by omega) (fun b hb => by omega)
  have O5 := jqw O2 (p := ⟨w1.heap.size, 0, none⟩) (by show w.heap.size ≤ w1.heap.size; omega) (.string (x.durable ++ x.pending))
  have HF := Lib.hid (fun u v z => jsb C5 O5 hg u v z)
  clear C5 O5
  go_wp2_with fail
  refine bodyPost_ret (v := .agg #[.string (x.durable ++ x.pending), x.pending, x.count]) (by simp [results, Tryz.results110, go_sem, r2]) rfl ⟨⟨x.durable ++ x.pending, x.pending, x.count⟩, rfl, (by show (x.durable ++ x.pending).size + x.pending.size ≤ 64000; rw [ByteArray.size_append]; omega), ((HF.out _ _ _).1).more (by omega), (HF.out _ _ _).2⟩
 have d2 : ((q : Int) == 2) = false := beq_eq_false_iff_ne.2 (by omega)
 have HF := Lib.hid (fun u v z => jsb C2 O2 hg u v z)
 go_wp2_with fail
 refine bodyPost_ret (v := .agg #[x.durable, x.pending, x.count]) (by simp [results, Tryz.results110, go_sem, r2]) rfl ⟨x, rfl, Nat.le_trans hx (by decide), ((HF.out _ _ _).1).more (by omega), (HF.out _ _ _).2⟩
end Go.Proofs.YtflpcdffmpfdpaaGreatDoor
