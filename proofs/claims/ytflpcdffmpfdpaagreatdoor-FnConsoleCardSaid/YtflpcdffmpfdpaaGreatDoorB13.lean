/- Joined texts of this proof: TxtI, Cut, TxtS, TxtL. -/
import Derived.Lib.AtoiTie
import Derived.Lib.ItoaMem
import Derived.Lib.SplitLaws
import Derived.Test.YtflpcdffmpfdpaaGreatDoorB12
set_option maxRecDepth 100000
set_option maxHeartbeats 8000000
namespace Go.Proofs.YtflpcdffmpfdpaaGreatDoor
open Go.RowKit
def jbe (z : Int) : ByteArray := ⟨(Lib.itoa z).toArray⟩
theorem jqc (n : Nat) : jbe (n : Int) = jcf n := by unfold jbe jcf; rw [Lib.itoa_nonneg]
theorem jpy (n : Nat) (h : 1 ≤ n) : jbe (-(n : Int)) = ⟨#[45]⟩ ++ jcf n := by
 unfold jbe jcf
 rw [Lib.itoa_neg n h]
 refine ByteArray.ext ?_
 simp
theorem je3 (z : Int) : (∃ n : Nat, z = n ∧ jbe z = jcf n) ∨ ∃ n : Nat, z = -(n : Int) ∧ 1 ≤ n ∧ jbe z = ⟨#[45]⟩ ++ jcf n := by
 by_cases h : 0 ≤ z
 ·exact .inl ⟨z.toNat, by omega, by rw [← jqc]; congr 1; omega⟩
 ·exact .inr ⟨(-z).toNat, by omega, by omega, by rw [← jpy _ (by omega)]; congr 1; omega⟩
def ja1 (s : ByteArray) : Option Int := (Lib.atoi s.data.toList).bind fun v => if inB v (-999999) 999999 = true ∧ jbe v = s then some v else none
theorem ji6 {s : ByteArray} {v : Int} (h : ja1 s = some v) : Lib.atoi s.data.toList = some v ∧ inB v (-999999) 999999 = true ∧ jbe v = s := by
 unfold ja1 at h
 cases ha : Lib.atoi s.data.toList with
 | none => rw [ha] at h; cases h
 | some u =>
  rw [ha] at h
  simp only [Option.bind_some] at h
  by_cases hc : inB u (-999999) 999999 = true ∧ jbe u = s
  ·rw [if_pos hc] at h
   injection h with h
   subst h
   exact ⟨rfl, hc⟩
  ·rw [if_neg hc] at h; cases h
theorem jkj {n : Nat} (h : n ≤ 999999) : (jcf n).size ≤ 6 := jcg n 6 (Nat.lt_of_le_of_lt h (by decide)) (by decide)
theorem jml {s : ByteArray} {v : Int} (h : ja1 s = some v) : s.size ≤ 7 := by
 obtain ⟨-, hb, rfl⟩ := ji6 h
 unfold inB at hb
 simp only [Bool.and_eq_true, decide_eq_true_eq] at hb
 rcases je3 v with ⟨n, rfl, e⟩ | ⟨n, rfl, h1, e⟩
 ·rw [e]
  have := jkj (n := n) (by omega)
  omega
 ·rw [e]
  have := jkj (n := n) (by omega)
  have h2 : (⟨#[45]⟩ ++ jcf n : ByteArray).size = 1 + (jcf n).size := by rw [ByteArray.size_append]; rfl
  omega
theorem jmp {s : ByteArray} (h : 7 < s.size) : ja1 s = none := by
 cases hp : ja1 s with
 | none => rfl
 | some v => have := jml hp; omega
theorem jej {s : ByteArray} {v : Int} (h : Lib.atoi s.data.toList = some v) : ja1 s = if inB v (-999999) 999999 = true ∧ jbe v = s then some v else none := by unfold ja1; rw [h]; rfl
theorem joh {s : ByteArray} (h : Lib.atoi s.data.toList = none) : ja1 s = none := by unfold ja1; rw [h]; rfl
structure GlE (w : World) : Prop where
 gl : Gl w
 es : ∃ ev, w.cell? ⟨2, 0, none⟩ = some ev ∧ (ev = .nilIface ∨ ∃ te pe, ev = .iface te pe)
theorem GlE.next {w w' : World} (h : GlE w) (hb : Below w.heap.size w w') : GlE w' := by
 obtain ⟨ev, h1, h2⟩ := h.es
 exact ⟨h.gl.next hb, ev, (hb.cell (p := ⟨2, 0, none⟩) (World.block_lt_of_cell? w _ h1)).trans h1, h2⟩
theorem jbh (z : Int) (w : World) (h0 : -1000000000 ≤ z) (h1 : z ≤ 1000000000) (hg : Gl w) :
  Calls Tryz.prog 74 #[.int .i64 z] w fun e w' => e = .returned (.string (jbe z)) ∧ Below w.heap.size w w' :=
 (je2 z (by omega) (by omega) w hg.tab).mono fun e w' ⟨he, k, os, hw⟩ => ⟨he, by rw [hw]; exact jjo _ _ _⟩
theorem jau (z : Int) (w : World) (h0 : -1000000000 ≤ z) (h1 : z ≤ 1000000000) :
  Calls Tryz.prog 75 #[.int .i64 z] w fun e w' => e = .returned (.string (jbe z)) ∧ Quiet w w' := by
 rcases je3 z with ⟨n, rfl, e⟩ | ⟨n, rfl, h2, e⟩
 ·rw [e]
  exact jes n w (by omega)
 ·have HE := Lib.hid e
  have hn : -(n : Int) < 0 := by omega
  clear e
  go_enter Tryz.func75, Tryz.ntmps75
  go_wp2_with fail
  refine (jes n w (by omega)).mono ?_
  rintro e w1 ⟨rfl, q1⟩
  have hsz := jcg n 10 (by omega) (by decide)
  have hs2 : ¬ 9223372036854775807 < 1 + (jcf n).size := by omega
  obtain ⟨tt, htt⟩ : ∃ tt, jcf n = tt := ⟨_, rfl⟩
  rw [htt] at HE hs2 hsz ⊢
  clear htt
  go_wp2_with fail
  go_ret
  rw [HE.out]
  exact ⟨rfl, q1⟩
theorem jmg (s : ByteArray) (w : World) (hs : s.size ≤ 9223372036854775807) (hg : GlE w) :
  Calls Tryz.prog 94 #[.string s] w fun e w' => e = .returned (.tuple #[.int .i64 ((ja1 s).getD 0), .bool (ja1 s).isSome]) ∧ Below w.heap.size w w' := by
 by_cases h7 : 7 < s.size
 ·have HR := Lib.hid (jmp h7)
  have h7' : (7 : Int) < (s.size : Int) := by omega
  go_enter Tryz.func94, Tryz.ntmps94
  go_wp2_with fail
  go_ret2
  rw [HR.out]
  exact ⟨rfl, Below.refl _ _⟩
 have h7' : ¬ (7 : Int) < (s.size : Int) := by omega
 have hsh := Lib.atoiAll_short s.data.toList (by have h : s.data.toList.length = s.size := by simp
                                                 omega)
 have hs7 : s.size ≤ 7 := by omega
 clear h7
 cases ha : Lib.atoi s.data.toList with
 | none =>
  have HR := Lib.hid (joh ha)
  rw [ha] at hsh
  obtain ⟨ev, hev1, hev2⟩ := hg.es
  have HS := Lib.hid hsh
  clear hsh ha
  go_enter Tryz.func94, Tryz.ntmps94
  go_wp2_with fail
  refine (jeq s (by omega) HS.out ev w hev1 hev2).mono ?_
  rintro e w1 ⟨N, rfl, -, -, b⟩
  go_wp2_with fail
  go_ret2
  rw [HR.out]
  exact ⟨rfl, b⟩
 | some v =>
  have HR0 := Lib.hid (jej ha)
  rw [ha] at hsh
  have HS := Lib.hid hsh
  have hbnd := Lib.atoiAll_bounds hsh
  clear hsh ha
  obtain ⟨ib, hib⟩ : ∃ ib, inB v (-999999) 999999 = ib := ⟨_, rfl⟩
  have HIB := Lib.hid hib
  go_enter Tryz.func94, Tryz.ntmps94
  go_wp2_with fail
  refine (jf8 s (by omega) v HS.out w).mono ?_
  rintro e w1 ⟨rfl, hw1⟩
  have K : Below w.heap.size w w1 := by
   rcases hw1 with rfl | ⟨t, rfl⟩
   ·exact Below.refl _ _
   ·exact Lib.bytesWorld_below _ _ _
  clear hw1
  cases ib
  ·have HR := Lib.hid (show ja1 s = none by rw [HR0.out, HIB.out]; rfl)
   go_wp2_with (go_at_call 70; refine (jaf _ _ _ _).mono ?_; rw [HIB.out]; rintro e w' ⟨rfl, rfl⟩)
   go_ret2
   rw [HR.out]
   exact ⟨rfl, K⟩
  unfold inB at hib
  simp only [Bool.and_eq_true, decide_eq_true_eq] at hib
  have hv0 : -1000000000 ≤ v := by omega
  have hv1 : v ≤ 1000000000 := by omega
  have hg1 := hg.gl.next K
  clear hib
  go_wp2_with (go_at_call 70; refine (jaf _ _ _ _).mono ?_; rw [HIB.out]; rintro e w' ⟨rfl, rfl⟩)
  refine (jbh v _ hv0 hv1 hg1).mono ?_
  rintro e w2 ⟨rfl, b⟩
  by_cases hc : jbe v = s
  ·have HR := Lib.hid (show ja1 s = some v by rw [HR0.out, if_pos ⟨HIB.out, hc⟩])
   have f1 : ((jbe v).toList == s.toList) = true := by rw [jcc]; exact decide_eq_true hc
   clear hc
   go_wp2_with fail
   go_ret2
   rw [HR.out]
   exact ⟨rfl, jaa K b⟩
  ·have HR := Lib.hid (show ja1 s = none by rw [HR0.out, if_neg (fun h => hc h.2)])
   have f1 : ((jbe v).toList == s.toList) = false := by rw [jcc]; exact decide_eq_false hc
   clear hc
   go_wp2_with fail
   go_ret2
   rw [HR.out]
   exact ⟨rfl, jaa K b⟩
def upto (b : UInt8) (s : ByteArray) : ByteArray := ⟨(s.data.toList.takeWhile (· != b)).toArray⟩
def je0 (b : UInt8) (s : ByteArray) : ByteArray := ⟨((s.data.toList.dropWhile (· != b)).drop 1).toArray⟩
theorem jd7 (b : UInt8) (s : ByteArray) : (upto b s).size ≤ s.size := by
 show (s.data.toList.takeWhile (· != b)).toArray.size ≤ s.data.size
 rw [List.size_toArray, ← Array.length_toList]
 exact (List.takeWhile_sublist _).length_le
theorem jii (b : UInt8) (s : ByteArray) : (je0 b s).size ≤ s.size := by
 show ((s.data.toList.dropWhile (· != b)).drop 1).toArray.size ≤ s.data.size
 rw [List.size_toArray, ← Array.length_toList]
 exact ((List.drop_sublist _ _).trans (List.dropWhile_sublist _)).length_le
theorem jp4 (b : UInt8) : ∀ l : List UInt8, Lib.cut l [b] = (l.takeWhile (· != b), (l.dropWhile (· != b)).drop 1, l.contains b) := by
 intro l
 unfold Lib.cut
 rw [Lib.index_one]
 induction l with
 | nil => simp [Lib.indexByte]
 | cons c l ih =>
  have hge := Lib.indexByte_ge l b
  by_cases hc : c = b
  ·subst hc
   have e : Lib.indexByte (c :: l) c = 0 := by simp [Lib.indexByte]
   rw [e]; simp
  ·have hc2 : (b == c) = false := by simpa using fun h => hc h.symm
   have hcn : (c != b) = true := by simp [bne, hc]
   by_cases hm : Lib.indexByte l b = -1
   ·have e : Lib.indexByte (c :: l) b = -1 := by simp [Lib.indexByte, hc, hm]
    rw [hm, if_neg (by omega)] at ih
    rw [e, if_neg (by omega)]
    simp only [Prod.mk.injEq] at ih
    rw [List.takeWhile_cons, List.dropWhile_cons, if_pos hcn, if_pos hcn, List.contains_cons, hc2, ← ih.1, ← ih.2.1, ← ih.2.2]; rfl
   ·have e : Lib.indexByte (c :: l) b = Lib.indexByte l b + 1 := by simp [Lib.indexByte, hc, hm]
    have h0 : 0 ≤ Lib.indexByte l b := by omega
    rw [if_pos h0] at ih
    rw [e, if_pos (by omega)]
    simp only [Prod.mk.injEq] at ih
    have e1 : (Lib.indexByte l b + 1).toNat = (Lib.indexByte l b).toNat + 1 := by omega
    have e2 : (Lib.indexByte l b + 1).toNat + [b].length = ((Lib.indexByte l b).toNat + [b].length) + 1 := by omega
    rw [List.takeWhile_cons, List.dropWhile_cons, if_pos hcn, if_pos hcn, List.contains_cons, hc2, ← ih.1, ← ih.2.1, ← ih.2.2, e2, e1]; rfl
theorem jka (s : ByteArray) (b : UInt8) (w : World) (hs : s.size ≤ 3000000) (hg : Gl w) :
  Calls Tryz.prog 151 #[.string s, .string ⟨#[b]⟩] w fun e w' => e = .returned (.tuple #[.string (upto b s), .string (je0 b s), .bool (jde b s)]) ∧ Quiet w w' := by
 obtain ⟨m, hm⟩ := hg.ml
 refine (jjj s ⟨#[b]⟩ m w (by omega) hm).mono ?_
 rw [show (⟨#[b]⟩ : ByteArray).data.toList = [b] from rfl, jp4]
 rintro e w' ⟨rfl, n, rfl⟩
 exact ⟨rfl, Quiet.mk _ _⟩
theorem jjq {b : UInt8} : ∀ {l : List UInt8} {k : Nat} (hk : k < l.length), (∀ j (hj : j < l.length), j < k → l[j] ≠ b) → l[k] = b → l.takeWhile (· != b) = l.take k
 | c :: l, 0, _, _, h => by
  have hc : c = b := h
  subst hc
  simp
 | c :: l, k + 1, hk, h, h1 => by
  have hc : c ≠ b := h 0 (by simp) (by omega)
  have hcn : (c != b) = true := by simpa using hc
  rw [List.takeWhile_cons, if_pos hcn, List.take_succ_cons, jjq (k := k) (by simpa using hk) (fun j hj hjk => by
   have := h (j + 1) (by simpa using hj) (by omega)
   simpa using this) (by simpa using h1)]
theorem jqt {b : UInt8} {s : ByteArray} {k : Nat} (hk : k < s.size) (h : ∀ j (hj : j < s.size), j < k → s[j] ≠ b) (h1 : s[k] = b) : s.extract 0 k = upto b s := by
 unfold upto
 rw [jjq (k := k) (by simpa using hk) (fun j hj hjk => h j (by simpa using hj) hjk) h1]
 apply ByteArray.ext
 apply Array.toList_inj.1
 simp
theorem jlk {p : UInt8 → Bool} : ∀ {l : List UInt8}, (∀ x ∈ l, p x = true) → l.takeWhile p = l
 | [], _ => rfl
 | c :: l, h => by rw [List.takeWhile_cons, if_pos (h c List.mem_cons_self), jlk fun x hx => h x (List.mem_cons_of_mem _ hx)]
theorem jk4 {b : UInt8} : ∀ {l : List UInt8}, b ∈ l → l.dropWhile (· != b) = b :: (l.dropWhile (· != b)).drop 1
 | c :: l, h => by
  by_cases hc : c = b
  ·subst hc; simp
  ·have hcn : (c != b) = true := by simp [bne, hc]
   rw [List.dropWhile_cons, if_pos hcn]
   exact jk4 ((List.mem_cons.1 h).resolve_left fun e => hc e.symm)
theorem jl1 {b : UInt8} {s : ByteArray} (h : jde b s = false) : upto b s = s := by
 unfold upto
 have : s.data.toList.takeWhile (· != b) = s.data.toList := by
  refine jlk fun x hx => ?_
  unfold jde at h
  rw [← Bool.not_eq_true, List.contains_iff_mem] at h
  have hne : x ≠ b := fun e => h (e ▸ hx)
  simpa using hne
 rw [this]
theorem jlu {b : UInt8} : ∀ {l r : List UInt8}, b ∉ l → (l ++ b :: r).takeWhile (· != b) = l ∧ (l ++ b :: r).dropWhile (· != b) = b :: r
 | [], r, _ => by simp
 | c :: l, r, h => by
  have hne : c ≠ b := fun e => h (e ▸ List.mem_cons_self)
  have hc : (c != b) = true := by simpa using hne
  have ih := jlu (b := b) (l := l) (r := r) fun h1 => h (List.mem_cons_of_mem _ h1)
  rw [List.cons_append, List.takeWhile_cons, List.dropWhile_cons, if_pos hc, if_pos hc, ih.1, ih.2]
  exact ⟨rfl, rfl⟩
theorem je6 {b : UInt8} {p q : ByteArray} (h : jde b p = false) : upto b (p ++ ⟨#[b]⟩ ++ q) = p ∧ je0 b (p ++ ⟨#[b]⟩ ++ q) = q ∧ jde b (p ++ ⟨#[b]⟩ ++ q) = true := by
 have hn : b ∉ p.data.toList := by
  unfold jde at h
  rw [← Bool.not_eq_true, List.contains_iff_mem] at h
  exact h
 have he : (p ++ ⟨#[b]⟩ ++ q).data.toList = p.data.toList ++ b :: q.data.toList := by simp
 have ht := jlu (r := q.data.toList) hn
 unfold upto je0 jde
 rw [he, ht.1, ht.2]
 refine ⟨?_, ?_, ?_⟩
 ·apply ByteArray.ext; simp
 ·apply ByteArray.ext; simp
 ·simp
theorem jez {b : UInt8} {s : ByteArray} (h : jde b s = true) : s = upto b s ++ ⟨#[b]⟩ ++ je0 b s := by
 have hm : b ∈ s.data.toList := by
  unfold jde at h
  exact List.contains_iff_mem.1 h
 apply ByteArray.ext
 apply Array.toList_inj.1
 have h1 := jk4 hm
 have h2 := List.takeWhile_append_dropWhile (p := (· != b)) (l := s.data.toList)
 rw [h1] at h2
 simpa [upto, je0] using h2.symm
def SplitI (b : UInt8) (s : ByteArray) (k q : Nat) (L : List ByteArray) : Prop :=
 (L = [] ∧ q = 0 ∧ ∀ j (hj : j < s.size), j < k → s[j] ≠ b) ∨ (L[0]? = some (upto b s) ∧ jde b s = true ∧ L ≠ [])
theorem SplitI.skip {b : UInt8} {s : ByteArray} {k q : Nat} {L : List ByteArray} (h : SplitI b s k q L) (hk : k < s.size) (h1 : s[k] ≠ b) : SplitI b s (k + 1) q L := by
 rcases h with ⟨h2, h3, h4⟩ | h
 ·refine .inl ⟨h2, h3, fun j hj hjk => ?_⟩
  by_cases e : j = k
  ·subst e; exact h1
  ·exact h4 j hj (by omega)
 ·exact .inr h
theorem SplitI.hit {b : UInt8} {s : ByteArray} {k q : Nat} {L : List ByteArray} (h : SplitI b s k q L) (hk : k < s.size) (h1 : s[k] = b) : SplitI b s (k + 1) (k + 1) (L ++ [s.extract q k]) := by
 rcases h with ⟨rfl, rfl, h4⟩ | ⟨h2, h3, h4⟩
 ·exact .inr ⟨by simp [jqt hk h4 h1], ji5 s b k hk h1, by simp⟩
 ·refine .inr ⟨?_, h3, by simp⟩
  cases L with
  | nil => exact absurd rfl h4
  | cons x L => simpa using h2
theorem SplitI.fin {b : UInt8} {s : ByteArray} {q : Nat} {L : List ByteArray} (h : SplitI b s s.size q L) : (L ++ [s.extract q s.size])[0]? = some (upto b s) ∧ decide (2 ≤ (L ++ [s.extract q s.size]).length) = jde b s := by
 rcases h with ⟨rfl, rfl, h4⟩ | ⟨h2, h3, h4⟩
 ·have hn := jgw s b fun k hk => h4 k hk hk
  refine ⟨?_, by rw [hn]; rfl⟩
  rw [jl1 hn]
  simp
 ·cases L with
  | nil => exact absurd rfl h4
  | cons x L => exact ⟨by simpa using h2, by rw [h3]; simp⟩
def jkz (l : List ByteArray) : List Value := l.map Value.string
theorem jdq : (Tryz.prog.info? 9).map (fun i => (i.zero, i.size, i.bytes)) = some (some (.string ⟨#[]⟩), 1, 16) := by kernel_rfl
def job (w : World) (b : UInt8) (s : ByteArray) (e : Ending) (w' : World) : Prop :=
 ∃ (A : Option Addr) (n c : Nat) (L : List ByteArray), e = .returned (.slice A n c) ∧ n = L.length ∧ w'.ownsRow w.heap.size 9 1 (.slice A n c) n (jkz L) ∧ L[0]? = some (upto b s) ∧ decide (2 ≤ n) = jde b s ∧ Below w.heap.size w w'
theorem jmr (s : ByteArray) (b : UInt8) (z : Int) (w : World) (hz : z = (b.toNat : Int)) (hs : s.size ≤ 3000000) :
  Calls Tryz.prog 55 #[.string s, .int .u8 z] w (job w b s) := by
 subst hz
 go_enter Tryz.func55, Tryz.ntmps55
 go_wp2_with fail
 have hown0 := ja4 w 9 1
 have hb0 := nB w (.cells #[] 9)
 go_loopw [5, 6, 7] (fun v q' i wr => ∃ (k q : Nat) (L : List ByteArray) (A' : Option Addr) (c' : Nat), k ≤ s.size ∧ q ≤ k ∧ i = .int .i64 k ∧ q' = .int .i64 q ∧ v = .slice A' L.length c' ∧ L.length ≤ k ∧ wr.ownsRow w.heap.size 9 1 (.slice A' L.length c') L.length (jkz L) ∧ Hid (SplitI b s k q L) ∧ Below w.heap.size w wr) (fun _ _ i _ => s.size - (intOf i).toNat)
 case atStart => exact ⟨0, 0, [], _, _, Nat.zero_le _, Nat.le_refl _, rfl, rfl, rfl, Nat.le_refl _, hown0, Lib.hid (.inl ⟨rfl, rfl, fun j _ h => absurd h (by omega)⟩), hb0⟩
 case round =>
  obtain ⟨k, q, L, A', c', hk, hq, rfl, rfl, rfl, hlo, hown, HI, hb⟩ := hrel
  by_cases hlt : k < s.size
  ·by_cases hc : s[k] = b
   ·have HN := Lib.hid (HI.out.hit hlt hc)
    have hbq : ((s[k].toNat : Int) == (b.toNat : Int)) = true := by rw [hc]; simp
    clear HI hc
    go_wp2_with (at_builtin; go_loud (refine jac rfl _ _ _ rfl Tryz.underlying42 jdq rfl (by decide) rfl hown rfl (by simp) (by rfl) (by rfl) (by omega) (by decide) hb.size ?_); intro A2 c2 w2 hown2 ho2 hbb2 hat2)
    go_roundw
    case rel => exact ⟨k + 1, k + 1, L ++ [s.extract q k], A2, c2, by omega, by omega, by go_num, by go_num, by simp, by simp; omega, by simpa [jkz] using hown2, HN, hb.trans hbb2⟩
    case measure => simp [intOf]; omega
   ·have HN := Lib.hid (HI.out.skip hlt hc)
    have hbq : ((s[k].toNat : Int) == (b.toNat : Int)) = false := by
     rw [beq_eq_false_iff_ne]
     intro h
     exact hc (UInt8.toNat_inj.1 (by omega))
    clear HI hc
    go_wp2_with fail
    go_roundw
    case rel => exact ⟨k + 1, q, L, _, _, by omega, by omega, by go_num, rfl, rfl, by omega, hown, HN, hb⟩
    case measure => simp [intOf]; omega
  ·obtain rfl : k = s.size := by omega
   have HE := Lib.hid HI.out.fin
   clear HI
   go_wp2_with (at_builtin; go_loud (refine jac rfl _ _ _ rfl Tryz.underlying42 jdq rfl (by decide) rfl hown rfl (by simp) (by rfl) (by rfl) (by omega) (by decide) hb.size ?_); intro A2 c2 w2 hown2 ho2 hbb2 hat2)
   go_ret
   exact ⟨A2, L.length + 1, c2, L ++ [s.extract q s.size], rfl, by simp, by simpa [jkz] using hown2, HE.out.1, by rw [← HE.out.2]; simp, hb.trans hbb2⟩
def ji8 (b : UInt8) : List (List UInt8) → List (List UInt8)
 | [] => [[b]]
 | x :: xs => (b :: x) :: xs
def ja6 (c : UInt8) : List UInt8 → List (List UInt8)
 | [] => [[]]
 | b :: r => if b = c then [] :: ja6 c r else ji8 b (ja6 c r)
theorem jg1 {c : UInt8} : ∀ {p : List UInt8}, (∀ x ∈ p, x ≠ c) → ja6 c p = [p]
 | [], _ => rfl
 | b :: r, h => by
  rw [ja6, if_neg (h b List.mem_cons_self), jg1 fun x hx => h x (List.mem_cons_of_mem _ hx)]
  rfl
theorem jis {c : UInt8} (r : List UInt8) : ∀ {p : List UInt8}, (∀ x ∈ p, x ≠ c) → ja6 c (p ++ c :: r) = p :: ja6 c r
 | [], _ => by rw [List.nil_append, ja6, if_pos rfl]
 | b :: p, h => by
  rw [List.cons_append, ja6, if_neg (h b List.mem_cons_self), jis r fun x hx => h x (List.mem_cons_of_mem _ hx)]
  rfl
theorem jld (c : UInt8) : ∀ l : List UInt8, Lib.splitK [c] 0 (Lib.count l [c]) l = ja6 c l
 | [] => by rw [Lib.count_one]; rfl
 | b :: r => by
  have ih := jld c r
  by_cases h : b = c
  ·subst h
   have hix : Lib.index (b :: r) [b] = ((0 : Nat) : Int) := by rw [Lib.index]; simp [List.isPrefixOf]
   rw [Lib.count_cons_eq, Nat.add_comm, ja6, if_pos rfl, ← ih, Lib.splitK, hix]
   simp
  ·rw [Lib.count_cons_ne b c r h, ja6, if_neg h, ← ih]
   have hp : ([c] : List UInt8).isPrefixOf (b :: r) = false := by simp [List.isPrefixOf, Ne.symm h]
   have hix : Lib.index (b :: r) [c] = if Lib.index r [c] == -1 then -1 else Lib.index r [c] + 1 := by rw [Lib.index, hp]; simp
   by_cases hm : Lib.index r [c] = -1
   ·rw [Lib.count_miss hm]
    rfl
   ·have hge := Lib.index_ge r [c]
    obtain ⟨j, hj⟩ : ∃ j : Nat, Lib.index r [c] = j := ⟨(Lib.index r [c]).toNat, by omega⟩
    have hj1 : ¬ ((j : Int) == -1) = true := fun e => by have := beq_iff_eq.1 e; omega
    have hj2 : ¬ ((j : Int) + 1 == -1) = true := fun e => by have := beq_iff_eq.1 e; omega
    have e1 : ((j : Int) + 1).toNat = j + 1 := by omega
    rw [Lib.count_hit (by simp) hj, Nat.add_comm, Lib.splitK, Lib.splitK, hix, hj, if_neg hj1, if_neg hj2, if_neg hj1, e1, Int.toNat_natCast]
    simp [ji8]
def jbb (c : UInt8) (s : ByteArray) : List ByteArray := (ja6 c s.data.toList).map fun l => ⟨l.toArray⟩
theorem jjm (c : UInt8) (s : ByteArray) : Lib.splitB ⟨#[c]⟩ 0 (Lib.countB s ⟨#[c]⟩) s = jbb c s := by
 have h := Lib.splitB_data ⟨#[c]⟩ 0 (Lib.countB s ⟨#[c]⟩) s
 unfold jbb
 rw [← jld c s.data.toList, show Lib.splitK [c] 0 (Lib.count s.data.toList [c]) s.data.toList = _ from h.symm, List.map_map]
 refine (List.map_id'' (fun x => ?_) _).symm
 rfl
theorem jem (c : UInt8) (l : List UInt8) : 1 ≤ (ja6 c l).length := by
 cases l with
 | nil => exact Nat.le_refl _
 | cons b r =>
  rw [ja6]
  split
  ·simp
  ·cases ja6 c r <;> simp [ji8]
theorem jjr (c : UInt8) (s : ByteArray) : 1 ≤ (jbb c s).length := by unfold jbb; rw [List.length_map]; exact jem _ _
theorem jh2 (c : UInt8) : ∀ l : List UInt8, (ja6 c l).length ≤ l.length + 1
 | [] => Nat.le_refl _
 | b :: r => by
  have ih := jh2 c r
  rw [ja6]
  split
  ·simpa using ih
  ·have h := jem c r
   cases hs : ja6 c r with
   | nil => rw [hs] at h; simp at h
   | cons x xs => rw [hs] at ih; simp [ji8] at ih ⊢; omega
theorem jgt (c : UInt8) (s : ByteArray) : (jbb c s).length ≤ s.size + 1 := by
 have := jh2 c s.data.toList
 unfold jbb
 rw [List.length_map]
 simpa using this
theorem jdi (c : UInt8) : ∀ (l : List UInt8) (x : List UInt8), x ∈ ja6 c l → x.length ≤ l.length
 | [], x, h => by rw [ja6, List.mem_singleton] at h; subst h; exact Nat.le_refl _
 | b :: r, x, h => by
  rw [ja6] at h
  split at h
  ·rcases List.mem_cons.1 h with rfl | h
   ·simp
   ·have := jdi c r x h; simp; omega
  ·cases hs : ja6 c r with
   | nil => rw [hs] at h; simp [ji8] at h; subst h; simp
   | cons y ys =>
    rw [hs] at h
    simp only [ji8, List.mem_cons] at h
    rcases h with rfl | h
    ·have := jdi c r y (by rw [hs]; exact List.mem_cons_self); simp; omega
    ·have := jdi c r x (by rw [hs]; exact List.mem_cons_of_mem _ h); simp; omega
theorem jg5 (c : UInt8) (s : ByteArray) {x : ByteArray} (h : x ∈ jbb c s) : x.size ≤ s.size := by
 unfold jbb at h
 obtain ⟨l, hl, rfl⟩ := List.mem_map.1 h
 have h2 := jdi c _ l hl
 have h3 : s.data.toList.length = s.size := by simp
 rw [h3] at h2
 show l.toArray.size ≤ s.size
 rw [List.size_toArray]
 exact h2
def jgf (w : World) (L : List ByteArray) (e : Ending) (w' : World) : Prop :=
 ∃ (A : Option Addr) (c : Nat), e = .returned (.slice A L.length c) ∧ w'.ownsRow w.heap.size 9 1 (.slice A L.length c) L.length (jkz L) ∧ Below w.heap.size w w'
theorem jpq (s : ByteArray) (b : UInt8) (w : World) (hs : s.size ≤ 3000000) (hg : Gl w) :
  Calls Tryz.prog 56 #[.string s, .string ⟨#[b]⟩] w (jgf w (jbb b s)) := by
 obtain ⟨m, hm⟩ := hg.ml
 refine (jhh s ⟨#[b]⟩ m w (by omega) hm (Nat.le_refl 1)).mono ?_
 rintro e w' ⟨rfl, rfl⟩
 have hl : Lib.countB s ⟨#[b]⟩ + 1 = (jbb b s).length := by rw [← jjm, Lib.splitB_all ⟨#[b]⟩ (Nat.le_refl 1) 0 _ s rfl]
 rw [hl, jjm]
 have hlen := jgt b s
 exact ⟨_, _, rfl, jci (Nat.le_refl _) (Blk.at_ rfl) (by simp) (Nat.le_refl _) (by simp only [maxLen]; omega) (by rw [List.take_of_length_le (by simp)]; rfl), (Below.refl _ _).alloc (Nat.le_refl _) _⟩
def SplitJ (c : UInt8) (s : ByteArray) (k q : Nat) (L : List ByteArray) : Prop :=
 jbb c s = L ++ jbb c (s.extract q s.size) ∧ ∀ j (hj : j < s.size), q ≤ j → j < k → s[j] ≠ c
theorem SplitJ.zero (c : UInt8) (s : ByteArray) : SplitJ c s 0 0 [] := ⟨by rw [ByteArray.extract_zero_size, List.nil_append], fun j _ _ h => absurd h (by omega)⟩
theorem SplitJ.skip {c : UInt8} {s : ByteArray} {k q : Nat} {L : List ByteArray} (h : SplitJ c s k q L) (hk : k < s.size) (h1 : s[k] ≠ c) : SplitJ c s (k + 1) q L :=
 ⟨h.1, fun j hj h2 h3 => by
   by_cases e : j = k
   ·subst e; exact h1
   ·exact h.2 j hj h2 (by omega)⟩
theorem jf7 (s : ByteArray) (q : Nat) : (s.extract q s.size).data.toList = s.data.toList.drop q := by
 have h3 : s.data.toList.length = s.size := by simp
 rw [Lib.extract_to_end]
theorem jnj {c : UInt8} {s : ByteArray} {k q : Nat} (hk : k ≤ s.size) (h : ∀ j (hj : j < s.size), q ≤ j → j < k → s[j] ≠ c) : ∀ x ∈ (s.data.toList.drop q).take (k - q), x ≠ c := by
 intro x hx
 obtain ⟨i, hi, rfl⟩ := List.getElem_of_mem hx
 rw [List.length_take, List.length_drop] at hi
 have h3 : s.data.toList.length = s.size := by simp
 rw [List.getElem_take, List.getElem_drop]
 exact h (q + i) (by omega) (by omega) (by omega)
theorem SplitJ.hit {c : UInt8} {s : ByteArray} {k q : Nat} {L : List ByteArray} (h : SplitJ c s k q L) (hq : q ≤ k) (hk : k < s.size) (h1 : s[k] = c) : SplitJ c s (k + 1) (k + 1) (L ++ [s.extract q k]) := by
 refine ⟨?_, fun j _ h2 h3 => absurd h3 (by omega)⟩
 have h3 : s.data.toList.length = s.size := by simp
 have hp := jnj (Nat.le_of_lt hk) h.2
 have hd : s.data.toList.drop q = (s.data.toList.drop q).take (k - q) ++ c :: s.data.toList.drop (k + 1) := by
  have h4 : (s.data.toList.drop q).drop (k - q) = c :: s.data.toList.drop (k + 1) := by
   rw [List.drop_drop, show q + (k - q) = k by omega, List.drop_eq_getElem_cons (by omega)]
   exact congrArg (fun x => x :: List.drop (k + 1) s.data.toList) h1
  rw [← h4, List.take_append_drop]
 have he : (s.extract q k) = ⟨((s.data.toList.drop q).take (k - q)).toArray⟩ := by
  refine ByteArray.ext ?_
  rw [ByteArray.data_extract]
  refine Array.ext' ?_
  rw [Array.toList_extract]
 rw [h.1, List.append_assoc]
 congr 1
 unfold jbb
 rw [jf7, jf7, hd, jis _ hp, he]
 rfl
theorem SplitJ.fin {c : UInt8} {s : ByteArray} {q : Nat} {L : List ByteArray} (h : SplitJ c s s.size q L) : jbb c s = L ++ [s.extract q s.size] := by
 have hp := jnj (Nat.le_refl _) h.2
 have h3 : s.data.toList.length = s.size := by simp
 rw [List.take_of_length_le (by rw [List.length_drop]; omega)] at hp
 rw [h.1]
 congr 1
 unfold jbb
 rw [jf7, jg1 hp, ← jf7]
 rfl
theorem jlg (s : ByteArray) (b : UInt8) (z : Int) (w : World) (hz : z = (b.toNat : Int)) (hs : s.size ≤ 3000000) :
  Calls Tryz.prog 55 #[.string s, .int .u8 z] w (jgf w (jbb b s)) := by
 subst hz
 go_enter Tryz.func55, Tryz.ntmps55
 go_wp2_with fail
 have hown0 := ja4 w 9 1
 have hb0 := nB w (.cells #[] 9)
 go_loopw [5, 6, 7] (fun v q' i wr => ∃ (k q : Nat) (L : List ByteArray) (A' : Option Addr) (c' : Nat), k ≤ s.size ∧ q ≤ k ∧ i = .int .i64 k ∧ q' = .int .i64 q ∧ v = .slice A' L.length c' ∧ L.length ≤ k ∧ wr.ownsRow w.heap.size 9 1 (.slice A' L.length c') L.length (jkz L) ∧ Hid (SplitJ b s k q L) ∧ Below w.heap.size w wr) (fun _ _ i _ => s.size - (intOf i).toNat)
 case atStart => exact ⟨0, 0, [], _, _, Nat.zero_le _, Nat.le_refl _, rfl, rfl, rfl, Nat.le_refl _, hown0, Lib.hid (SplitJ.zero b s), hb0⟩
 case round =>
  obtain ⟨k, q, L, A', c', hk, hq, rfl, rfl, rfl, hlo, hown, HI, hb⟩ := hrel
  by_cases hlt : k < s.size
  ·by_cases hc : s[k] = b
   ·have HN := Lib.hid (HI.out.hit hq hlt hc)
    have hbq : ((s[k].toNat : Int) == (b.toNat : Int)) = true := by rw [hc]; simp
    clear HI hc
    go_wp2_with (at_builtin; go_loud (refine jac rfl _ _ _ rfl Tryz.underlying42 jdq rfl (by decide) rfl hown rfl (by simp) (by rfl) (by rfl) (by omega) (by decide) hb.size ?_); intro A2 c2 w2 hown2 ho2 hbb2 hat2)
    go_roundw
    case rel => exact ⟨k + 1, k + 1, L ++ [s.extract q k], A2, c2, by omega, by omega, by go_num, by go_num, by simp, by simp; omega, by simpa [jkz] using hown2, HN, hb.trans hbb2⟩
    case measure => simp [intOf]; omega
   ·have HN := Lib.hid (HI.out.skip hlt hc)
    have hbq : ((s[k].toNat : Int) == (b.toNat : Int)) = false := by
     rw [beq_eq_false_iff_ne]
     intro h
     exact hc (UInt8.toNat_inj.1 (by omega))
    clear HI hc
    go_wp2_with fail
    go_roundw
    case rel => exact ⟨k + 1, q, L, _, _, by omega, by omega, by go_num, rfl, rfl, by omega, hown, HN, hb⟩
    case measure => simp [intOf]; omega
  ·obtain rfl : k = s.size := by omega
   have HE := Lib.hid HI.out.fin
   clear HI
   go_wp2_with (at_builtin; go_loud (refine jac rfl _ _ _ rfl Tryz.underlying42 jdq rfl (by decide) rfl hown rfl (by simp) (by rfl) (by rfl) (by omega) (by decide) hb.size ?_); intro A2 c2 w2 hown2 ho2 hbb2 hat2)
   go_ret
   rw [HE.out]
   exact ⟨A2, c2, by simp, by simpa [jkz] using hown2, hb.trans hbb2⟩
theorem jps (sep y x : List UInt8) (r : List (List UInt8)) : Lib.join ((x :: r) ++ [y]) sep = Lib.join (x :: r) sep ++ sep ++ y := by
 rw [List.cons_append, Lib.join_cons, Lib.join_cons]
 simp [Lib.joinTail]
def jfc (xs : List Int) : ByteArray := ⟨(Lib.join (xs.map Lib.itoa) [32]).toArray⟩
def jbq (xs : List Int) : ByteArray := if xs = [] then ⟨#[110, 111, 110, 101]⟩ else jfc xs
theorem jix (x : Int) : jfc [x] = jbe x := by
 unfold jfc jbe
 rw [List.map_singleton, Lib.join_one]
theorem jgq {xs : List Int} (h : xs ≠ []) (y : Int) : jfc (xs ++ [y]) = jfc xs ++ ⟨#[32]⟩ ++ jbe y := by
 cases xs with
 | nil => exact absurd rfl h
 | cons x r =>
  unfold jfc jbe
  rw [List.map_append, List.map_cons, List.map_singleton, jps]
  refine ByteArray.ext ?_
  simp
theorem ja2 {z : Int} (h0 : -1000000000 ≤ z) (h1 : z ≤ 1000000000) : (jbe z).size ≤ 11 := by
 rcases je3 z with ⟨n, rfl, e⟩ | ⟨n, rfl, h2, e⟩
 ·rw [e]
  have := jcg n 10 (by omega) (by decide)
  omega
 ·rw [e]
  have := jcg n 10 (by omega) (by decide)
  have h3 : (⟨#[45]⟩ ++ jcf n : ByteArray).size = 1 + (jcf n).size := by rw [ByteArray.size_append]; rfl
  omega
theorem jgj : ∀ (k : Nat) (xs : List Int), xs.length = k → (∀ x ∈ xs, -1000000000 ≤ x ∧ x ≤ 1000000000) → (jfc xs).size ≤ 12 * k
 | 0, xs, hk, _ => by
  obtain rfl := List.eq_nil_of_length_eq_zero hk
  exact Nat.le_refl _
 | k + 1, xs, hk, h => by
  obtain ⟨ys, y, rfl⟩ : ∃ ys y, xs = ys ++ [y] := ⟨xs.dropLast, xs.getLast (by intro e; rw [e] at hk; cases hk), (List.dropLast_concat_getLast _).symm⟩
  rw [List.length_append, List.length_singleton] at hk
  have hy := h y (by simp)
  have h2 := ja2 hy.1 hy.2
  by_cases hn : ys = []
  ·subst hn
   rw [List.nil_append, jix]
   omega
  ·have ih := jgj k ys (by omega) (fun x hx => h x (by simp [hx]))
   rw [jgq hn, ByteArray.size_append, ByteArray.size_append]
   have h3 : (⟨#[32]⟩ : ByteArray).size = 1 := rfl
   omega
theorem jk6 (xs : List Int) : Lib.join ((xs.map jbe).map (·.data.toList)) [32] = Lib.join (xs.map Lib.itoa) [32] := by
 rw [List.map_map]
 congr 1
theorem jdx (A : Option Addr) (n c lo : Nat) (xs : List Int) (w : World) (hx : Sees w lo 1 A n (jb4 xs)) (hn : n ≤ 1000) (hb : ∀ x ∈ xs, -1000000000 ≤ x ∧ x ≤ 1000000000) (hg : Gl w) :
  Calls Tryz.prog 135 #[.slice A n c] w fun e w' => e = .returned (.string (jbq xs)) ∧ Below w.heap.size w w' := by
 have hl := hx.icount
 by_cases h0 : n = 0
 ·subst h0
  have HR := Lib.hid (show jbq xs = ⟨#[110, 111, 110, 101]⟩ by unfold jbq; rw [if_pos (List.eq_nil_of_length_eq_zero hl)])
  clear hl
  go_enter Tryz.func135, Tryz.ntmps135
  go_wp2_with fail
  go_ret
  rw [HR.out]
  exact ⟨rfl, Below.refl _ _⟩
 have f0 : ((n : Int) == 0) = false := beq_eq_false_iff_ne.2 (by omega)
 have HLN := Lib.hid hl
 have hne : xs ≠ [] := fun e => by rw [e] at hl; exact h0 hl.symm
 have HM := Lib.hid (show jbq xs = jfc xs by unfold jbq; rw [if_neg hne])
 clear hne hl h0
 go_enter Tryz.func135, Tryz.ntmps135
 go_wp2_with fail
 have hown0 := ja4 w 9 1
 have hb0 := nB w (.cells #[] 9)
 go_loopw [3, 12] (fun v i wr => ∃ (k : Nat) (A' : Option Addr) (c' : Nat), k ≤ n ∧ i = .int .i64 (k : Int) ∧ v = .slice A' k c' ∧ wr.ownsRow w.heap.size 9 1 (.slice A' k c') k (jkz ((xs.take k).map jbe)) ∧ Below w.heap.size w wr) (fun _ i _ => n - (intOf i).toNat)
 case atStart => exact ⟨0, _, _, Nat.zero_le _, rfl, rfl, hown0, hb0⟩
 case round =>
  obtain ⟨k, A', c', hk, rfl, rfl, hown, hbk⟩ := hrel
  by_cases hlt : k < n
  ·obtain ⟨b, off, rfl, hkx, x0⟩ := (hx.next hbk).int hlt
   have hbd := hb xs[k] (List.getElem_mem hkx)
   have HN := Lib.hid (show jkz ((xs.take (k + 1)).map jbe) = jkz ((xs.take k).map jbe) ++ [.string (jbe xs[k])] by
    rw [List.take_succ_eq_append_getElem hkx, List.map_append]
    simp [jkz])
   obtain ⟨x, hxk⟩ : ∃ x, xs[k] = x := ⟨_, rfl⟩
   rw [hxk] at x0 hbd HN
   clear hxk
   obtain ⟨hx1, hx2⟩ := hbd
   have hgr := hg.next hbk
   have hlti : (k : Int) < (n : Int) := by omega
   have hblt := World.block_lt_of_cell? wr _ x0
   have zr := hbk.size
   go_wp2_with fail
   refine (jbh x wr hx1 hx2 hgr).mono ?_
   rintro e w2 ⟨rfl, b2⟩
   have hown2 := jad hown b2
   have z2 := b2.size
   clear x0
   go_wp2_with (at_builtin; go_loud (refine jac rfl _ _ _ rfl Tryz.underlying42 jdq rfl (by decide) rfl hown2 rfl (by simp) (by rfl) (by rfl) (by omega) (by decide) (by omega) ?_); intro A3 c3 w3 hown3 ho3 hbb3 hat3)
   go_roundw
   case rel => exact ⟨k + 1, A3, c3, by omega, by go_num, rfl, by rw [HN.out]; exact hown3, (hbk.trans (b2.mono zr)).trans hbb3⟩
   case measure => simp [intOf]; omega
  ·obtain rfl : k = n := by omega
   have hlti : ¬ (k : Int) < (k : Int) := by omega
   have hlx : ((xs.take k).map jbe).length = k := by rw [List.length_map, List.length_take, HLN.out, Nat.min_self]
   have hks : xs.take k = xs := List.take_of_length_le (by rw [HLN.out]; exact Nat.le_refl _)
   rw [hks] at hown hlx
   have hpos : 0 < k := by
    by_cases h : k = 0
    ·subst h; cases f0
    ·omega
   rcases jby hown with ⟨-, h2, -, -⟩ | ⟨g, cur, rfl, hg1, hB, hcl, hnc, hcm, htk⟩
   ·omega
   have hcells : ∀ (j : Nat) x, (xs.map jbe)[j]? = some x → wr.cell? ⟨g, 0 + j, none⟩ = some (.string x) := fun j x hj => by
    have hj2 : j < k := by rw [← hlx]; exact (List.getElem?_eq_some_iff.1 hj).1
    rw [Nat.zero_add, hB.cell]
    have h3 : (cur.take (k * 1))[j]? = some (.string x) := by
     rw [htk]
     unfold jkz
     rw [List.getElem?_map, hj]
     rfl
    rw [List.getElem?_take, if_pos (by omega)] at h3
    exact h3
   have hsz := jgj k xs HLN.out hb
   have hjl : (Lib.join ((xs.map jbe).map (·.data.toList)) (⟨#[32]⟩ : ByteArray).data.toList).length ≤ 140737488355328 := by
    have h4 : (⟨#[32]⟩ : ByteArray).data.toList = [32] := rfl
    rw [h4, jk6]
    have h5 : (jfc xs).size = (Lib.join (xs.map Lib.itoa) [32]).length := by unfold jfc; exact List.size_toArray
    omega
   have HJ := Lib.hid (show (⟨(Lib.join ((xs.map jbe).map (·.data.toList)) (⟨#[32]⟩ : ByteArray).data.toList).toArray⟩ : ByteArray) = jfc xs by
    have h4 : (⟨#[32]⟩ : ByteArray).data.toList = [32] := rfl
    rw [h4, jk6]
    rfl)
   have HC := Lib.hid (jiu g 0 c' (xs.map jbe) ⟨#[32]⟩ wr hcells hB.lt (by rw [hlx]; omega) (by rw [hlx]; exact hnc) hjl)
   rw [hlx] at HC
   clear hcells hjl hsz htk hcl hown
   go_wp2_with fail
   refine HC.out.mono ?_
   rw [HJ.out]
   rintro e w2 ⟨rfl, b2⟩
   go_wp2_with fail
   go_ret
   rw [HM.out]
   exact ⟨rfl, hbk.trans (b2.mono hbk.size)⟩
theorem jfo (A : Option Addr) (n c lo : Nat) (xs : List Int) (ok : Bool) (w : World) (hx : Sees w lo 1 A n (jb4 xs)) (hn : n ≤ 1000) (hb : ∀ x ∈ xs, -1000000000 ≤ x ∧ x ≤ 1000000000) :
  Calls Tryz.prog 85 #[.slice A n c, .bool ok] w fun e w' => e = .returned (.string (if ok then jbq xs else ⟨#[63]⟩)) ∧ Quiet w w' := by
 have hl := hx.icount
 cases ok
 ·clear hl
  go_enter Tryz.func85, Tryz.ntmps85
  go_wp2_with fail
  go_ret
  exact ⟨rfl, Quiet.refl _⟩
 by_cases h0 : n = 0
 ·subst h0
  have HR := Lib.hid (show jbq xs = ⟨#[110, 111, 110, 101]⟩ by unfold jbq; rw [if_pos (List.eq_nil_of_length_eq_zero hl)])
  clear hl
  go_enter Tryz.func85, Tryz.ntmps85
  go_wp2_with fail
  go_ret
  rw [HR.out]
  exact ⟨rfl, Quiet.refl _⟩
 have f0 : ((n : Int) == 0) = false := beq_eq_false_iff_ne.2 (by omega)
 have HLN := Lib.hid hl
 have hne : xs ≠ [] := fun e => by rw [e] at hl; exact h0 hl.symm
 have HM := Lib.hid (show jbq xs = jfc xs by unfold jbq; rw [if_neg hne])
 obtain ⟨b, off, rfl, hkx, x0⟩ := hx.int (show 0 < n by omega)
 have hbd := hb xs[0] (List.getElem_mem hkx)
 have HO := Lib.hid (show jfc (xs.take 1) = jbe xs[0] by rw [List.take_one, List.head?_eq_getElem?, List.getElem?_eq_getElem hkx]; exact jix _)
 have hpi : (0 : Int) < (n : Int) := by omega
 have hp1 : 1 ≤ n := by omega
 obtain ⟨x, hxk⟩ : ∃ x, xs[0] = x := ⟨_, rfl⟩
 rw [hxk] at x0 hbd HO
 rw [Nat.add_zero] at x0
 obtain ⟨hx1, hx2⟩ := hbd
 have hblt := World.block_lt_of_cell? w _ x0
 clear hne hl h0 hxk
 go_enter Tryz.func85, Tryz.ntmps85
 go_wp2_with fail
 refine (jau x w hx1 hx2).mono ?_
 rintro e w1 ⟨rfl, q1⟩
 clear x0
 go_wp2_with fail
 go_loopw [5, 6] (fun s i wr => ∃ (k : Nat) (t : ByteArray), 1 ≤ k ∧ k ≤ n ∧ i = .int .i64 (k : Int) ∧ s = .string t ∧ Hid (t = jfc (xs.take k)) ∧ Quiet w wr) (fun _ i _ => n - (intOf i).toNat)
 case atStart => exact ⟨1, _, Nat.le_refl _, hp1, rfl, rfl, Lib.hid HO.out.symm, q1⟩
 case round =>
  obtain ⟨k, t, hk1, hk, rfl, rfl, HT, q⟩ := hrel
  by_cases hlt : k < n
  ·obtain ⟨b2, off2, e2, hkx2, x1⟩ := (hx.quiet q).int hlt
   injection e2 with e2
   injection e2 with e3 e4 _
   subst e3 e4
   have hbd := hb xs[k] (List.getElem_mem hkx2)
   have hsz := jgj k (xs.take k) (by rw [List.length_take, HLN.out]; omega) (fun y hy => hb y (List.mem_of_mem_take hy))
   rw [← HT.out] at hsz
   have HN := Lib.hid (show t ++ ⟨#[32]⟩ ++ jbe xs[k] = jfc (xs.take (k + 1)) by
    rw [List.take_succ_eq_append_getElem hkx2, jgq (by
     intro e
     have h5 : (xs.take k).length = 0 := by rw [e]; rfl
     rw [List.length_take, HLN.out] at h5
     omega), HT.out])
   obtain ⟨y, hyk⟩ : ∃ y, xs[k] = y := ⟨_, rfl⟩
   rw [hyk] at x1 hbd HN
   clear hyk
   obtain ⟨hy1, hy2⟩ := hbd
   have hys := ja2 hy1 hy2
   have hlti : (k : Int) < (n : Int) := by omega
   have hs1 : ¬ 9223372036854775807 < t.size + 1 := by omega
   have hs2 : ¬ 9223372036854775807 < t.size + 1 + (jbe y).size := by omega
   go_wp2_with fail
   refine (jau y _ hy1 hy2).mono ?_
   rintro e w2 ⟨rfl, q2⟩
   clear x1
   go_wp2_with fail
   go_roundw
   case rel => exact ⟨k + 1, t ++ ⟨#[32]⟩ ++ jbe y, by omega, by omega, by go_num, rfl, HN, q.trans q2⟩
   case measure => simp [intOf]; omega
  ·obtain rfl : k = n := by omega
   have hlti : ¬ (k : Int) < (k : Int) := by omega
   have HE := Lib.hid (show t = jfc xs by rw [HT.out, List.take_of_length_le (by rw [HLN.out]; exact Nat.le_refl _)])
   go_wp2_with fail
   go_ret
   rw [HM.out, HE.out]
   exact ⟨rfl, q⟩
end Go.Proofs.YtflpcdffmpfdpaaGreatDoor
