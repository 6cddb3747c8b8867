/- Joined texts of this proof: RecD, Num, Seal, ShelfKZDP. -/
import Derived.Lib.IndexAny
import Derived.Lib.ItoaMem
import Derived.Lib.SmallJoins
import Derived.Shelf.Strings.Builder1
import Derived.Shelf.Strings.Builder2
import Derived.Shelf.Strings.OnBuilder
import Derived.Shelf.Small.Wraps
import Derived.Shelf.Strings.BuilderF
import Derived.Shelf.Strings.BuilderK
import Derived.Shelf.Utf8.RuneCount
import Derived.Shelf.Strings.Builder2Cap
import Derived.Shelf.Strconv.Atoi
import Derived.Shelf.Strconv.Itoa0
import Derived.Shelf.Strconv.Itoa1
import Derived.Shelf.LaysM
import Derived.Shelf.Strconv.Itoa2
import Derived.Shelf.Strconv.Itoa3
import Derived.Shelf.Strconv.AtoiErrFast
import Derived.Shelf.Strconv.ParseIntEmpty
import Derived.Shelf.Strconv.AtoiFail
import Derived.Shelf.Strconv.Clone
import Derived.Shelf.Strconv.SyntaxError
import Derived.Shelf.LaysC
import Derived.Shelf.Strconv.ToError
import Derived.Shelf.Strconv.AtoiErr
import Derived.Shelf.Strconv.ErrVar
import Derived.Shelf.Strconv.Lower
import Derived.Shelf.Strconv.ParseUint10
import Derived.Shelf.Strconv.ParseUint10Empty
import Derived.Shelf.Strconv.ParseUint10Any
import Derived.Shelf.Strconv.ParseInt10
import Derived.Shelf.Strconv.AtoiLong
import Derived.Shelf.Strconv.AtoiInnerAll
import Derived.Shelf.Strconv.RangeError
import Derived.Shelf.Strconv.ToErrorRange
import Derived.Shelf.Strconv.AtoiAll
import Derived.Shelf.Strconv.ErrVarAll
import Derived.Shelf.Strconv.ParseUintEmpty
import Derived.Shelf.Strconv.ParseUint10b64
import Derived.Shelf.Strconv.ParseUint10b32
import Derived.Shelf.Strconv.ParseUint10b16
import Derived.Shelf.Strconv.ParseUint10b8
import Derived.Shelf.Strconv.ParseUint10At
import Derived.Shelf.Strings.Search1
import Derived.Shelf.Strings.Search2
import Derived.Shelf.Strings.Search3
import Derived.Shelf.Strings.Cut
import Derived.Shelf.Strings.Count
import Derived.Shelf.Strings.Shaped
import Derived.Shelf.Strings.Split
import Derived.Shelf.Strings.SplitShaped
import Derived.Shelf.Unicode.Decode
import Derived.Shelf.Strings.RuneCount
import Derived.Shelf.Strings.Explode
import Derived.Shelf.Unicode.DecodeSlow
import Derived.Shelf.Unicode.DecodeAny
import Derived.Shelf.Strings.BuilderCap
import Derived.Ground.Names2Prog
import Derived.Shelf.Slices.SearchI
import Derived.Test.YtflpcdffmpfdpaaGreatDoorChecked
import Derived.Test.YtflpcdffmpfdpaaGreatDoorB11
import Derived.Test.YtflpcdffmpfdpaaGreatDoorB02
import Derived.Test.YtflpcdffmpfdpaaGreatDoorB01
set_option maxRecDepth 100000
set_option maxHeartbeats 8000000
namespace Go.Proofs.YtflpcdffmpfdpaaGreatDoor
open Go.RowKit
def jfd (c : UInt8) : Bool := decide (32 ≤ c.toNat) && decide (c.toNat ≤ 126) && !decide (c.toNat = 35)
def jdf (s : ByteArray) : Bool := s.data.toList.all jfd
def jde (b : UInt8) (s : ByteArray) : Bool := s.data.toList.contains b
def jgb (e : LogRecord) : Bool := inB e.command.size 1 160 && decide (e.reply.size ≤ 200) && jdf e.command && jdf e.reply && !jde 64 e.command
theorem jf9 {c : UInt8} : jfd c = true ↔ (32 ≤ (c.toNat : Int) ∧ (c.toNat : Int) ≤ 126) ∧ (c.toNat : Int) ≠ 35 := by simp [jfd]; omega
theorem jij (c : UInt8) : IntKind.i64.wrap (c.toNat : Int) = c.toNat := by
 have := c.toNat_lt
 rw [IntKind.wrap_i64]; omega
theorem ji5 (s : ByteArray) (b : UInt8) (k : Nat) (hk : k < s.size) (h : s[k] = b) : jde b s = true := by
 rw [jde, List.contains_iff_mem]
 exact h ▸ List.mem_of_getElem (i := k) (h := by simpa using hk) rfl
theorem jgw (s : ByteArray) (b : UInt8) (h : ∀ k (hk : k < s.size), s[k] ≠ b) : jde b s = false := by
 rw [jde, ← Bool.not_eq_true, List.contains_iff_mem]
 intro hm
 obtain ⟨k, hk, rfl⟩ := List.getElem_of_mem hm
 exact h k (by simpa using hk) rfl
theorem jmt (s : ByteArray) (w : World) (hs : s.size ≤ 9223372036854775807) :
  Calls Tryz.prog 91 #[.string s] w fun e w' => e = .returned (.bool (jdf s)) ∧ w = w' := by
 go_enter Tryz.func91, Tryz.ntmps91
 go_wp2
 go_loop [3] (fun i => ∃ k : Nat, k ≤ s.size ∧ i = .int .i64 k ∧ ∀ j (hj : j < s.size), j < k → jfd s[j] = true) (fun i => s.size - (intOf i).toNat)
 case atStart => exact ⟨0, Nat.zero_le _, rfl, fun j _ h => absurd h (by omega)⟩
 case round =>
  obtain ⟨k, hk, rfl, ha⟩ := hrel
  by_cases hlt : k < s.size
  ·cases g : jfd s[k]
   ·have hn : ¬ ((32 ≤ (s[k].toNat : Int) ∧ (s[k].toNat : Int) ≤ 126) ∧ (s[k].toNat : Int) ≠ 35) := fun h => by rw [jf9.2 h] at g; cases g
    have hr := Lib.hid (show jdf s = false by rw [jdf, jlt s k hlt g])
    clear g ha
    by_cases p1 : (s[k].toNat : Int) < 32
    ·go_wp2
     all_goals first | (go_ret; exact ⟨jab hr.out.symm, rfl⟩) | (exfalso; omega)
    ·by_cases p2 : 126 < (s[k].toNat : Int)
     ·go_wp2
      all_goals first | (go_ret; exact ⟨jab hr.out.symm, rfl⟩) | (exfalso; omega)
     ·have h35 : ((s[k].toNat : Int) == 35) = true := by simp; omega
      go_wp2
      all_goals first | (go_ret; exact ⟨jab hr.out.symm, rfl⟩) | (exfalso; omega)
   ·have hn := jf9.1 g
    have ha' := Lib.hid (show ∀ j (hj : j < s.size), j < k + 1 → jfd s[j] = true by
     intro j hj h
     by_cases hjk : j = k
     ·subst hjk; exact g
     ·exact ha j hj (by omega))
    clear g ha
    have p1 : ¬ (s[k].toNat : Int) < 32 := by omega
    have p2 : ¬ 126 < (s[k].toNat : Int) := by omega
    have h35 : ((s[k].toNat : Int) == 35) = false := by simp; omega
    go_wp2
    go_round
    case rel => exact ⟨k + 1, by omega, by go_num, ha'.out⟩
    case measure => simp [intOf]; omega
  ·have hr := Lib.hid (show jdf s = true by rw [jdf, jlz s fun j hj => ha j hj (by omega)])
   clear ha
   go_wp2
   go_ret
   exact ⟨jab hr.out.symm, rfl⟩
theorem jk2 (s : ByteArray) (m : Int) (w : World) (hs : s.size ≤ 9223372036854775807) :
  Calls Tryz.prog 79 #[.string s, .int .i64 m] w fun e w' => e = .returned (.bool (jdf s && decide ((s.size : Int) ≤ m))) ∧ w = w' := by
 go_enter Tryz.func79, Tryz.ntmps79
 go_wp2
 go_loop [5] (fun i => ∃ k : Nat, k ≤ s.size ∧ i = .int .i64 k ∧ ∀ j (hj : j < s.size), j < k → jfd s[j] = true) (fun i => s.size - (intOf i).toNat)
 case atStart => exact ⟨0, Nat.zero_le _, rfl, fun j _ h => absurd h (by omega)⟩
 case round =>
  obtain ⟨k, hk, rfl, ha⟩ := hrel
  by_cases hlt : k < s.size
  ·have hwr := jij s[k]
   cases g : jfd s[k]
   ·have hn : ¬ ((32 ≤ (s[k].toNat : Int) ∧ (s[k].toNat : Int) ≤ 126) ∧ (s[k].toNat : Int) ≠ 35) := fun h => by rw [jf9.2 h] at g; cases g
    have hr := Lib.hid (show (jdf s && decide ((s.size : Int) ≤ m)) = false by rw [jdf, jlt s k hlt g]; rfl)
    clear g ha
    cases gi : inB (s[k].toNat : Int) 32 126
    ·go_wp2_with (go_at_call 111; refine (jae _ _ _ _).mono ?_; rintro e w' ⟨rfl, rfl⟩)
     go_ret
     exact ⟨jab hr.out.symm, rfl⟩
    ·have h35 : (s[k].toNat : Int) = 35 := by have := jaq gi; omega
     have h35' : ((s[k].toNat : Int) == 35) = true := by simp [h35]
     go_wp2_with (go_at_call 111; refine (jae _ _ _ _).mono ?_; rintro e w' ⟨rfl, rfl⟩)
     all_goals first | (go_ret; exact ⟨jab hr.out.symm, rfl⟩) | (exfalso; omega)
   ·have hn := jf9.1 g
    have ha' := Lib.hid (show ∀ j (hj : j < s.size), j < k + 1 → jfd s[j] = true by
     intro j hj h
     by_cases hjk : j = k
     ·subst hjk; exact g
     ·exact ha j hj (by omega))
    clear g ha
    have gi : inB (s[k].toNat : Int) 32 126 = true := by simp [inB]; omega
    have h35' : ((s[k].toNat : Int) == 35) = false := by simp; omega
    go_wp2_with (go_at_call 111; refine (jae _ _ _ _).mono ?_; rintro e w' ⟨rfl, rfl⟩)
    go_round
    case rel => exact ⟨k + 1, by omega, by go_num, ha'.out⟩
    case measure => simp [intOf]; omega
  ·have hr := Lib.hid (show jdf s = true by rw [jdf, jlz s fun j hj => ha j hj (by omega)])
   clear ha
   go_wp2
   go_ret
   exact ⟨jab (by rw [hr.out]; rfl), rfl⟩
theorem jl8 (s : ByteArray) (b : UInt8) (w : World) (hs : s.size ≤ 9223372036854775807) :
  Calls Tryz.prog 80 #[.string s, .int .u8 (b.toNat : Int)] w fun e w' => e = .returned (.bool (jde b s)) ∧ w = w' := by
 go_enter Tryz.func80, Tryz.ntmps80
 go_wp2
 go_loop [5] (fun i => ∃ k : Nat, k ≤ s.size ∧ i = .int .i64 k ∧ ∀ j (hj : j < s.size), j < k → s[j] ≠ b) (fun i => s.size - (intOf i).toNat)
 case atStart => exact ⟨0, Nat.zero_le _, rfl, fun j _ h => absurd h (by omega)⟩
 case round =>
  obtain ⟨k, hk, rfl, ha⟩ := hrel
  by_cases hlt : k < s.size
  ·have e1 : ((s[k].toNat : Int) == (b.toNat : Int)) = (s[k] == b) := by
    rw [Bool.eq_iff_iff]; simp only [beq_iff_eq, Int.natCast_inj]; exact UInt8.toNat_inj
   cases g : (s[k] == b)
   ·rw [g] at e1
    have ha' := Lib.hid (show ∀ j (hj : j < s.size), j < k + 1 → s[j] ≠ b by
     intro j hj h
     by_cases hjk : j = k
     ·subst hjk; simpa using g
     ·exact ha j hj (by omega))
    clear g ha
    go_wp2
    go_round
    case rel => exact ⟨k + 1, by omega, by go_num, ha'.out⟩
    case measure => simp [intOf]; omega
   ·rw [g] at e1
    have hr := Lib.hid (show jde b s = true from ji5 s b k hlt (by simpa using g))
    clear g ha
    go_wp2
    go_ret
    exact ⟨jab hr.out.symm, rfl⟩
  ·have hr := Lib.hid (show jde b s = false from jgw s b fun j hj => ha j hj (by omega))
   clear ha
   go_wp2
   go_ret
   exact ⟨jab hr.out.symm, rfl⟩
theorem jbo (x : LogRecord) (w : World) (h : x.upto 9223372036854775807) : Calls Tryz.prog 48 #[.agg #[x.command, x.reply]] w fun e w' => e = .returned (.bool (jgb x)) ∧ Below w.heap.size w w' := by
 unfold LogRecord.upto at h
 go_enter Tryz.func48, Tryz.ntmps48
 go_wp2_with (first | (go_at_call 70; refine (jaf _ _ _ _).mono ?_; rintro e w' ⟨rfl, rfl⟩) | (go_at_call 91; refine (jmt _ _ (by first | exact h.1 | exact h.2)).mono ?_; rintro e w' ⟨rfl, rfl⟩) | (go_at_call 92; refine (jcu _ 64 _).mono ?_; rw [← Lib.contains_iff_indexByte, show ∀ s : ByteArray, s.data.toList.contains 64 = jde 64 s from fun _ => rfl]; rintro e w' ⟨rfl, rfl⟩))
 all_goals go_ret
 all_goals refine ⟨jab ?_, (Below.refl _ _).alloc (Nat.le_refl _) _⟩
 all_goals (rw [Bool.eq_iff_iff]; simp [jgb, *]; try omega)
theorem jcm (x : LogRecord) (w : World) (h : x.upto 9223372036854775807) : Calls Tryz.prog 43 #[.agg #[x.command, x.reply]] w fun e w' => e = .returned (.bool (jgb x)) ∧ Below w.heap.size w w' := by
 unfold LogRecord.upto at h
 by_cases h0 : x.command = ByteArray.empty
 ·have hr := Lib.hid (show jgb x = false by unfold jgb; rw [h0]; rfl)
  go_enter Tryz.func43, Tryz.ntmps43
  go_wp2
  go_ret
  exact ⟨jab hr.out.symm, (Below.refl _ _).alloc (Nat.le_refl _) _⟩
 ·have h1 : 1 ≤ x.command.size := by
   rcases Nat.eq_zero_or_pos x.command.size with hz | hz
   ·exact absurd (ByteArray.ext (Array.eq_empty_of_size_eq_zero hz)) h0
   ·exact hz
  have hl : ¬ x.command.toList = [] := fun hn => h0 (ByteArray.ext (by rw [ByteArray.toList_eq] at hn; exact Array.toList_eq_nil_iff.1 hn))
  go_enter Tryz.func43, Tryz.ntmps43
  go_wp2_with (first | (go_at_call 79; refine (jk2 _ _ _ (by first | exact h.1 | exact h.2)).mono ?_; rintro e w' ⟨rfl, rfl⟩) | (go_at_call 80; refine (jl8 _ 64 _ (by first | exact h.1 | exact h.2)).mono ?_; rintro e w' ⟨rfl, rfl⟩))
  all_goals go_ret
  all_goals refine ⟨jab ?_, (Below.refl _ _).alloc (Nat.le_refl _) _⟩
  all_goals (rw [Bool.eq_iff_iff]; simp [jgb, inB, *]; try grind)
def jcf (n : Nat) : ByteArray := ⟨(Lib.decDigits n).toArray⟩
theorem jj4 {n : Nat} (h : n < 10) : jcf n = ⟨#[UInt8.ofNat (48 + n)]⟩ := by
 unfold jcf
 rw [Lib.decDigits, dif_pos h]
theorem jp2 {n : Nat} (h : ¬ n < 10) : jcf n = jcf (n / 10) ++ ⟨#[UInt8.ofNat (48 + n % 10)]⟩ := by
 unfold jcf
 rw [Lib.decDigits, dif_neg h]
 apply ByteArray.ext
 simp
theorem jcg (n d : Nat) (h : n < 10 ^ d) (hd : 1 ≤ d) : (jcf n).size ≤ d := by
 unfold jcf
 show (Lib.decDigits n).toArray.size ≤ d
 rw [List.size_toArray, Lib.decDigits_length]
 induction d generalizing n with
 | zero => omega
 | succ d ih =>
  by_cases h1 : n < 10
  ·rw [Lib.nDigits_small h1]; omega
  ·rw [Lib.nDigits_big h1]
   have hd1 : 1 ≤ d := by
    rcases Nat.eq_zero_or_pos d with rfl | hp
    ·simp at h; omega
    ·exact hp
   have := ih (n / 10) (Nat.div_lt_of_lt_mul (by rw [Nat.pow_succ] at h; omega)) hd1
   omega
theorem jnr (n : Nat) : 1 ≤ (jcf n).size := by
 unfold jcf
 show 1 ≤ (Lib.decDigits n).toArray.size
 rw [List.size_toArray, Lib.decDigits_length]
 exact Lib.nDigits_pos n
theorem jqp : ∀ d : Fin 10, (⟨#[48, 49, 50, 51, 52, 53, 54, 55, 56, 57]⟩ : ByteArray).extract d.val (d.val + 1) = ⟨#[UInt8.ofNat (48 + d.val)]⟩ := by decide +kernel
theorem jqo (n : Nat) (h : n < 10) : (⟨#[48, 49, 50, 51, 52, 53, 54, 55, 56, 57]⟩ : ByteArray).extract n (n + 1) = ⟨#[UInt8.ofNat (48 + n)]⟩ := jqp ⟨n, h⟩
theorem jpf (f : Nat) : ∀ (n : Nat) (z : Int) (w : World), z = (n : Int) → n ≤ f → n ≤ 1000000000 →
  Calls Tryz.prog 75 #[.int .i64 z] w fun e w' => e = .returned (.string (jcf n)) ∧ Quiet w w' := by
 induction f with
 | zero =>
  rintro n z w rfl hn _
  obtain rfl : n = 0 := by omega
  have HD := Lib.hid (jj4 (n := 0) (by decide))
  go_enter Tryz.func75, Tryz.ntmps75
  go_wp2_with fail
  go_ret
  exact ⟨by rw [HD.out]; rfl, Quiet.refl _⟩
 | succ f ih =>
  rintro n z w rfl hn hb
  by_cases h : n < 10
  ·have HD := Lib.hid ((jj4 h).trans (jqo n h).symm)
   go_enter Tryz.func75, Tryz.ntmps75
   go_wp2_with fail
   go_ret
   exact ⟨by rw [HD.out]; rfl, Quiet.refl _⟩
  ·have HD := Lib.hid (jp2 h)
   have HE := Lib.hid (jqo (n % 10) (Nat.mod_lt _ (by decide)))
   have IH := Lib.hid ih
   have hm : n % 10 < 10 := Nat.mod_lt _ (by decide)
   have hq : n / 10 ≤ f := by omega
   have hq2 : n / 10 ≤ 1000000000 := by omega
   have hz : (n : Int) / 10 = ((n / 10 : Nat) : Int) := by omega
   have Hz := Lib.hid hz
   clear hz
   clear ih
   go_enter Tryz.func75, Tryz.ntmps75
   go_wp2_with fail
   have hA1 : (jcf (n / 10)).size ≤ 9 := jcg _ 9 (by omega) (by decide)
   have hD1 : ((⟨#[48, 49, 50, 51, 52, 53, 54, 55, 56, 57]⟩ : ByteArray).extract (n % 10) (n % 10 + 1)).size ≤ 1 := by rw [HE.out]; exact Nat.le_refl _
   have hS1 : (jcf (n / 10)).size + ((⟨#[48, 49, 50, 51, 52, 53, 54, 55, 56, 57]⟩ : ByteArray).extract (n % 10) (n % 10 + 1)).size ≤ 9223372036854775807 := by omega
   have t1 : ((n : Int) % 10).toNat = n % 10 := by omega
   have t2 : ((n : Int) % 10 + 1).toNat = n % 10 + 1 := by omega
   have t3 : (0 : Int) ≤ (n : Int) % 10 := by omega
   have t4 : (n : Int) % 10 ≤ (n : Int) % 10 + 1 := by omega
   have t5 : (n : Int) % 10 + 1 ≤ 10 := by omega
   have t6 : (0 : Int) ≤ (n : Int) % 10 + 1 := by omega
   have t0 : (n : Int).tmod 10 = (n : Int) % 10 := Int.tmod_eq_emod_of_nonneg (by omega)
   have w1 : IntKind.i64.wrap ((n : Int) / 10) = (n : Int) / 10 := IntWalk.i64_in _ (by omega)
   have w2 : IntKind.i64.wrap ((n : Int) % 10) = (n : Int) % 10 := IntWalk.i64_in _ (by omega)
   have w3 : IntKind.i64.wrap ((n : Int) % 10 + 1) = (n : Int) % 10 + 1 := IntWalk.i64_in _ (by omega)
   go_quiet ((go_at_call 75; exact jln (IH.out (n / 10) _ _ Hz.out hq hq2)))
   go_wp2_with fail
   go_ret
   exact ⟨by rw [HD.out, ← HE.out]; rfl, Quiet.mk _ _⟩
theorem jes (n : Nat) (w : World) (hn : n ≤ 1000000000) : Calls Tryz.prog 75 #[.int .i64 (n : Int)] w fun e w' => e = .returned (.string (jcf n)) ∧ Quiet w w' := jpf n n n w rfl (Nat.le_refl _) hn
theorem jik (n : Nat) : ∀ c ∈ Lib.decDigits n, 48 ≤ c.toNat ∧ c.toNat ≤ 57 := by
 induction n using Nat.strongRecOn with
 | _ n ih =>
  have hd : ∀ d, d < 10 → (UInt8.ofNat (48 + d)).toNat = 48 + d := fun d h => by rw [UInt8.toNat_ofNat']; omega
  rw [Lib.decDigits]
  split
  ·rename_i h
   intro c hc
   obtain rfl := List.mem_singleton.1 hc
   rw [hd n h]; omega
  ·rename_i h
   intro c hc
   rcases List.mem_append.1 hc with hc | hc
   ·exact ih (n / 10) (by omega) c hc
   ·obtain rfl := List.mem_singleton.1 hc
    have := Nat.mod_lt n (show 0 < 10 by decide)
    rw [hd _ this]; omega
def jmh (l : List UInt8) : Nat := l.foldl (fun h c => (41 * h + c.toNat + 1) % 999979) 7
def jnu (s : ByteArray) : Nat := jmh s.data.toList
def jfz (s : ByteArray) : ByteArray := s ++ ⟨#[35]⟩ ++ jcf (jnu s)
def jd9 (k : Nat) (e : LogRecord) : ByteArray := jcf k ++ ⟨#[32]⟩ ++ e.command ++ ⟨#[64]⟩ ++ e.reply
def jck (k : Nat) (e : LogRecord) : ByteArray := jfz (jd9 k e) ++ ⟨#[10]⟩
theorem jhr (l : List UInt8) : jmh l < 999979 := by
 unfold jmh
 have : ∀ (l : List UInt8) (h : Nat), h < 999979 → l.foldl (fun h c => (41 * h + c.toNat + 1) % 999979) h < 999979 := by
  intro l
  induction l with
  | nil => exact fun h hh => hh
  | cons c l ih => exact fun h _ => ih _ (Nat.mod_lt _ (by decide))
 exact this l 7 (by decide)
theorem jlo (l : List UInt8) (c : UInt8) : jmh (l ++ [c]) = (41 * jmh l + c.toNat + 1) % 999979 := by
 unfold jmh
 rw [List.foldl_append]; rfl
theorem jlq (s : ByteArray) (k : Nat) (h : k < s.size) : s.data.toList.take (k + 1) = s.data.toList.take k ++ [s[k]] := by
 rw [List.take_succ_eq_append_getElem (by simpa using h)]; rfl
structure Gl (w : World) : Prop where
 tab : Lib.TabIs Tryz.prog w "internal/strconv.uint64pow10" .u64 Lib.pow10Tab
 ml : ∃ m, w.cell? ⟨0, 0, none⟩ = some (.int .i64 m)
theorem gPow : Tryz.prog.globalNamed "internal/strconv.uint64pow10" = some 1 := by kernel_rfl
theorem Gl.next {w w' : World} (h : Gl w) (hb : Below w.heap.size w w') : Gl w' := by
 obtain ⟨m, hm⟩ := h.ml
 refine ⟨Joins.tab_stays gPow h.tab hb (Nat.le_refl _), m, ?_⟩
 rw [(jp1 hb).1 0 0 (World.block_lt_of_cell? w _ hm)]
 exact hm
theorem jjo (w : World) (q : Nat) (os : Array Obj) : Below w.heap.size w (Sort.grow (w.drewN q) os) :=
 ⟨rfl, rfl, rfl, by simp [Sort.grow], fun i hi => by
   show ((w.drewN q).heap ++ os)[i]? = _
   rw [Array.getElem?_append_left (by show i < w.heap.size; omega)]
   rfl⟩
theorem jns (n : Nat) (w : World) (hn : n ≤ 1000000000) (hg : Gl w) :
  Calls Tryz.prog 74 #[.int .i64 (n : Int)] w fun e w' => e = .returned (.string (jcf n)) ∧ Below w.heap.size w w' :=
 (je2 n (by omega) (by omega) w hg.tab).mono fun e w' ⟨he, k, os, hw⟩ => ⟨by rw [he, Lib.itoa_nonneg]; rfl, by rw [hw]; exact jjo _ _ _⟩
theorem jk0 (s : ByteArray) (w : World) (hs : s.size ≤ 9223372036854775807) :
  Calls Tryz.prog 185 #[.string s] w fun e w' => e = .returned (.int .i64 (jnu s : Nat)) ∧ w = w' := by
 go_enter Tryz.func185, Tryz.ntmps185
 go_wp2
 go_loop [3, 4] (fun h i => ∃ k : Nat, k ≤ s.size ∧ i = .int .i64 k ∧ h = .int .i64 (jmh (s.data.toList.take k) : Nat)) (fun _ i => s.size - (intOf i).toNat)
 case atStart => exact ⟨0, Nat.zero_le _, rfl, rfl⟩
 case round =>
  obtain ⟨k, hk, rfl, rfl⟩ := hrel
  by_cases hlt : k < s.size
  ·have hb := jij s[k]
   have hc := s[k].toNat_lt
   have hl := jhr (s.data.toList.take k)
   have HN := Lib.hid (show jmh (s.data.toList.take (k + 1)) = (41 * jmh (s.data.toList.take k) + s[k].toNat + 1) % 999979 by rw [jlq s k hlt, jlo])
   generalize jmh (s.data.toList.take k) = h0 at *
   go_wp2
   go_round
   case rel => exact ⟨k + 1, by omega, by go_num, by rw [HN.out]; first | done | rfl | go_num⟩
   case measure => simp [intOf]; omega
  ·have HR := Lib.hid (show jnu s = jmh (s.data.toList.take k) by rw [jnu, List.take_of_length_le (by simp; omega)])
   go_wp2
   go_ret
   exact ⟨jh3 (by rw [HR.out]), rfl⟩
theorem jpk (s : ByteArray) (w : World) (hs : s.size ≤ 9223372036854775807) :
  Calls Tryz.prog 169 #[.string s] w fun e w' => e = .returned (.int .i64 (jnu s : Nat)) ∧ w = w' := by
 go_enter Tryz.func169, Tryz.ntmps169
 go_wp2
 go_loop [3, 4] (fun h i => ∃ k : Nat, k ≤ s.size ∧ i = .int .i64 k ∧ h = .int .i64 (jmh (s.data.toList.take k) : Nat)) (fun _ i => s.size - (intOf i).toNat)
 case atStart => exact ⟨0, Nat.zero_le _, rfl, rfl⟩
 case round =>
  obtain ⟨k, hk, rfl, rfl⟩ := hrel
  by_cases hlt : k < s.size
  ·have hb := jij s[k]
   have hc := s[k].toNat_lt
   have hl := jhr (s.data.toList.take k)
   have HN := Lib.hid (show jmh (s.data.toList.take (k + 1)) = (41 * jmh (s.data.toList.take k) + s[k].toNat + 1) % 999979 by rw [jlq s k hlt, jlo])
   generalize jmh (s.data.toList.take k) = h0 at *
   go_wp2
   go_round
   case rel => exact ⟨k + 1, by omega, by go_num, by rw [HN.out]; first | done | rfl | go_num⟩
   case measure => simp [intOf]; omega
  ·have HR := Lib.hid (show jnu s = jmh (s.data.toList.take k) by rw [jnu, List.take_of_length_le (by simp; omega)])
   go_wp2
   go_ret
   exact ⟨jh3 (by rw [HR.out]), rfl⟩
theorem jkh (s : ByteArray) : (jcf (jnu s)).size ≤ 6 := jcg _ 6 (Nat.lt_of_lt_of_le (jhr _) (by decide)) (by decide)
theorem jgr (s : ByteArray) : (jfz s).size ≤ s.size + 7 := by
 have := jkh s
 have h1 : (⟨#[35]⟩ : ByteArray).size = 1 := rfl
 unfold jfz
 rw [ByteArray.size_append, ByteArray.size_append]
 omega
theorem jh1 (b : UInt8) (s t : ByteArray) : jde b (s ++ t) = (jde b s || jde b t) := by
 unfold jde
 rw [Bool.eq_iff_iff]
 simp [ByteArray.data_append]
theorem jke (b : UInt8) (n : Nat) (h : b.toNat < 48 ∨ 57 < b.toNat) : jde b (jcf n) = false := by
 unfold jde jcf
 rw [← Bool.not_eq_true, List.contains_iff_mem]
 intro hm
 have := jik n b (by simpa using hm)
 omega
theorem jnn {s : ByteArray} (h : jdf s = true) (b : UInt8) (hb : jfd b = false) : jde b s = false := by
 unfold jde
 rw [← Bool.not_eq_true, List.contains_iff_mem]
 intro hm
 unfold jdf at h
 have := List.all_eq_true.1 h b hm
 rw [hb] at this; cases this
theorem jdn {e : LogRecord} (h : jgb e = true) : (1 ≤ e.command.size ∧ e.command.size ≤ 160) ∧ e.reply.size ≤ 200 ∧ jdf e.command = true ∧ jdf e.reply = true ∧ jde 64 e.command = false := by
 unfold jgb at h
 simp only [Bool.and_eq_true, decide_eq_true_eq, Bool.not_eq_true'] at h
 have := jaq h.1.1.1.1
 exact ⟨by omega, h.1.1.1.2, h.1.1.2, h.1.2, h.2⟩
theorem jos {k : Nat} {e : LogRecord} (h : jgb e = true) : jde 35 (jd9 k e) = false := by
 obtain ⟨_, _, h1, h2, _⟩ := jdn h
 unfold jd9
 simp only [jh1, jke 35 k (by decide), jnn h1 35 (by decide), jnn h2 35 (by decide)]
 rfl
theorem jie {k : Nat} {e : LogRecord} (h : jgb e = true) (hk : k < 100) : (jd9 k e).size ≤ 364 := by
 obtain ⟨h1, h2, _⟩ := jdn h
 have h3 := jcg k 2 (by omega) (by decide)
 have e1 : (⟨#[32]⟩ : ByteArray).size = 1 := rfl
 have e2 : (⟨#[64]⟩ : ByteArray).size = 1 := rfl
 unfold jd9
 simp only [ByteArray.size_append]
 omega
theorem joo (s : ByteArray) (w : World) (hs : s.size ≤ 1000000) :
  Calls Tryz.prog 129 #[.string s] w fun e w' => e = .returned (.string (jfz s)) ∧ Quiet w w' := by
 have h6 := jkh s
 have hl : jnu s ≤ 1000000000 := Nat.le_trans (Nat.le_of_lt (jhr _)) (by decide)
 have HS := Lib.hid (show jfz s = s ++ ⟨#[35]⟩ ++ jcf (jnu s) from rfl)
 go_enter Tryz.func129, Tryz.ntmps129
 go_wp2_with (go_at_call 169; refine (jpk _ _ (by omega)).mono ?_; rintro e w' ⟨rfl, rfl⟩)
 refine (jes _ _ hl).mono ?_
 rintro e w1 ⟨rfl, q1⟩
 go_wp2_with fail
 go_ret
 exact ⟨by rw [HS.out]; rfl, q1⟩
theorem jf3 (s : ByteArray) (w : World) (hs : s.size ≤ 3000) (hno : jde 35 s = false) (hg : Gl w) :
  Calls Tryz.prog 142 #[.string s] w fun e w' => e = .returned (.tuple #[.string (jfz s), .bool true]) ∧ Below w.heap.size w w' := by
 have h6 := jkh s
 have hl : jnu s ≤ 1000000000 := Nat.le_trans (Nat.le_of_lt (jhr _)) (by decide)
 have HS := Lib.hid (show jfz s = s ++ ⟨#[35]⟩ ++ jcf (jnu s) from rfl)
 have HN := Lib.hid hno
 clear hno
 go_enter Tryz.func142, Tryz.ntmps142
 go_wp2_with fail
 refine (jcu _ 35 _).mono ?_
 rw [← Lib.contains_iff_indexByte, show s.data.toList.contains 35 = false from HN.out]
 rintro e w' ⟨rfl, rfl⟩
 go_wp2_with (go_at_call 185; refine (jk0 _ _ (by omega)).mono ?_; rintro e w' ⟨rfl, rfl⟩)
 refine (jns _ _ hl hg).mono ?_
 rintro e w1 ⟨rfl, b1⟩
 go_wp2_with fail
 go_ret2
 exact ⟨by rw [HS.out]; rfl, b1⟩
end Go.Proofs.YtflpcdffmpfdpaaGreatDoor
namespace Go.Proofs.YtflpcdffmpfdpaaGreatDoor
open Go.Shelf
def jfe : Go.Shelf.Ren := ⟨fun | 156 => 175 | 165 => 213 | 166 => 214 | 169 => 215 | 240 => 235 | 241 => 236 | 276 => 248 | 277 => 249 | n => n, fun | 31 => 42 | 9 => 9 | 3 => 3 | 4 => 4 | 0 => 0 | 20 => 20 | 72 => 231 | 76 => 170 | 70 => 229 | 37 => 47 | 75 => 169 | 127 => 250 | 164 => 264 | 5 => 5 | 80 => 233 | n => n, fun | n => n⟩
theorem jjz : Go.Proofs.Lays.n156 Tryz.prog jfe := {
 mixed := by kernel_rfl
 f156 := Tryz.func175.trans (congrArg some (by kernel_rfl))
 f165 := Tryz.func213.trans (congrArg some (by kernel_rfl))
 f166 := Tryz.func214.trans (congrArg some (by kernel_rfl))
 f169 := Tryz.func215.trans (congrArg some (by kernel_rfl))
 f240 := Tryz.func235.trans (congrArg some (by kernel_rfl))
 f241 := Tryz.func236.trans (congrArg some (by kernel_rfl))
 f276 := Tryz.func248.trans (congrArg some (by kernel_rfl))
 f277 := Tryz.func249.trans (congrArg some (by kernel_rfl))
 t0 := Tryz.underlying0
 a0 := Tryz.isAgg0
 z0 := Tryz.sizeOf0
 v0 := Tryz.zeroValue0
 t3 := Tryz.underlying3
 a3 := Tryz.isAgg3
 z3 := Tryz.sizeOf3
 v3 := Tryz.zeroValue3
 t4 := Tryz.underlying4
 a4 := Tryz.isAgg4
 z4 := Tryz.sizeOf4
 v4 := Tryz.zeroValue4
 t9 := Tryz.underlying9
 a9 := Tryz.isAgg9
 z9 := Tryz.sizeOf9
 v9 := Tryz.zeroValue9
 t20 := Tryz.underlying20
 a20 := Tryz.isAgg20
 z20 := Tryz.sizeOf20
 v20 := Tryz.zeroValue20
 t31 := Tryz.underlying42
 a31 := Tryz.isAgg42
 z31 := Tryz.sizeOf42
 v31 := Tryz.zeroValue42
 t37 := Tryz.underlying47
 a37 := Tryz.isAgg47
 z37 := Tryz.sizeOf47
 v37 := Tryz.zeroValue47
 t70 := Tryz.underlying229
 a70 := Tryz.isAgg229
 z70 := Tryz.sizeOf229
 v70 := Tryz.zeroValue229
 t72 := Tryz.underlying231
 a72 := Tryz.isAgg231
 z72 := Tryz.sizeOf231
 v72 := Tryz.zeroValue231
 t75 := Tryz.underlying169
 a75 := Tryz.isAgg169
 z75 := Tryz.sizeOf169
 v75 := Tryz.zeroValue169
 t76 := Tryz.underlying170
 a76 := Tryz.isAgg170
 z76 := Tryz.sizeOf170
 v76 := Tryz.zeroValue170
 t127 := Tryz.underlying250
 a127 := Tryz.isAgg250
 z127 := Tryz.sizeOf250
 v127 := Tryz.zeroValue250
 t164 := Tryz.underlying264
 a164 := Tryz.isAgg264
 z164 := Tryz.sizeOf264
 v164 := Tryz.zeroValue264 }
theorem jdd : Builder.Extra Tryz.prog jfe := {
 sizeBuilder := by kernel_rfl
 liesBuilder := by kernel_rfl
 t5 := Tryz.underlying5
 a5 := Tryz.isAgg5
 z5 := Tryz.sizeOf5
 v5 := Tryz.zeroValue5
 infoByte := by kernel_rfl
 cellsByte := by kernel_rfl
 sizeByte := by kernel_rfl
 neB5 := by decide }
open Go.RowKit in
theorem jmi (a : Option Addr) (c : Nat) (sep : ByteArray) (w : World) :
  Calls Tryz.prog 175 #[.slice a 0 c, .string sep] w fun e w' => e = .returned (.string ⟨#[]⟩) ∧ w' = w := Any.strings_Join_none jjz jdd a c sep w
open Go.RowKit in
theorem jiu (bk o c : Nat) (xs : List ByteArray) (sep : ByteArray) (w : World) (hcells : ∀ (j : Nat) x, xs[j]? = some x → w.cell? ⟨bk, o + j, none⟩ = some (.string x)) (hbk : bk < w.heap.size) (hN : xs.length ≤ 140737488355328) (hcap : xs.length ≤ c) (hlen : (Lib.join (xs.map (·.data.toList)) sep.data.toList).length ≤ 140737488355328) :
  Calls Tryz.prog 175 #[.slice (some ⟨bk, o, none⟩) xs.length c, .string sep] w fun e w' => e = .returned (.string ⟨(Lib.join (xs.map (·.data.toList)) sep.data.toList).toArray⟩) ∧ Below w.heap.size w w' := Any.strings_Join jjz jdd bk o c xs sep w hcells hbk hN hcap hlen
def jil : Go.Shelf.Ren := ⟨fun | 172 => 133 | 244 => 172 | 245 => 173 | 247 => 208 | 279 => 209 | 280 => 210 | 281 => 211 | 282 => 212 | 287 => 232 | 316 => 233 | 171 => 74 | 205 => 234 | 321 => 246 | 322 => 247 | 243 => 116 | 246 => 156 | 283 => 194 | 284 => 195 | 285 => 196 | 286 => 197 | 129 => 224 | 317 => 223 | 318 => 225 | 319 => 226 | 320 => 227 | 337 => 244 | 338 => 245 | n => n, fun | 9 => 9 | 3 => 3 | 75 => 169 | 76 => 170 | 4 => 4 | 5 => 5 | 167 => 223 | 37 => 47 | 0 => 0 | 85 => 224 | 2 => 2 | 168 => 226 | 53 => 86 | 175 => 245 | 46 => 179 | 210 => 248 | 127 => 250 | 145 => 263 | 143 => 261 | 21 => 21 | 171 => 214 | 173 => 217 | 212 => 237 | 51 => 238 | 20 => 20 | 213 => 239 | 232 => 268 | 233 => 269 | 80 => 233 | n => n, fun | 15 => 2 | 16 => 3 | 17 => 1 | 18 => 6 | 19 => 7 | n => n⟩
theorem jfj : Go.Proofs.LaysC.n172 Tryz.prog jil := {
 mixed := by kernel_rfl
 f129 := Tryz.func224.trans (congrArg some (by kernel_rfl))
 f171 := Tryz.func74.trans (congrArg some (by kernel_rfl))
 f172 := Tryz.func133.trans (congrArg some (by kernel_rfl))
 f205 := Tryz.func234.trans (congrArg some (by kernel_rfl))
 f243 := Tryz.func116.trans (congrArg some (by kernel_rfl))
 f244 := Tryz.func172.trans (congrArg some (by kernel_rfl))
 f245 := Tryz.func173.trans (congrArg some (by kernel_rfl))
 f246 := Tryz.func156.trans (congrArg some (by kernel_rfl))
 f247 := Tryz.func208.trans (congrArg some (by kernel_rfl))
 f279 := Tryz.func209.trans (congrArg some (by kernel_rfl))
 f280 := Tryz.func210.trans (congrArg some (by kernel_rfl))
 f281 := Tryz.func211.trans (congrArg some (by kernel_rfl))
 f282 := Tryz.func212.trans (congrArg some (by kernel_rfl))
 f283 := Tryz.func194.trans (congrArg some (by kernel_rfl))
 f284 := Tryz.func195.trans (congrArg some (by kernel_rfl))
 f285 := Tryz.func196.trans (congrArg some (by kernel_rfl))
 f286 := Tryz.func197.trans (congrArg some (by kernel_rfl))
 f287 := Tryz.func232.trans (congrArg some (by kernel_rfl))
 f316 := Tryz.func233.trans (congrArg some (by kernel_rfl))
 f317 := Tryz.func223.trans (congrArg some (by kernel_rfl))
 f318 := Tryz.func225.trans (congrArg some (by kernel_rfl))
 f319 := Tryz.func226.trans (congrArg some (by kernel_rfl))
 f320 := Tryz.func227.trans (congrArg some (by kernel_rfl))
 f321 := Tryz.func246.trans (congrArg some (by kernel_rfl))
 f322 := Tryz.func247.trans (congrArg some (by kernel_rfl))
 f337 := Tryz.func244.trans (congrArg some (by kernel_rfl))
 f338 := Tryz.func245.trans (congrArg some (by kernel_rfl))
 t0 := Tryz.underlying0
 a0 := Tryz.isAgg0
 z0 := Tryz.sizeOf0
 v0 := Tryz.zeroValue0
 t2 := Tryz.underlying2
 a2 := Tryz.isAgg2
 z2 := Tryz.sizeOf2
 v2 := Tryz.zeroValue2
 t3 := Tryz.underlying3
 a3 := Tryz.isAgg3
 z3 := Tryz.sizeOf3
 v3 := Tryz.zeroValue3
 t4 := Tryz.underlying4
 a4 := Tryz.isAgg4
 z4 := Tryz.sizeOf4
 v4 := Tryz.zeroValue4
 t5 := Tryz.underlying5
 a5 := Tryz.isAgg5
 z5 := Tryz.sizeOf5
 v5 := Tryz.zeroValue5
 t9 := Tryz.underlying9
 a9 := Tryz.isAgg9
 z9 := Tryz.sizeOf9
 v9 := Tryz.zeroValue9
 t20 := Tryz.underlying20
 a20 := Tryz.isAgg20
 z20 := Tryz.sizeOf20
 v20 := Tryz.zeroValue20
 t21 := Tryz.underlying21
 a21 := Tryz.isAgg21
 z21 := Tryz.sizeOf21
 v21 := Tryz.zeroValue21
 t37 := Tryz.underlying47
 a37 := Tryz.isAgg47
 z37 := Tryz.sizeOf47
 v37 := Tryz.zeroValue47
 t46 := Tryz.underlying179
 a46 := Tryz.isAgg179
 z46 := Tryz.sizeOf179
 v46 := Tryz.zeroValue179
 t51 := Tryz.underlying238
 a51 := Tryz.isAgg238
 z51 := Tryz.sizeOf238
 v51 := Tryz.zeroValue238
 t53 := Tryz.underlying86
 a53 := Tryz.isAgg86
 z53 := Tryz.sizeOf86
 v53 := Tryz.zeroValue86
 t75 := Tryz.underlying169
 a75 := Tryz.isAgg169
 z75 := Tryz.sizeOf169
 v75 := Tryz.zeroValue169
 t76 := Tryz.underlying170
 a76 := Tryz.isAgg170
 z76 := Tryz.sizeOf170
 v76 := Tryz.zeroValue170
 t85 := Tryz.underlying224
 a85 := Tryz.isAgg224
 z85 := Tryz.sizeOf224
 v85 := Tryz.zeroValue224
 t127 := Tryz.underlying250
 a127 := Tryz.isAgg250
 z127 := Tryz.sizeOf250
 v127 := Tryz.zeroValue250
 t143 := Tryz.underlying261
 a143 := Tryz.isAgg261
 z143 := Tryz.sizeOf261
 v143 := Tryz.zeroValue261
 t145 := Tryz.underlying263
 a145 := Tryz.isAgg263
 z145 := Tryz.sizeOf263
 v145 := Tryz.zeroValue263
 t167 := Tryz.underlying223
 a167 := Tryz.isAgg223
 z167 := Tryz.sizeOf223
 v167 := Tryz.zeroValue223
 t168 := Tryz.underlying226
 a168 := Tryz.isAgg226
 z168 := Tryz.sizeOf226
 v168 := Tryz.zeroValue226
 t171 := Tryz.underlying214
 a171 := Tryz.isAgg214
 z171 := Tryz.sizeOf214
 v171 := Tryz.zeroValue214
 t173 := Tryz.underlying217
 a173 := Tryz.isAgg217
 z173 := Tryz.sizeOf217
 v173 := Tryz.zeroValue217
 t175 := Tryz.underlying245
 a175 := Tryz.isAgg245
 z175 := Tryz.sizeOf245
 v175 := Tryz.zeroValue245
 t210 := Tryz.underlying248
 a210 := Tryz.isAgg248
 z210 := Tryz.sizeOf248
 v210 := Tryz.zeroValue248
 t212 := Tryz.underlying237
 a212 := Tryz.isAgg237
 z212 := Tryz.sizeOf237
 v212 := Tryz.zeroValue237
 t213 := Tryz.underlying239
 a213 := Tryz.isAgg239
 z213 := Tryz.sizeOf239
 t232 := Tryz.underlying268
 a232 := Tryz.isAgg268
 z232 := Tryz.sizeOf268
 v232 := Tryz.zeroValue268
 t233 := Tryz.underlying269
 a233 := Tryz.isAgg269
 z233 := Tryz.sizeOf269
 v233 := Tryz.zeroValue269
 g15 := by kernel_rfl
 g16 := by kernel_rfl
 g17 := by kernel_rfl
 g18 := by kernel_rfl
 g19 := by kernel_rfl
 t80 := Tryz.underlying233
 a80 := Tryz.isAgg233
 z80 := Tryz.sizeOf233
 v80 := Tryz.zeroValue233
 i0 := by kernel_rfl
 i2 := by kernel_rfl
 i3 := by kernel_rfl
 i4 := by kernel_rfl
 i5 := by kernel_rfl
 i9 := by kernel_rfl
 i20 := by kernel_rfl
 i21 := by kernel_rfl
 i37 := by kernel_rfl
 i46 := by kernel_rfl
 i51 := by kernel_rfl
 i53 := by kernel_rfl
 i75 := by kernel_rfl
 i76 := by kernel_rfl
 i80 := by kernel_rfl
 i85 := by kernel_rfl
 i127 := by kernel_rfl
 i143 := by kernel_rfl
 i145 := by kernel_rfl
 i167 := by kernel_rfl
 i168 := by kernel_rfl
 i171 := by kernel_rfl
 i173 := by kernel_rfl
 i175 := by kernel_rfl
 i210 := by kernel_rfl
 i212 := by kernel_rfl
 i232 := by kernel_rfl
 i233 := by kernel_rfl
 m15 := by kernel_rfl
 m16 := by kernel_rfl
 m17 := by kernel_rfl
 m18 := by kernel_rfl
 m19 := by kernel_rfl
 c0 := by kernel_rfl
 c2 := by kernel_rfl
 c3 := by kernel_rfl
 c4 := by kernel_rfl
 c5 := by kernel_rfl
 c9 := by kernel_rfl
 c20 := by kernel_rfl
 c21 := by kernel_rfl
 c37 := by kernel_rfl
 c46 := by kernel_rfl
 c51 := by kernel_rfl
 c53 := by kernel_rfl
 c75 := by kernel_rfl
 c76 := by kernel_rfl
 c80 := by kernel_rfl
 c85 := by kernel_rfl
 c127 := by kernel_rfl
 c143 := by kernel_rfl
 c145 := by kernel_rfl
 c167 := by kernel_rfl
 c168 := by kernel_rfl
 c171 := by kernel_rfl
 c173 := by kernel_rfl
 c175 := by kernel_rfl
 c210 := by kernel_rfl
 c212 := by kernel_rfl
 c213 := by kernel_rfl
 c232 := by kernel_rfl
 c233 := by kernel_rfl }
open Go.RowKit in
theorem jf8 (s : ByteArray) (hmax : s.size ≤ 9223372036854775806) (v : Int) (h : Lib.atoiAll s.data.toList = .ok v) (w : World) :
  Calls Tryz.prog 133 #[.string s] w fun e w' => e = .returned (.tuple #[.int .i64 v, .nilIface]) ∧ (w' = w ∨ ∃ t, w' = Lib.bytesWorld w 5 t) := Any.strconv_Atoi_ok jfj s hmax v h w
open Go.RowKit in
theorem jeq (s : ByteArray) (hlim : s.size ≤ 281474976710656) (h : Lib.atoiAll s.data.toList = Lib.atoiAll []) (ev : Value) (w : World) (hv : w.cell? ⟨2, 0, none⟩ = some ev) (hev : ev = .nilIface ∨ ∃ te pe, ev = .iface te pe) :
  Calls Tryz.prog 133 #[.string s] w fun e w' => ∃ N, e = .returned (.tuple #[.int .i64 (0), .iface 226 (.pointer (some ⟨N, 0, none⟩))]) ∧ w.heap.size ≤ N ∧ w'.heap[N]? = some (.cells #[.string ⟨#[65, 116, 111, 105]⟩, s, ev] 248 (0, 0)) ∧ Below w.heap.size w w' := Any.strconv_Atoi_syntax jfj s hlim (h.trans rfl) ev w hv hev
open Go.RowKit in
theorem jl5 (s : ByteArray) (hlim : s.size ≤ 281474976710656) (h : Lib.atoiAll s.data.toList = .range) (ev : Value) (w : World) (hv : w.cell? ⟨3, 0, none⟩ = some ev) (hev : ev = .nilIface ∨ ∃ te pe, ev = .iface te pe) :
  Calls Tryz.prog 133 #[.string s] w fun e w' => ∃ N, e = .returned (.tuple #[.int .i64 (Lib.atoiSat s.data.toList), .iface 226 (.pointer (some ⟨N, 0, none⟩))]) ∧ w.heap.size ≤ N ∧ w'.heap[N]? = some (.cells #[.string ⟨#[65, 116, 111, 105]⟩, s, ev] 248 (0, 0)) ∧ Below w.heap.size w w' := Any.strconv_Atoi_range jfj s hlim h ev w hv hev
def jjd : Go.Shelf.Ren := ⟨fun | 146 => 56 | 221 => 103 | 268 => 146 | 138 => 147 | 143 => 132 | 195 => 187 | 197 => 188 | 218 => 189 | 219 => 171 | 260 => 222 | 217 => 204 | 225 => 205 | 224 => 206 | 267 => 207 | 266 => 230 | 314 => 231 | n => n, fun | 9 => 9 | 31 => 42 | 3 => 3 | 4 => 4 | 0 => 0 | 105 => 208 | 21 => 21 | 5 => 5 | 46 => 179 | 119 => 255 | 139 => 258 | 138 => 257 | 146 => 243 | 51 => 238 | n => n, fun | 1 => 0 | 3 => 4 | 4 => 5 | n => n⟩
theorem jn3 : Go.Proofs.Lays.n146 Tryz.prog jjd := {
 mixed := by kernel_rfl
 f138 := Tryz.func147.trans (congrArg some (by kernel_rfl))
 f143 := Tryz.func132.trans (congrArg some (by kernel_rfl))
 f146 := Tryz.func56.trans (congrArg some (by kernel_rfl))
 f195 := Tryz.func187.trans (congrArg some (by kernel_rfl))
 f197 := Tryz.func188.trans (congrArg some (by kernel_rfl))
 f217 := Tryz.func204.trans (congrArg some (by kernel_rfl))
 f218 := Tryz.func189.trans (congrArg some (by kernel_rfl))
 f219 := Tryz.func171.trans (congrArg some (by kernel_rfl))
 f221 := Tryz.func103.trans (congrArg some (by kernel_rfl))
 f224 := Tryz.func206.trans (congrArg some (by kernel_rfl))
 f225 := Tryz.func205.trans (congrArg some (by kernel_rfl))
 f260 := Tryz.func222.trans (congrArg some (by kernel_rfl))
 f266 := Tryz.func230.trans (congrArg some (by kernel_rfl))
 f267 := Tryz.func207.trans (congrArg some (by kernel_rfl))
 f268 := Tryz.func146.trans (congrArg some (by kernel_rfl))
 f314 := Tryz.func231.trans (congrArg some (by kernel_rfl))
 t0 := Tryz.underlying0
 a0 := Tryz.isAgg0
 z0 := Tryz.sizeOf0
 v0 := Tryz.zeroValue0
 t3 := Tryz.underlying3
 a3 := Tryz.isAgg3
 z3 := Tryz.sizeOf3
 v3 := Tryz.zeroValue3
 t4 := Tryz.underlying4
 a4 := Tryz.isAgg4
 z4 := Tryz.sizeOf4
 v4 := Tryz.zeroValue4
 t5 := Tryz.underlying5
 a5 := Tryz.isAgg5
 z5 := Tryz.sizeOf5
 v5 := Tryz.zeroValue5
 t9 := Tryz.underlying9
 a9 := Tryz.isAgg9
 z9 := Tryz.sizeOf9
 v9 := Tryz.zeroValue9
 t21 := Tryz.underlying21
 a21 := Tryz.isAgg21
 z21 := Tryz.sizeOf21
 v21 := Tryz.zeroValue21
 t31 := Tryz.underlying42
 a31 := Tryz.isAgg42
 z31 := Tryz.sizeOf42
 v31 := Tryz.zeroValue42
 t46 := Tryz.underlying179
 a46 := Tryz.isAgg179
 z46 := Tryz.sizeOf179
 v46 := Tryz.zeroValue179
 t51 := Tryz.underlying238
 a51 := Tryz.isAgg238
 z51 := Tryz.sizeOf238
 v51 := Tryz.zeroValue238
 t105 := Tryz.underlying208
 a105 := Tryz.isAgg208
 z105 := Tryz.sizeOf208
 v105 := Tryz.zeroValue208
 t119 := Tryz.underlying255
 a119 := Tryz.isAgg255
 z119 := Tryz.sizeOf255
 t138 := Tryz.underlying257
 a138 := Tryz.isAgg257
 z138 := Tryz.sizeOf257
 v138 := Tryz.zeroValue257
 t139 := Tryz.underlying258
 a139 := Tryz.isAgg258
 z139 := Tryz.sizeOf258
 v139 := Tryz.zeroValue258
 t146 := Tryz.underlying243
 a146 := Tryz.isAgg243
 z146 := Tryz.sizeOf243
 v146 := Tryz.zeroValue243
 g1 := by kernel_rfl
 g3 := by kernel_rfl
 g4 := by kernel_rfl }
open Go.RowKit Go.Lib in
theorem jhh (s sep : ByteArray) (m : Int) (w : World) (hs : s.size < 4294967281) (hm : w.cell? ⟨0, 0, none⟩ = some (.int .i64 m)) (h1 : 1 ≤ sep.size) :
  Calls Tryz.prog 56 #[.string s, .string sep] w fun e w' =>
   e = .returned (.slice (some ⟨w.heap.size, 0, none⟩) (Lib.countB s sep + 1) (Lib.countB s sep + 1)) ∧ w' = w.alloc (.cells ((Lib.splitB sep 0 (Lib.countB s sep) s).map Value.string).toArray 9) := Any.strings_Split jn3 (by kernel_rfl) s sep m w hs hm h1
def jh9 : Go.Shelf.Ren := ⟨fun | 146 => 56 | 221 => 103 | 268 => 146 | 138 => 147 | 143 => 132 | 195 => 187 | 197 => 188 | 218 => 189 | 219 => 171 | 260 => 222 | 217 => 204 | 225 => 205 | 224 => 206 | 267 => 207 | 266 => 230 | 314 => 231 | n => n, fun | 9 => 9 | 31 => 42 | 3 => 3 | 4 => 4 | 0 => 0 | 105 => 208 | 21 => 21 | 5 => 5 | 46 => 179 | 119 => 255 | 139 => 258 | 138 => 257 | 146 => 243 | 51 => 238 | n => n, fun | 1 => 0 | 3 => 4 | 4 => 5 | n => n⟩
theorem jm0 : Go.Proofs.LaysM.n146 Tryz.prog jh9 := {
 mixed := by kernel_rfl
 f138 := Tryz.func147.trans (congrArg some (by kernel_rfl))
 f143 := Tryz.func132.trans (congrArg some (by kernel_rfl))
 f146 := Tryz.func56.trans (congrArg some (by kernel_rfl))
 f195 := Tryz.func187.trans (congrArg some (by kernel_rfl))
 f197 := Tryz.func188.trans (congrArg some (by kernel_rfl))
 f217 := Tryz.func204.trans (congrArg some (by kernel_rfl))
 f218 := Tryz.func189.trans (congrArg some (by kernel_rfl))
 f219 := Tryz.func171.trans (congrArg some (by kernel_rfl))
 f221 := Tryz.func103.trans (congrArg some (by kernel_rfl))
 f224 := Tryz.func206.trans (congrArg some (by kernel_rfl))
 f225 := Tryz.func205.trans (congrArg some (by kernel_rfl))
 f260 := Tryz.func222.trans (congrArg some (by kernel_rfl))
 f266 := Tryz.func230.trans (congrArg some (by kernel_rfl))
 f267 := Tryz.func207.trans (congrArg some (by kernel_rfl))
 f268 := Tryz.func146.trans (congrArg some (by kernel_rfl))
 f314 := Tryz.func231.trans (congrArg some (by kernel_rfl))
 t0 := Tryz.underlying0
 a0 := Tryz.isAgg0
 z0 := Tryz.sizeOf0
 v0 := Tryz.zeroValue0
 t3 := Tryz.underlying3
 a3 := Tryz.isAgg3
 z3 := Tryz.sizeOf3
 v3 := Tryz.zeroValue3
 t4 := Tryz.underlying4
 a4 := Tryz.isAgg4
 z4 := Tryz.sizeOf4
 v4 := Tryz.zeroValue4
 t5 := Tryz.underlying5
 a5 := Tryz.isAgg5
 z5 := Tryz.sizeOf5
 v5 := Tryz.zeroValue5
 t9 := Tryz.underlying9
 a9 := Tryz.isAgg9
 z9 := Tryz.sizeOf9
 v9 := Tryz.zeroValue9
 t21 := Tryz.underlying21
 a21 := Tryz.isAgg21
 z21 := Tryz.sizeOf21
 v21 := Tryz.zeroValue21
 t31 := Tryz.underlying42
 a31 := Tryz.isAgg42
 z31 := Tryz.sizeOf42
 v31 := Tryz.zeroValue42
 t46 := Tryz.underlying179
 a46 := Tryz.isAgg179
 z46 := Tryz.sizeOf179
 v46 := Tryz.zeroValue179
 t51 := Tryz.underlying238
 a51 := Tryz.isAgg238
 z51 := Tryz.sizeOf238
 v51 := Tryz.zeroValue238
 t105 := Tryz.underlying208
 a105 := Tryz.isAgg208
 z105 := Tryz.sizeOf208
 v105 := Tryz.zeroValue208
 t119 := Tryz.underlying255
 a119 := Tryz.isAgg255
 z119 := Tryz.sizeOf255
 t138 := Tryz.underlying257
 a138 := Tryz.isAgg257
 z138 := Tryz.sizeOf257
 v138 := Tryz.zeroValue257
 t139 := Tryz.underlying258
 a139 := Tryz.isAgg258
 z139 := Tryz.sizeOf258
 v139 := Tryz.zeroValue258
 t146 := Tryz.underlying243
 a146 := Tryz.isAgg243
 z146 := Tryz.sizeOf243
 v146 := Tryz.zeroValue243
 g1 := by kernel_rfl
 g3 := by kernel_rfl
 g4 := by kernel_rfl
 i0 := by kernel_rfl
 i3 := by kernel_rfl
 i4 := by kernel_rfl
 i5 := by kernel_rfl
 i9 := by kernel_rfl
 i21 := by kernel_rfl
 i31 := by kernel_rfl
 i46 := by kernel_rfl
 i51 := by kernel_rfl
 i105 := by kernel_rfl
 i138 := by kernel_rfl
 i139 := by kernel_rfl
 i146 := by kernel_rfl
 m1 := by kernel_rfl
 s1_3 := fun w h => Go.Proofs.cell_of_shapedOpen_int (zero := #[.int .i64 0]) (t := 3) h (of_decide_eq_true (by kernel_rfl)) (by kernel_rfl) rfl (by kernel_rfl) (by kernel_rfl) Tryz.underlying3
 m3 := by kernel_rfl
 m4 := by kernel_rfl }
open Go.RowKit Go.Lib in
theorem jko (s sep : ByteArray) (w : World) (h : w.ShapedOpen Tryz.prog) (hs : s.size < 4294967281) (h1 : 1 ≤ sep.size) :
  Calls Tryz.prog 56 #[.string s, .string sep] w fun e w' =>
   e = .returned (.slice (some ⟨w.heap.size, 0, none⟩) (Lib.countB s sep + 1) (Lib.countB s sep + 1)) ∧ w' = w.alloc (.cells ((Lib.splitB sep 0 (Lib.countB s sep) s).map Value.string).toArray 9) := Any.strings_Split_shaped jm0 s sep w h hs h1
end Go.Proofs.YtflpcdffmpfdpaaGreatDoor
