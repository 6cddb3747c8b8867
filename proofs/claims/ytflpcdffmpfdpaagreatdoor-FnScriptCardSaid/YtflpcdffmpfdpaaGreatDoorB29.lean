/- Joined texts of this proof: CmdH, TxtJ. -/
import Derived.Test.YtflpcdffmpfdpaaGreatDoorB28
import Derived.Test.YtflpcdffmpfdpaaGreatDoorB13
set_option maxRecDepth 100000
set_option maxHeartbeats 8000000
namespace Go.Proofs.YtflpcdffmpfdpaaGreatDoor
open Go.RowKit
def jd0 (r : RaceV) (line : ByteArray) : RaceV × ByteArray := ((jbl r line).1, (jbl r line).2.getD ⟨#[63]⟩)
theorem jiv {c : UInt8} : ∀ {l x : List UInt8}, ja6 c l = [x] → x = l
 | [], x, h => by
  injection h with h _
  exact h.symm
 | b :: r, x, h => by
  unfold ja6 at h
  by_cases hb : b = c
  ·rw [if_pos hb] at h
   injection h with _ h
   have := jem c r
   rw [h] at this
   simp at this
  ·rw [if_neg hb] at h
   cases hr : ja6 c r with
   | nil =>
    have := jem c r
    rw [hr] at this
    simp at this
   | cons y q =>
    rw [hr] at h
    unfold ji8 at h
    injection h with h1 h2
    subst h2
    rw [← h1, jiv hr]
theorem jon {c : UInt8} {s x : ByteArray} (h : jbb c s = [x]) : x = s := by
 unfold jbb at h
 cases hl : ja6 c s.data.toList with
 | nil => rw [hl] at h; cases h
 | cons y q =>
  rw [hl, List.map_cons] at h
  injection h with h1 h2
  have hq : q = [] := List.map_eq_nil_iff.1 h2
  subst hq
  rw [jiv hl] at h1
  rw [← h1]
theorem jgi {r : RaceV} {k : Nat} {l : List Int} {a e v : Int} (h : jdw k l = some (a, e, v)) : ((jop r k l).1, (jop r k l).2.getD ⟨#[63]⟩) = jbu r a e v := by
 unfold jop jbu
 rw [h]
 dsimp only
 cases jdh r a e v <;> rfl
theorem jin {r : RaceV} {line h0 : ByteArray} {rest : List ByteArray} {ys : List Int} (hL : jbb 32 line = h0 :: rest) (hp : jao rest = some ys) : jbl r line = if (jaz (cmK h0)).2.2 = true ∧ inB (ys.length : Int) (jaz (cmK h0)).1 (jaz (cmK h0)).2.1 = true then jop r (cmK h0) ys else (r, none) := by
 unfold jbl
 rw [hL]
 show (if (jaz (cmK h0)).2.2 = true ∧ inB (((h0 :: rest).length : Int) - 1) _ _ = true then (match jao rest with | none => _ | some l => _) else _) = _
 rw [hp, show (((h0 :: rest).length : Nat) : Int) - 1 = (ys.length : Int) by rw [List.length_cons, jgv hp]; omega]
 rfl
theorem jqs {r : RaceV} {line h0 : ByteArray} {rest : List ByteArray} (hL : jbb 32 line = h0 :: rest) (hp : jao rest = none) : jd0 r line = (r, ⟨#[63]⟩) := by
 have : jbl r line = (r, none) := by
  unfold jbl
  rw [hL]
  show (if (jaz (cmK h0)).2.2 = true ∧ inB (((h0 :: rest).length : Int) - 1) _ _ = true then (match jao rest with | none => _ | some l => _) else _) = _
  rw [hp]
  split <;> rfl
 unfold jd0
 rw [this]
 rfl
theorem jqd {r : RaceV} {line h0 : ByteArray} {rest : List ByteArray} (hL : jbb 32 line = h0 :: rest) (hp : jao rest = some []) : jd0 r line = jep r (cmK h0) := by
 have hl := jin (r := r) hL hp
 unfold jd0
 rcases jcd h0 with ⟨hk, -⟩ | ⟨hk, -⟩ | ⟨hk, -⟩ | ⟨hk, -⟩ | ⟨hk, -⟩ | ⟨hk, -⟩ | ⟨hk, -⟩ | ⟨hk, -⟩ | ⟨hk, -⟩ | ⟨hk, -⟩ | ⟨hk, -⟩ | ⟨hk, -⟩ | ⟨hk, -⟩
 ·rw [hl, hk]; exact jgi (r := r) (k := 1) (l := []) rfl
 ·rw [hl, hk]; rfl
 ·rw [hl, hk]; rfl
 ·rw [hl, hk]; rfl
 ·rw [hl, hk]; rfl
 ·rw [hl, hk]; rfl
 ·rw [hl, hk]; rfl
 ·rw [hl, hk]; rfl
 ·rw [hl, hk]; rfl
 ·rw [hl, hk]; rfl
 ·rw [hl, hk]; rfl
 ·rw [hl, hk]; rfl
 ·rw [hl, hk]; rfl
theorem jn8 {r : RaceV} {line h0 : ByteArray} {rest : List ByteArray} {ys : List Int} (hL : jbb 32 line = h0 :: rest) (hp : jao rest = some ys) (h1 : 1 ≤ ys.length) (h2 : ys.length ≤ 4000) (hk : cmK h0 = 12) : jd0 r line = (r, (jgo r ys).getD ⟨#[63]⟩) := by
 have hl := jin (r := r) hL hp
 unfold jd0
 rw [hl, hk, if_pos ⟨rfl, by unfold inB; simp only [jaz, Bool.and_eq_true, decide_eq_true_eq]; omega⟩]
 rfl
theorem jqu {r : RaceV} {line h0 : ByteArray} {rest : List ByteArray} {z : Int} (hL : jbb 32 line = h0 :: rest) (hp : jao rest = some [z]) (h12 : ¬ cmK h0 = 12) : jd0 r line = jeh r (cmK h0) z := by
 have hl := jin (r := r) hL hp
 unfold jd0
 rcases jcd h0 with ⟨hk, -⟩ | ⟨hk, -⟩ | ⟨hk, -⟩ | ⟨hk, -⟩ | ⟨hk, -⟩ | ⟨hk, -⟩ | ⟨hk, -⟩ | ⟨hk, -⟩ | ⟨hk, -⟩ | ⟨hk, -⟩ | ⟨hk, -⟩ | ⟨hk, -⟩ | ⟨hk, -⟩
 ·rw [hl, hk]; rfl
 ·rw [hl, hk]; rfl
 ·rw [hl, hk]; rfl
 ·rw [hl, hk]; rfl
 ·rw [hl, hk]; exact jgi (r := r) (k := 5) (l := [z]) rfl
 ·rw [hl, hk]; exact jgi (r := r) (k := 6) (l := [z]) rfl
 ·rw [hl, hk]; exact jgi (r := r) (k := 7) (l := [z]) rfl
 ·rw [hl, hk]; exact jgi (r := r) (k := 8) (l := [z]) rfl
 ·rw [hl, hk]; rfl
 ·rw [hl, hk]; rfl
 ·rw [hl, hk]; rfl
 ·exact absurd hk h12
 ·rw [hl, hk]; rfl
theorem jph {r : RaceV} {line h0 : ByteArray} {rest : List ByteArray} {y z : Int} (hL : jbb 32 line = h0 :: rest) (hp : jao rest = some [y, z]) (h12 : ¬ cmK h0 = 12) : jd0 r line = if cmK h0 = 11 then jbu r 3 y z else (r, ⟨#[63]⟩) := by
 have hl := jin (r := r) hL hp
 unfold jd0
 rcases jcd h0 with ⟨hk, -⟩ | ⟨hk, -⟩ | ⟨hk, -⟩ | ⟨hk, -⟩ | ⟨hk, -⟩ | ⟨hk, -⟩ | ⟨hk, -⟩ | ⟨hk, -⟩ | ⟨hk, -⟩ | ⟨hk, -⟩ | ⟨hk, -⟩ | ⟨hk, -⟩ | ⟨hk, -⟩
 ·rw [hl, hk]; rfl
 ·rw [hl, hk]; rfl
 ·rw [hl, hk]; rfl
 ·rw [hl, hk]; rfl
 ·rw [hl, hk]; rfl
 ·rw [hl, hk]; rfl
 ·rw [hl, hk]; rfl
 ·rw [hl, hk]; rfl
 ·rw [hl, hk]; rfl
 ·rw [hl, hk]; rfl
 ·rw [hl, hk]; exact jgi (r := r) (k := 11) (l := [y, z]) rfl
 ·exact absurd hk h12
 ·rw [hl, hk]; rfl
theorem jqf {r : RaceV} {line h0 : ByteArray} {rest : List ByteArray} {ys : List Int} (hL : jbb 32 line = h0 :: rest) (hp : jao rest = some ys) (h3 : 3 ≤ ys.length) (h12 : ¬ cmK h0 = 12) : jd0 r line = (r, ⟨#[63]⟩) := by
 have hl := jin (r := r) hL hp
 unfold jd0
 rcases jcd h0 with ⟨hk, -⟩ | ⟨hk, -⟩ | ⟨hk, -⟩ | ⟨hk, -⟩ | ⟨hk, -⟩ | ⟨hk, -⟩ | ⟨hk, -⟩ | ⟨hk, -⟩ | ⟨hk, -⟩ | ⟨hk, -⟩ | ⟨hk, -⟩ | ⟨hk, -⟩ | ⟨hk, -⟩
 ·rw [hl, hk, if_neg (fun h => by have h1 := (jaq h.2).2; simp only [jaz] at h1; omega)]; rfl
 ·rw [hl, hk, if_neg (fun h => by have h1 := (jaq h.2).2; simp only [jaz] at h1; omega)]; rfl
 ·rw [hl, hk, if_neg (fun h => by have h1 := (jaq h.2).2; simp only [jaz] at h1; omega)]; rfl
 ·rw [hl, hk, if_neg (fun h => by have h1 := (jaq h.2).2; simp only [jaz] at h1; omega)]; rfl
 ·rw [hl, hk, if_neg (fun h => by have h1 := (jaq h.2).2; simp only [jaz] at h1; omega)]; rfl
 ·rw [hl, hk, if_neg (fun h => by have h1 := (jaq h.2).2; simp only [jaz] at h1; omega)]; rfl
 ·rw [hl, hk, if_neg (fun h => by have h1 := (jaq h.2).2; simp only [jaz] at h1; omega)]; rfl
 ·rw [hl, hk, if_neg (fun h => by have h1 := (jaq h.2).2; simp only [jaz] at h1; omega)]; rfl
 ·rw [hl, hk, if_neg (fun h => by have h1 := (jaq h.2).2; simp only [jaz] at h1; omega)]; rfl
 ·rw [hl, hk, if_neg (fun h => by have h1 := (jaq h.2).2; simp only [jaz] at h1; omega)]; rfl
 ·rw [hl, hk, if_neg (fun h => by have h1 := (jaq h.2).2; simp only [jaz] at h1; omega)]; rfl
 ·exact absurd hk h12
 ·rw [hl, hk]; rfl
theorem jpz {r : RaceV} {k : Nat} {l : List Int} : ja0 r = true → ja0 (jop r k l).1 = true := by
 intro h
 unfold jop
 split
 ·exact h
 ·split
  ·exact h
  ·rename_i h9
   exact je5 h9
theorem jox {r : RaceV} {line : ByteArray} (h : ja0 r = true) : ja0 (jbl r line).1 = true := by
 unfold jbl
 split
 ·split
  ·exact h
  ·exact jpz h
 ·exact h
def jc0 (s : ByteArray) : ByteArray := if 1 < s.size ∧ s.data.toList.head? = some 45 then s.extract 1 s.size else s
theorem jn2 {n : Nat} {c : UInt8} {r : List UInt8} (h : Lib.decDigits n = c :: r) : 48 ≤ c.toNat ∧ c.toNat ≤ 57 := jik n c (by rw [h]; exact List.mem_cons_self)
theorem jqa (n : Nat) : jc0 (jcf n) = jcf n := by
 unfold jc0
 rw [if_neg]
 rintro ⟨-, h⟩
 unfold jcf at h
 simp only [List.head?_eq_some_iff] at h
 obtain ⟨r, hr⟩ := h
 have := jn2 hr
 have h2 : (45 : UInt8).toNat = 45 := rfl
 omega
theorem jp0 (n : Nat) : jc0 (⟨#[45]⟩ ++ jcf n) = jcf n := by
 have h1 := jnr n
 have h2 : (⟨#[45]⟩ ++ jcf n : ByteArray).size = 1 + (jcf n).size := by rw [ByteArray.size_append]; rfl
 unfold jc0
 rw [if_pos ⟨by omega, by simp⟩, h2]
 have := ByteArray.extract_append_eq_right (a := (⟨#[45]⟩ : ByteArray)) (b := jcf n) (i := 1) (j := 1 + (jcf n).size) rfl rfl
 exact this
theorem jhy {s : ByteArray} {v : Int} (h : ja1 s = some v) : ∃ n, n ≤ 999999 ∧ jc0 s = jcf n := by
 obtain ⟨-, hb, rfl⟩ := ji6 h
 unfold inB at hb
 simp only [Bool.and_eq_true, decide_eq_true_eq] at hb
 rcases je3 v with ⟨n, rfl, e⟩ | ⟨n, rfl, h1, e⟩
 ·exact ⟨n, by omega, by rw [e, jqa]⟩
 ·exact ⟨n, by omega, by rw [e, jp0]⟩
theorem jer {s : ByteArray} (h : inB ((jc0 s).size : Int) 1 6 = false) : ja1 s = none := by
 cases hp : ja1 s with
 | none => rfl
 | some v =>
  obtain ⟨n, hn, e⟩ := jhy hp
  rw [e] at h
  have h1 := jnr n
  have h2 := jkj hn
  unfold inB at h
  rw [decide_eq_true (by omega), decide_eq_true (by omega)] at h
  cases h
theorem jex {s : ByteArray} {k : Nat} (hk : k < (jc0 s).size) (h : ¬ (48 ≤ ((jc0 s)[k]).toNat ∧ ((jc0 s)[k]).toNat ≤ 57)) : ja1 s = none := by
 cases hp : ja1 s with
 | none => rfl
 | some v =>
  obtain ⟨n, hn, e⟩ := jhy hp
  refine absurd ?_ h
  generalize jc0 s = u at *
  subst e
  refine jik n _ ?_
  have hm : (jcf n)[k] ∈ (jcf n).data.toList := by
   rw [show (jcf n)[k] = (jcf n).data.toList[k]'(by simpa using hk) from rfl]
   exact List.getElem_mem _
  have e2 : (jcf n).data.toList = Lib.decDigits n := by unfold jcf; simp
  rw [e2] at hm
  exact hm
theorem jht {s : ByteArray} {m : Nat} (h1 : 1 ≤ (jc0 s).size) (hd : ∀ (k : Nat) (hk : k < (jc0 s).size), 48 ≤ ((jc0 s)[k]).toNat ∧ ((jc0 s)[k]).toNat ≤ 57) (h : Lib.decFrom 0 (jc0 s).data.toList = some m) : Lib.atoi s.data.toList = some (if (jc0 s).size < s.size then -(m : Int) else (m : Int)) := by
 by_cases hc : 1 < s.size ∧ s.data.toList.head? = some 45
 ·have ht : jc0 s = s.extract 1 s.size := by unfold jc0; rw [if_pos hc]
  have hts : (jc0 s).size < s.size := by rw [ht, ByteArray.size_extract]; omega
  rw [if_pos hts]
  rw [ht] at h
  have e : (s.extract 1 s.size).data.toList = s.data.toList.drop 1 := by
   have h3 : s.data.toList.length = s.size := by simp
   simp [ByteArray.data_extract, List.take_of_length_le, h3]
  rw [e] at h
  obtain ⟨r, hr⟩ := List.head?_eq_some_iff.1 hc.2
  rw [hr] at h ⊢
  simp only [List.drop_succ_cons, List.drop_zero] at h
  have hne : r ≠ [] := by
   rintro rfl
   have h3 : s.data.toList.length = s.size := by simp
   rw [hr] at h3
   simp at h3
   omega
  simp only [Lib.atoi, Lib.decNat]
  rw [if_pos (show ((45 : UInt8) == 45) = true from rfl), if_neg (by simpa using hne), h]
  rfl
 ·have ht : jc0 s = s := by unfold jc0; rw [if_neg hc]
  rw [ht] at h h1 hd ⊢
  rw [if_neg (Nat.lt_irrefl _)]
  cases hs : s.data.toList with
  | nil =>
   have h3 : s.data.toList.length = s.size := by simp
   rw [hs] at h3
   simp at h3
   omega
  | cons c r =>
   have h0 := hd 0 (by omega)
   have hc0 : s[0] = c := by
    have : s.data.toList[0]'(by rw [hs]; simp) = c := by simp [hs]
    exact this
   rw [hc0] at h0
   rw [hs] at h
   simp only [Lib.atoi, Lib.decNat]
   have h45 : (c == 45) = false := beq_eq_false_iff_ne.2 (fun e => by rw [e] at h0; have h2 : (45 : UInt8).toNat = 45 := rfl; omega)
   have h43 : (c == 43) = false := beq_eq_false_iff_ne.2 (fun e => by rw [e] at h0; have h2 : (43 : UInt8).toNat = 43 := rfl; omega)
   rw [h45, h43, if_neg (by simp), if_neg (by simp), if_neg (by simp), h]
   rfl
theorem jo3 {b : UInt8} (h : 48 ≤ b.toNat ∧ b.toNat ≤ 57) : Lib.digitVal b = some (b.toNat - 48) := by unfold Lib.digitVal; rw [if_pos h]
theorem jks {t : ByteArray} {k n : Nat} (hk : k < t.size) (h : Lib.decFrom 0 (t.data.toList.take k) = some n) (hd : 48 ≤ (t[k]).toNat ∧ (t[k]).toNat ≤ 57) : Lib.decFrom 0 (t.data.toList.take (k + 1)) = some (n * 10 + ((t[k]).toNat - 48)) :=
 Lib.decFrom_take _ k 0 n (t[k]) _ h (by
  have h3 : k < t.data.toList.length := by simpa using hk
  rw [List.getElem?_eq_getElem h3]
  rfl) (jo3 hd)
theorem jn4 (s : ByteArray) (w : World) (hs : s.size ≤ 9223372036854775807) :
  Calls Tryz.prog 121 #[.string s] w fun e w' => e = .returned (.tuple #[.int .i64 ((ja1 s).getD 0), .bool (ja1 s).isSome]) ∧ Below w.heap.size w w' := by
 go_enter Tryz.func121, Tryz.ntmps121
 by_cases h1 : 1 < s.size
 ·have h1' : (1 : Int) < (s.size : Int) := by omega
  by_cases h45 : s[0] = 45
  ·have hct : ((s[0].toNat : Int) == 45) = true := by rw [h45]; rfl
   have HT := Lib.hid (show jc0 s = s.extract 1 s.size by
    unfold jc0
    rw [if_pos ⟨h1, by
     rw [List.head?_eq_getElem?, List.getElem?_eq_getElem (by simp; omega)]
     exact congrArg some h45⟩])
   have hts : (s.extract 1 s.size).size < s.size := by rw [ByteArray.size_extract]; omega
   clear h45
   go_upto_region 4 with fail
   generalize s.extract 1 s.size = t at *
   have htsi : (t.size : Int) < (s.size : Int) := by omega
   obtain ⟨ib, hib⟩ : ∃ ib, inB (t.size : Int) 1 6 = ib := ⟨_, rfl⟩
   have HIB := Lib.hid hib
   cases ib
   ·have HR := Lib.hid (jer (s := s) (by rw [HT.out]; exact HIB.out))
    clear hib
    go_wp2_with (go_at_call 111; refine (jae _ _ _ _).mono ?_; rw [HIB.out]; rintro e w' ⟨rfl, rfl⟩)
    go_ret2
    rw [HR.out]
    exact ⟨rfl, Below.refl _ _⟩
   unfold inB at hib
   simp only [Bool.and_eq_true, decide_eq_true_eq] at hib
   have ht1 : 1 ≤ t.size := by omega
   have ht6 : t.size ≤ 6 := by omega
   clear hib
   go_wp2_with (go_at_call 111; refine (jae _ _ _ _).mono ?_; rw [HIB.out]; rintro e w' ⟨rfl, rfl⟩)
   go_loop [5, 6] (fun a i => ∃ (k n : Nat), k ≤ t.size ∧ i = .int .i64 (k : Int) ∧ a = .int .i64 (n : Int) ∧ n ≤ 999999 ∧ Hid (Lib.decFrom 0 (t.data.toList.take k) = some n) ∧ Hid (∀ (j : Nat) (hj : j < t.size), j < k → 48 ≤ (t[j]).toNat ∧ (t[j]).toNat ≤ 57)) (fun _ i => t.size - (intOf i).toNat)
   case atStart => exact ⟨0, 0, Nat.zero_le _, rfl, rfl, by omega, Lib.hid rfl, Lib.hid (fun j hj h => absurd h (by omega))⟩
   case round =>
    obtain ⟨k, n, hk, rfl, rfl, hn9, HD, HA⟩ := hrel
    by_cases hlt : k < t.size
    ·have hlti : (k : Int) < (t.size : Int) := by omega
     have hu := UInt8.toNat_lt t[k]
     by_cases hd : 48 ≤ (t[k]).toNat ∧ (t[k]).toNat ≤ 57
     ·have HN := jks hlt HD.out hd
      have hlim := Lib.decFrom_lt _ 0 _ HN
      have hlen : (t.data.toList.take (k + 1)).length = k + 1 := by
       have h3 : t.data.toList.length = t.size := by simp
       rw [List.length_take]
       omega
      rw [hlen] at hlim
      have hpw : 10 ^ (k + 1) ≤ 10 ^ 6 := Nat.pow_le_pow_right (by decide) (by omega)
      have hlim2 : n * 10 + ((t[k]).toNat - 48) ≤ 999999 := by
       have e6 : (10 : Nat) ^ 6 = 1000000 := by decide
       omega
      have HN2 := Lib.hid HN
      have HA2 := Lib.hid (show ∀ (j : Nat) (hj : j < t.size), j < k + 1 → 48 ≤ (t[j]).toNat ∧ (t[j]).toNat ≤ 57 from fun j hj hjk => by
       by_cases e : j = k
       ·subst e; exact hd
       ·exact HA.out j hj (by omega))
      obtain ⟨hd1, hd2⟩ := hd
      have f1 : ¬ ((t[k]).toNat : Int) < 48 := by omega
      have f2 : ¬ (57 : Int) < ((t[k]).toNat : Int) := by omega
      clear HN hlim hpw hlen
      go_wp2_with fail
      go_round
      case rel => exact ⟨k + 1, n * 10 + ((t[k]).toNat - 48), by omega, by go_num, by first | rfl | (congr 1; omega), hlim2, HN2, HA2⟩
      case measure => simp [intOf]; omega
     ·have HR := Lib.hid (jex (s := s) (k := k) (by rw [HT.out]; exact hlt) (by simp only [HT.out]; exact hd))
      by_cases h48 : ((t[k]).toNat : Int) < 48
      ·clear hd
       go_wp2_with fail
       go_ret2
       rw [HR.out]
       exact ⟨rfl, Below.refl _ _⟩
      ·have h57 : (57 : Int) < ((t[k]).toNat : Int) := by omega
       clear hd
       go_wp2_with fail
       go_ret2
       rw [HR.out]
       exact ⟨rfl, Below.refl _ _⟩
    ·obtain rfl : k = t.size := by omega
     have hlti : ¬ (t.size : Int) < (t.size : Int) := by omega
     have HDx := HD.out
     rw [List.take_of_length_le (by simp)] at HDx
     have HC := Lib.hid (jht (s := s) (m := n) (by rw [HT.out]; exact ht1) (by simp only [HT.out]; exact fun k hk => HA.out k hk hk) (by rw [HT.out]; exact HDx))
     clear HDx
     have HV := Lib.hid (show Lib.atoi s.data.toList = some (-(n : Int)) by rw [HC.out, HT.out, if_pos hts])
     have hvv : inB (-(n : Int)) (-999999) 999999 = true := by unfold inB; rw [decide_eq_true (by omega), decide_eq_true (by omega)]; rfl
     have HR0 := Lib.hid (jej HV.out)
     have HVV := Lib.hid hvv
     clear hvv
     go_wp2_with fail
     refine (jau (-(n : Int)) _ (by omega) (by omega)).mono ?_
     rintro e w2 ⟨rfl, q2⟩
     by_cases hc : jbe (-(n : Int)) = s
     ·have HR := Lib.hid (show ja1 s = some (-(n : Int)) by rw [HR0.out, if_pos ⟨HVV.out, hc⟩])
      have f1 : ((jbe (-(n : Int))).toList == s.toList) = true := by rw [jcc]; exact decide_eq_true hc
      clear hc
      go_wp2_with fail
      go_ret2
      rw [HR.out]
      exact ⟨rfl, q2.below _⟩
     ·have HR := Lib.hid (show ja1 s = none by rw [HR0.out, if_neg (fun h => hc h.2)])
      have f1 : ((jbe (-(n : Int))).toList == s.toList) = false := by rw [jcc]; exact decide_eq_false hc
      clear hc
      go_wp2_with fail
      go_ret2
      rw [HR.out]
      exact ⟨rfl, q2.below _⟩
  ·have hct : ((s[0].toNat : Int) == 45) = false := by
    rw [beq_eq_false_iff_ne]
    intro e
    exact h45 (UInt8.toNat_inj.1 (by have : (45 : UInt8).toNat = 45 := rfl; omega))
   have HT0 : jc0 s = s := by
    unfold jc0
    rw [if_neg]
    rintro ⟨-, h⟩
    rw [List.head?_eq_getElem?, List.getElem?_eq_getElem (by simp; omega)] at h
    injection h with h
    exact h45 h
   clear h45
   go_upto_region 4 with fail
   have HT := Lib.hid HT0
   have hts : ¬ s.size < s.size := Nat.lt_irrefl _
   have htsi : ¬ (s.size : Int) < (s.size : Int) := by omega
   clear HT0
   obtain ⟨ib, hib⟩ : ∃ ib, inB (s.size : Int) 1 6 = ib := ⟨_, rfl⟩
   have HIB := Lib.hid hib
   cases ib
   ·have HR := Lib.hid (jer (s := s) (by rw [HT.out]; exact HIB.out))
    clear hib
    go_wp2_with (go_at_call 111; refine (jae _ _ _ _).mono ?_; rw [HIB.out]; rintro e w' ⟨rfl, rfl⟩)
    go_ret2
    rw [HR.out]
    exact ⟨rfl, Below.refl _ _⟩
   unfold inB at hib
   simp only [Bool.and_eq_true, decide_eq_true_eq] at hib
   have ht1 : 1 ≤ s.size := by omega
   have ht6 : s.size ≤ 6 := by omega
   clear hib
   go_wp2_with (go_at_call 111; refine (jae _ _ _ _).mono ?_; rw [HIB.out]; rintro e w' ⟨rfl, rfl⟩)
   go_loop [5, 6] (fun a i => ∃ (k n : Nat), k ≤ s.size ∧ i = .int .i64 (k : Int) ∧ a = .int .i64 (n : Int) ∧ n ≤ 999999 ∧ Hid (Lib.decFrom 0 (s.data.toList.take k) = some n) ∧ Hid (∀ (j : Nat) (hj : j < s.size), j < k → 48 ≤ (s[j]).toNat ∧ (s[j]).toNat ≤ 57)) (fun _ i => s.size - (intOf i).toNat)
   case atStart => exact ⟨0, 0, Nat.zero_le _, rfl, rfl, by omega, Lib.hid rfl, Lib.hid (fun j hj h => absurd h (by omega))⟩
   case round =>
    obtain ⟨k, n, hk, rfl, rfl, hn9, HD, HA⟩ := hrel
    by_cases hlt : k < s.size
    ·have hlti : (k : Int) < (s.size : Int) := by omega
     have hu := UInt8.toNat_lt s[k]
     by_cases hd : 48 ≤ (s[k]).toNat ∧ (s[k]).toNat ≤ 57
     ·have HN := jks hlt HD.out hd
      have hlim := Lib.decFrom_lt _ 0 _ HN
      have hlen : (s.data.toList.take (k + 1)).length = k + 1 := by
       have h3 : s.data.toList.length = s.size := by simp
       rw [List.length_take]
       omega
      rw [hlen] at hlim
      have hpw : 10 ^ (k + 1) ≤ 10 ^ 6 := Nat.pow_le_pow_right (by decide) (by omega)
      have hlim2 : n * 10 + ((s[k]).toNat - 48) ≤ 999999 := by
       have e6 : (10 : Nat) ^ 6 = 1000000 := by decide
       omega
      have HN2 := Lib.hid HN
      have HA2 := Lib.hid (show ∀ (j : Nat) (hj : j < s.size), j < k + 1 → 48 ≤ (s[j]).toNat ∧ (s[j]).toNat ≤ 57 from fun j hj hjk => by
       by_cases e : j = k
       ·subst e; exact hd
       ·exact HA.out j hj (by omega))
      obtain ⟨hd1, hd2⟩ := hd
      have f1 : ¬ ((s[k]).toNat : Int) < 48 := by omega
      have f2 : ¬ (57 : Int) < ((s[k]).toNat : Int) := by omega
      clear HN hlim hpw hlen
      go_wp2_with fail
      go_round
      case rel => exact ⟨k + 1, n * 10 + ((s[k]).toNat - 48), by omega, by go_num, by first | rfl | (congr 1; omega), hlim2, HN2, HA2⟩
      case measure => simp [intOf]; omega
     ·have HR := Lib.hid (jex (s := s) (k := k) (by rw [HT.out]; exact hlt) (by simp only [HT.out]; exact hd))
      by_cases h48 : ((s[k]).toNat : Int) < 48
      ·clear hd
       go_wp2_with fail
       go_ret2
       rw [HR.out]
       exact ⟨rfl, Below.refl _ _⟩
      ·have h57 : (57 : Int) < ((s[k]).toNat : Int) := by omega
       clear hd
       go_wp2_with fail
       go_ret2
       rw [HR.out]
       exact ⟨rfl, Below.refl _ _⟩
    ·obtain rfl : k = s.size := by omega
     have hlti : ¬ (s.size : Int) < (s.size : Int) := by omega
     have HDx := HD.out
     rw [List.take_of_length_le (by simp)] at HDx
     have HC := Lib.hid (jht (s := s) (m := n) (by rw [HT.out]; exact ht1) (by simp only [HT.out]; exact fun k hk => HA.out k hk hk) (by rw [HT.out]; exact HDx))
     clear HDx
     have HV := Lib.hid (show Lib.atoi s.data.toList = some (n : Int) by rw [HC.out, HT.out, if_neg hts])
     have hvv : inB (n : Int) (-999999) 999999 = true := by unfold inB; rw [decide_eq_true (by omega), decide_eq_true (by omega)]; rfl
     have HR0 := Lib.hid (jej HV.out)
     have HVV := Lib.hid hvv
     clear hvv
     go_wp2_with fail
     refine (jau (n : Int) _ (by omega) (by omega)).mono ?_
     rintro e w2 ⟨rfl, q2⟩
     by_cases hc : jbe (n : Int) = s
     ·have HR := Lib.hid (show ja1 s = some (n : Int) by rw [HR0.out, if_pos ⟨HVV.out, hc⟩])
      have f1 : ((jbe (n : Int)).toList == s.toList) = true := by rw [jcc]; exact decide_eq_true hc
      clear hc
      go_wp2_with fail
      go_ret2
      rw [HR.out]
      exact ⟨rfl, q2.below _⟩
     ·have HR := Lib.hid (show ja1 s = none by rw [HR0.out, if_neg (fun h => hc h.2)])
      have f1 : ((jbe (n : Int)).toList == s.toList) = false := by rw [jcc]; exact decide_eq_false hc
      clear hc
      go_wp2_with fail
      go_ret2
      rw [HR.out]
      exact ⟨rfl, q2.below _⟩
 ·have h1' : ¬ (1 : Int) < (s.size : Int) := by omega
  have HT0 : jc0 s = s := by unfold jc0; rw [if_neg (fun h => h1 h.1)]
  go_upto_region 4 with fail
  have HT := Lib.hid HT0
  have hts : ¬ s.size < s.size := Nat.lt_irrefl _
  have htsi : ¬ (s.size : Int) < (s.size : Int) := by omega
  clear HT0
  obtain ⟨ib, hib⟩ : ∃ ib, inB (s.size : Int) 1 6 = ib := ⟨_, rfl⟩
  have HIB := Lib.hid hib
  cases ib
  ·have HR := Lib.hid (jer (s := s) (by rw [HT.out]; exact HIB.out))
   clear hib
   go_wp2_with (go_at_call 111; refine (jae _ _ _ _).mono ?_; rw [HIB.out]; rintro e w' ⟨rfl, rfl⟩)
   go_ret2
   rw [HR.out]
   exact ⟨rfl, Below.refl _ _⟩
  unfold inB at hib
  simp only [Bool.and_eq_true, decide_eq_true_eq] at hib
  have ht1 : 1 ≤ s.size := by omega
  have ht6 : s.size ≤ 6 := by omega
  clear hib
  go_wp2_with (go_at_call 111; refine (jae _ _ _ _).mono ?_; rw [HIB.out]; rintro e w' ⟨rfl, rfl⟩)
  go_loop [5, 6] (fun a i => ∃ (k n : Nat), k ≤ s.size ∧ i = .int .i64 (k : Int) ∧ a = .int .i64 (n : Int) ∧ n ≤ 999999 ∧ Hid (Lib.decFrom 0 (s.data.toList.take k) = some n) ∧ Hid (∀ (j : Nat) (hj : j < s.size), j < k → 48 ≤ (s[j]).toNat ∧ (s[j]).toNat ≤ 57)) (fun _ i => s.size - (intOf i).toNat)
  case atStart => exact ⟨0, 0, Nat.zero_le _, rfl, rfl, by omega, Lib.hid rfl, Lib.hid (fun j hj h => absurd h (by omega))⟩
  case round =>
   obtain ⟨k, n, hk, rfl, rfl, hn9, HD, HA⟩ := hrel
   by_cases hlt : k < s.size
   ·have hlti : (k : Int) < (s.size : Int) := by omega
    have hu := UInt8.toNat_lt s[k]
    by_cases hd : 48 ≤ (s[k]).toNat ∧ (s[k]).toNat ≤ 57
    ·have HN := jks hlt HD.out hd
     have hlim := Lib.decFrom_lt _ 0 _ HN
     have hlen : (s.data.toList.take (k + 1)).length = k + 1 := by
      have h3 : s.data.toList.length = s.size := by simp
      rw [List.length_take]
      omega
     rw [hlen] at hlim
     have hpw : 10 ^ (k + 1) ≤ 10 ^ 6 := Nat.pow_le_pow_right (by decide) (by omega)
     have hlim2 : n * 10 + ((s[k]).toNat - 48) ≤ 999999 := by
      have e6 : (10 : Nat) ^ 6 = 1000000 := by decide
      omega
     have HN2 := Lib.hid HN
     have HA2 := Lib.hid (show ∀ (j : Nat) (hj : j < s.size), j < k + 1 → 48 ≤ (s[j]).toNat ∧ (s[j]).toNat ≤ 57 from fun j hj hjk => by
      by_cases e : j = k
      ·subst e; exact hd
      ·exact HA.out j hj (by omega))
     obtain ⟨hd1, hd2⟩ := hd
     have f1 : ¬ ((s[k]).toNat : Int) < 48 := by omega
     have f2 : ¬ (57 : Int) < ((s[k]).toNat : Int) := by omega
     clear HN hlim hpw hlen
     go_wp2_with fail
     go_round
     case rel => exact ⟨k + 1, n * 10 + ((s[k]).toNat - 48), by omega, by go_num, by first | rfl | (congr 1; omega), hlim2, HN2, HA2⟩
     case measure => simp [intOf]; omega
    ·have HR := Lib.hid (jex (s := s) (k := k) (by rw [HT.out]; exact hlt) (by simp only [HT.out]; exact hd))
     by_cases h48 : ((s[k]).toNat : Int) < 48
     ·clear hd
      go_wp2_with fail
      go_ret2
      rw [HR.out]
      exact ⟨rfl, Below.refl _ _⟩
     ·have h57 : (57 : Int) < ((s[k]).toNat : Int) := by omega
      clear hd
      go_wp2_with fail
      go_ret2
      rw [HR.out]
      exact ⟨rfl, Below.refl _ _⟩
   ·obtain rfl : k = s.size := by omega
    have hlti : ¬ (s.size : Int) < (s.size : Int) := by omega
    have HDx := HD.out
    rw [List.take_of_length_le (by simp)] at HDx
    have HC := Lib.hid (jht (s := s) (m := n) (by rw [HT.out]; exact ht1) (by simp only [HT.out]; exact fun k hk => HA.out k hk hk) (by rw [HT.out]; exact HDx))
    clear HDx
    have HV := Lib.hid (show Lib.atoi s.data.toList = some (n : Int) by rw [HC.out, HT.out, if_neg hts])
    have hvv : inB (n : Int) (-999999) 999999 = true := by unfold inB; rw [decide_eq_true (by omega), decide_eq_true (by omega)]; rfl
    have HR0 := Lib.hid (jej HV.out)
    have HVV := Lib.hid hvv
    clear hvv
    go_wp2_with fail
    refine (jau (n : Int) _ (by omega) (by omega)).mono ?_
    rintro e w2 ⟨rfl, q2⟩
    by_cases hc : jbe (n : Int) = s
    ·have HR := Lib.hid (show ja1 s = some (n : Int) by rw [HR0.out, if_pos ⟨HVV.out, hc⟩])
     have f1 : ((jbe (n : Int)).toList == s.toList) = true := by rw [jcc]; exact decide_eq_true hc
     clear hc
     go_wp2_with fail
     go_ret2
     rw [HR.out]
     exact ⟨rfl, q2.below _⟩
    ·have HR := Lib.hid (show ja1 s = none by rw [HR0.out, if_neg (fun h => hc h.2)])
     have f1 : ((jbe (n : Int)).toList == s.toList) = false := by rw [jcc]; exact decide_eq_false hc
     clear hc
     go_wp2_with fail
     go_ret2
     rw [HR.out]
     exact ⟨rfl, q2.below _⟩
theorem jhb (s : ByteArray) (w : World) (hs : s.size ≤ 9223372036854775807) :
  Calls Tryz.prog 81 #[.string s] w fun e w' => e = .returned (.tuple #[.int .i64 ((ja1 s).getD 0), .bool (ja1 s).isSome]) ∧ Below w.heap.size w w' := by
 go_enter Tryz.func81, Tryz.ntmps81
 go_wp2_with fail
 refine (jn4 s w hs).mono ?_
 rintro e w1 ⟨rfl, b⟩
 go_wp2_with fail
 go_ret2
 exact ⟨rfl, b⟩
end Go.Proofs.YtflpcdffmpfdpaaGreatDoor
