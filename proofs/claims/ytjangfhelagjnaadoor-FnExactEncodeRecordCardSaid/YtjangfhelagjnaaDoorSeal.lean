/- Numbers as texts, checksums, the encoding of a record. -/
import Derived.Test.YtjangfhelagjnaaDoorRecD
import Derived.Test.YtjangfhelagjnaaDoorOwn
import Derived.Lib.ItoaMem
import Derived.Lib.SmallJoins
namespace Go.Proofs.YtjangfhelagjnaaDoor
open Go.RowKit

def numT (n : Nat) : ByteArray := ⟨(Lib.decDigits n).toArray⟩
def sumC (l : List UInt8) : Nat := l.foldl (fun h c => (41 * h + c.toNat + 1) % 999979) 7
def sumT (s : ByteArray) : Nat := sumC s.data.toList
def sealT (s : ByteArray) : ByteArray := s ++ ⟨#[35]⟩ ++ numT (sumT s)
def bodyT (k : Nat) (e : LogRecord) : ByteArray := numT k ++ ⟨#[32]⟩ ++ e.command ++ ⟨#[64]⟩ ++ e.reply
def lineT (k : Nat) (e : LogRecord) : ByteArray := sealT (bodyT k e) ++ ⟨#[10]⟩
theorem sumC_lt (l : List UInt8) : sumC l < 999979 := by
  unfold sumC
  have : ∀ (l : List UInt8) (h : Nat), h < 999979 → l.foldl (fun h c => (41 * h + c.toNat + 1) % 999979) h < 999979 := by
    intro l
    induction l with
    | nil => exact fun h hh => hh
    | cons c l ih => exact fun h _ => ih _ (Nat.mod_lt _ (by decide))
  exact this l 7 (by decide)
theorem sumC_snoc (l : List UInt8) (c : UInt8) : sumC (l ++ [c]) = (41 * sumC l + c.toNat + 1) % 999979 := by
  unfold sumC
  rw [List.foldl_append]; rfl
theorem take_byte (s : ByteArray) (k : Nat) (h : k < s.size) : s.data.toList.take (k + 1) = s.data.toList.take k ++ [s[k]] := by
  rw [List.take_succ_eq_append_getElem (by simpa using h)]; rfl
theorem numT_small {n : Nat} (h : n < 10) : numT n = ⟨#[UInt8.ofNat (48 + n)]⟩ := by
  unfold numT
  rw [Lib.decDigits, dif_pos h]
theorem numT_big {n : Nat} (h : ¬ n < 10) : numT n = numT (n / 10) ++ ⟨#[UInt8.ofNat (48 + n % 10)]⟩ := by
  unfold numT
  rw [Lib.decDigits, dif_neg h]
  apply ByteArray.ext
  simp
theorem numT_size (n d : Nat) (h : n < 10 ^ d) (hd : 1 ≤ d) : (numT n).size ≤ d := by
  unfold numT
  show (Lib.decDigits n).toArray.size ≤ d
  rw [List.size_toArray, Lib.decDigits_length]
  induction d generalizing n with
  | zero => omega
  | succ d ih =>
    by_cases h1 : n < 10
    · rw [Lib.nDigits_small h1]; omega
    · rw [Lib.nDigits_big h1]
      have hd1 : 1 ≤ d := by
        rcases Nat.eq_zero_or_pos d with rfl | hp
        · simp at h; omega
        · exact hp
      have := ih (n / 10) (Nat.div_lt_of_lt_mul (by rw [Nat.pow_succ] at h; omega)) hd1
      omega
theorem numT_pos (n : Nat) : 1 ≤ (numT n).size := by
  unfold numT
  show 1 ≤ (Lib.decDigits n).toArray.size
  rw [List.size_toArray, Lib.decDigits_length]
  exact Lib.nDigits_pos n
/-- The variables of Go's library that these functions read. -/
structure Gl (w : World) : Prop where
  tab : Lib.TabIs Tryd.prog w "internal/strconv.uint64pow10" .u64 Lib.pow10Tab
  ml : ∃ m, w.cell? ⟨0, 0, none⟩ = some (.int .i64 m)
theorem gPow : Tryd.prog.globalNamed "internal/strconv.uint64pow10" = some 1 := by kernel_rfl
theorem Gl.next {w w' : World} (h : Gl w) (hb : Below w.heap.size w w') : Gl w' := by
  obtain ⟨m, hm⟩ := h.ml
  refine ⟨Joins.tab_stays gPow h.tab hb (Nat.le_refl _), m, ?_⟩
  rw [(bcell hb).1 0 0 (World.block_lt_of_cell? w _ hm)]
  exact hm
theorem below_grow (w : World) (q : Nat) (os : Array Obj) : Below w.heap.size w (Sort.grow (w.drewN q) os) :=
  ⟨rfl, rfl, rfl, by simp [Sort.grow], fun i hi => by
    show ((w.drewN q).heap ++ os)[i]? = _
    rw [Array.getElem?_append_left (by show i < w.heap.size; omega)]
    rfl⟩
theorem Itoa_any (n : Nat) (w : World) (hn : n ≤ 1000000000) (hg : Gl w) :
    Calls Tryd.prog 66 #[.int .i64 (n : Int)] w fun e w' => e = .returned (.string (numT n)) ∧ Below w.heap.size w w' :=
  (sh_strconv_Itoa n (by omega) (by omega) w hg.tab).mono fun e w' ⟨he, k, os, hw⟩ => ⟨by rw [he, Lib.itoa_nonneg]; rfl, by rw [hw]; exact below_grow _ _ _⟩

set_option maxHeartbeats 400000 in
theorem checksum_any (s : ByteArray) (w : World) (hs : s.size ≤ 9223372036854775807) :
    Calls Tryd.prog 74 #[.string s] w fun e w' => e = .returned (.int .i64 (sumT s : Nat)) ∧ w = w' := by
  go_enter Tryd.func74, Tryd.ntmps74
  go_wp2
  go_loop [3, 4] (fun h i => ∃ k : Nat, k ≤ s.size ∧ i = .int .i64 k ∧ h = .int .i64 (sumC (s.data.toList.take k) : Nat)) (fun _ i => s.size - (intOf i).toNat)
  case atStart => exact ⟨0, Nat.zero_le _, rfl, rfl⟩
  case round =>
    obtain ⟨k, hk, rfl, rfl⟩ := hrel
    by_cases hlt : k < s.size
    · have hb := byte_cast s[k]
      have hc := s[k].toNat_lt
      have hl := sumC_lt (s.data.toList.take k)
      have HN := Lib.hid (show sumC (s.data.toList.take (k + 1)) = (41 * sumC (s.data.toList.take k) + s[k].toNat + 1) % 999979 by rw [take_byte s k hlt, sumC_snoc])
      generalize sumC (s.data.toList.take k) = h0 at *
      go_wp2
      go_round
      case rel => exact ⟨k + 1, by omega, by go_num, by rw [HN.out]; first | done | rfl | go_num⟩
      case measure => simp [intOf]; omega
    · have HR := Lib.hid (show sumT s = sumC (s.data.toList.take k) by rw [sumT, List.take_of_length_le (by simp; omega)])
      go_wp2
      go_ret
      exact ⟨ret_int (by rw [HR.out]), rfl⟩

set_option maxHeartbeats 400000 in
theorem l1Sum_any (s : ByteArray) (w : World) (hs : s.size ≤ 9223372036854775807) :
    Calls Tryd.prog 73 #[.string s] w fun e w' => e = .returned (.int .i64 (sumT s : Nat)) ∧ w = w' := by
  go_enter Tryd.func73, Tryd.ntmps73
  go_wp2
  go_loop [3, 4] (fun h i => ∃ k : Nat, k ≤ s.size ∧ i = .int .i64 k ∧ h = .int .i64 (sumC (s.data.toList.take k) : Nat)) (fun _ i => s.size - (intOf i).toNat)
  case atStart => exact ⟨0, Nat.zero_le _, rfl, rfl⟩
  case round =>
    obtain ⟨k, hk, rfl, rfl⟩ := hrel
    by_cases hlt : k < s.size
    · have hb := byte_cast s[k]
      have hc := s[k].toNat_lt
      have hl := sumC_lt (s.data.toList.take k)
      have HN := Lib.hid (show sumC (s.data.toList.take (k + 1)) = (41 * sumC (s.data.toList.take k) + s[k].toNat + 1) % 999979 by rw [take_byte s k hlt, sumC_snoc])
      generalize sumC (s.data.toList.take k) = h0 at *
      go_wp2
      go_round
      case rel => exact ⟨k + 1, by omega, by go_num, by rw [HN.out]; first | done | rfl | go_num⟩
      case measure => simp [intOf]; omega
    · have HR := Lib.hid (show sumT s = sumC (s.data.toList.take k) by rw [sumT, List.take_of_length_le (by simp; omega)])
      go_wp2
      go_ret
      exact ⟨ret_int (by rw [HR.out]), rfl⟩

theorem dig_one : ∀ d : Fin 10, (⟨#[48, 49, 50, 51, 52, 53, 54, 55, 56, 57]⟩ : ByteArray).extract d.val (d.val + 1) = ⟨#[UInt8.ofNat (48 + d.val)]⟩ := by decide +kernel
theorem dig_at (n : Nat) (h : n < 10) : (⟨#[48, 49, 50, 51, 52, 53, 54, 55, 56, 57]⟩ : ByteArray).extract n (n + 1) = ⟨#[UInt8.ofNat (48 + n)]⟩ := dig_one ⟨n, h⟩
theorem l1Num_all (f : Nat) : ∀ (n : Nat) (z : Int) (w : World), z = (n : Int) → n ≤ f → n ≤ 1000000000 →
    Calls Tryd.prog 64 #[.int .i64 z] w fun e w' => e = .returned (.string (numT n)) ∧ Quiet w w' := by
  induction f with
  | zero =>
    rintro n z w rfl hn _
    obtain rfl : n = 0 := by omega
    have HD := Lib.hid (numT_small (n := 0) (by decide))
    go_enter Tryd.func64, Tryd.ntmps64
    go_wp2_with fail
    go_ret
    exact ⟨by rw [HD.out]; rfl, Quiet.refl _⟩
  | succ f ih =>
    rintro n z w rfl hn hb
    by_cases h : n < 10
    · have HD := Lib.hid ((numT_small h).trans (dig_at n h).symm)
      go_enter Tryd.func64, Tryd.ntmps64
      go_wp2_with fail
      go_ret
      exact ⟨by rw [HD.out]; rfl, Quiet.refl _⟩
    · have HD := Lib.hid (numT_big h)
      have HE := Lib.hid (dig_at (n % 10) (Nat.mod_lt _ (by decide)))
      have IH := Lib.hid ih
      have hm : n % 10 < 10 := Nat.mod_lt _ (by decide)
      have hq : n / 10 ≤ f := by omega
      have hq2 : n / 10 ≤ 1000000000 := by omega
      have hz : (n : Int) / 10 = ((n / 10 : Nat) : Int) := by omega
      have Hz := Lib.hid hz
      clear hz
      clear ih
      go_enter Tryd.func64, Tryd.ntmps64
      go_wp2_with fail
      have hA1 : (numT (n / 10)).size ≤ 9 := numT_size _ 9 (by omega) (by decide)
      have hD1 : ((⟨#[48, 49, 50, 51, 52, 53, 54, 55, 56, 57]⟩ : ByteArray).extract (n % 10) (n % 10 + 1)).size ≤ 1 := by rw [HE.out]; exact Nat.le_refl _
      have hS1 : (numT (n / 10)).size + ((⟨#[48, 49, 50, 51, 52, 53, 54, 55, 56, 57]⟩ : ByteArray).extract (n % 10) (n % 10 + 1)).size ≤ 9223372036854775807 := by omega
      have t1 : ((n : Int) % 10).toNat = n % 10 := by omega
      have t2 : ((n : Int) % 10 + 1).toNat = n % 10 + 1 := by omega
      have t3 : (0 : Int) ≤ (n : Int) % 10 := by omega
      have t4 : (n : Int) % 10 ≤ (n : Int) % 10 + 1 := by omega
      have t5 : (n : Int) % 10 + 1 ≤ 10 := by omega
      have t6 : (0 : Int) ≤ (n : Int) % 10 + 1 := by omega
      have t0 : (n : Int).tmod 10 = (n : Int) % 10 := Int.tmod_eq_emod_of_nonneg (by omega)
      have w1 : IntKind.i64.wrap ((n : Int) / 10) = (n : Int) / 10 := IntWalk.i64_in _ (by omega)
      have w2 : IntKind.i64.wrap ((n : Int) % 10) = (n : Int) % 10 := IntWalk.i64_in _ (by omega)
      have w3 : IntKind.i64.wrap ((n : Int) % 10 + 1) = (n : Int) % 10 + 1 := IntWalk.i64_in _ (by omega)
      go_quiet ((go_at_call 64; exact quiet_rightG (IH.out (n / 10) _ _ Hz.out hq hq2)))
      go_wp2_with fail
      go_ret
      exact ⟨by rw [HD.out, ← HE.out]; rfl, Quiet.mk _ _⟩

theorem l1Num_any (n : Nat) (w : World) (hn : n ≤ 1000000000) : Calls Tryd.prog 64 #[.int .i64 (n : Int)] w fun e w' => e = .returned (.string (numT n)) ∧ Quiet w w' := l1Num_all n n n w rfl (Nat.le_refl _) hn
theorem digits_in (n : Nat) : ∀ c ∈ Lib.decDigits n, 48 ≤ c.toNat ∧ c.toNat ≤ 57 := by
  induction n using Nat.strongRecOn with
  | _ n ih =>
    have hd : ∀ d, d < 10 → (UInt8.ofNat (48 + d)).toNat = 48 + d := fun d h => by rw [UInt8.toNat_ofNat']; omega
    rw [Lib.decDigits]
    split
    · rename_i h
      intro c hc
      obtain rfl := List.mem_singleton.1 hc
      rw [hd n h]; omega
    · rename_i h
      intro c hc
      rcases List.mem_append.1 hc with hc | hc
      · exact ih (n / 10) (by omega) c hc
      · obtain rfl := List.mem_singleton.1 hc
        have := Nat.mod_lt n (show 0 < 10 by decide)
        rw [hd _ this]; omega
theorem sumT_num (s : ByteArray) : (numT (sumT s)).size ≤ 6 := numT_size _ 6 (Nat.lt_of_lt_of_le (sumC_lt _) (by decide)) (by decide)
theorem sealT_size (s : ByteArray) : (sealT s).size ≤ s.size + 7 := by
  have := sumT_num s
  have h1 : (⟨#[35]⟩ : ByteArray).size = 1 := rfl
  unfold sealT
  rw [ByteArray.size_append, ByteArray.size_append]
  omega
theorem hasC_append (b : UInt8) (s t : ByteArray) : hasC b (s ++ t) = (hasC b s || hasC b t) := by
  unfold hasC
  rw [Bool.eq_iff_iff]
  simp [ByteArray.data_append]
theorem hasC_num (b : UInt8) (n : Nat) (h : b.toNat < 48 ∨ 57 < b.toNat) : hasC b (numT n) = false := by
  unfold hasC numT
  rw [← Bool.not_eq_true, List.contains_iff_mem]
  intro hm
  have := digits_in n b (by simpa using hm)
  omega
theorem plain_no {s : ByteArray} (h : plainB s = true) (b : UInt8) (hb : plainC b = false) : hasC b s = false := by
  unfold hasC
  rw [← Bool.not_eq_true, List.contains_iff_mem]
  intro hm
  unfold plainB at h
  have := List.all_eq_true.1 h b hm
  rw [hb] at this; cases this
theorem recB_facts {e : LogRecord} (h : recB e = true) : (1 ≤ e.command.size ∧ e.command.size ≤ 160) ∧ e.reply.size ≤ 200 ∧ plainB e.command = true ∧ plainB e.reply = true ∧ hasC 64 e.command = false := by
  unfold recB at h
  simp only [Bool.and_eq_true, decide_eq_true_eq, Bool.not_eq_true'] at h
  have := inB_true h.1.1.1.1
  exact ⟨by omega, h.1.1.1.2, h.1.1.2, h.1.2, h.2⟩
theorem body_no {k : Nat} {e : LogRecord} (h : recB e = true) : hasC 35 (bodyT k e) = false := by
  obtain ⟨_, _, h1, h2, _⟩ := recB_facts h
  unfold bodyT
  simp only [hasC_append, hasC_num 35 k (by decide), plain_no h1 35 (by decide), plain_no h2 35 (by decide)]
  rfl
theorem body_size {k : Nat} {e : LogRecord} (h : recB e = true) (hk : k < 100) : (bodyT k e).size ≤ 364 := by
  obtain ⟨h1, h2, _⟩ := recB_facts h
  have h3 := numT_size k 2 (by omega) (by decide)
  have e1 : (⟨#[32]⟩ : ByteArray).size = 1 := rfl
  have e2 : (⟨#[64]⟩ : ByteArray).size = 1 := rfl
  unfold bodyT
  simp only [ByteArray.size_append]
  omega

theorem l1Seal_any (s : ByteArray) (w : World) (hs : s.size ≤ 1000000) :
    Calls Tryd.prog 63 #[.string s] w fun e w' => e = .returned (.string (sealT s)) ∧ Quiet w w' := by
  have h6 := sumT_num s
  have hl : sumT s ≤ 1000000000 := Nat.le_trans (Nat.le_of_lt (sumC_lt _)) (by decide)
  have HS := Lib.hid (show sealT s = s ++ ⟨#[35]⟩ ++ numT (sumT s) from rfl)
  go_enter Tryd.func63, Tryd.ntmps63
  go_wp2_with (go_at_call 73; refine (l1Sum_any _ _ (by omega)).mono ?_; rintro e w' ⟨rfl, rfl⟩)
  refine (l1Num_any _ _ hl).mono ?_
  rintro e w1 ⟨rfl, q1⟩
  go_wp2_with fail
  go_ret
  exact ⟨by rw [HS.out]; rfl, q1⟩

theorem AppendChecksum_any (s : ByteArray) (w : World) (hs : s.size ≤ 3000) (hno : hasC 35 s = false) (hg : Gl w) :
    Calls Tryd.prog 65 #[.string s] w fun e w' => e = .returned (.tuple #[.string (sealT s), .bool true]) ∧ Below w.heap.size w w' := by
  have h6 := sumT_num s
  have hl : sumT s ≤ 1000000000 := Nat.le_trans (Nat.le_of_lt (sumC_lt _)) (by decide)
  have HS := Lib.hid (show sealT s = s ++ ⟨#[35]⟩ ++ numT (sumT s) from rfl)
  have HN := Lib.hid hno
  clear hno
  go_enter Tryd.func65, Tryd.ntmps65
  go_wp2_with fail
  refine (sh_strings_Contains_one _ 35 _).mono ?_
  rw [← Lib.contains_iff_indexByte, show s.data.toList.contains 35 = false from HN.out]
  rintro e w' ⟨rfl, rfl⟩
  go_wp2_with (go_at_call 74; refine (checksum_any _ _ (by omega)).mono ?_; rintro e w' ⟨rfl, rfl⟩)
  refine (Itoa_any _ _ hl hg).mono ?_
  rintro e w1 ⟨rfl, b1⟩
  go_wp2_with fail
  go_ret2
  exact ⟨by rw [HS.out]; rfl, b1⟩

end Go.Proofs.YtjangfhelagjnaaDoor
