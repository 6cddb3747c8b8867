/- Numbers as texts, checksums, the encoding of a record. -/
import Derived.Test.YtlhebjlibhpanaaDoorRecD
import Derived.Test.YtlhebjlibhpanaaDoorNum
import Derived.Test.YtlhebjlibhpanaaDoorOwn
import Derived.Lib.ItoaMem
import Derived.Lib.SmallJoins
namespace Go.Proofs.YtlhebjlibhpanaaDoor
open Go.RowKit

def sumC (l : List UInt8) : Nat := l.foldl (fun h c => (41 * h + c.toNat + 1) % 999979) 7
def sumT (s : ByteArray) : Nat := sumC s.data.toList
def sealT (s : ByteArray) : ByteArray := s ++ ⟨#[35]⟩ ++ numT (sumT s)
def bodyT (k : Nat) (e : LogRecord) : ByteArray := numT k ++ ⟨#[32]⟩ ++ e.command ++ ⟨#[64]⟩ ++ e.reply
def lineT (k : Nat) (e : LogRecord) : ByteArray := sealT (bodyT k e) ++ ⟨#[10]⟩
theorem sumC_lt (l : List UInt8) : sumC l < 999979 := by
  unfold sumC
  have : ∀ (l : List UInt8) (h : Nat), h < 999979 → l.foldl (fun h c => (41 * h + c.toNat + 1) % 999979) h < 999979 := by
    intro l
    induction l with
    | nil => exact fun h hh => hh
    | cons c l ih => exact fun h _ => ih _ (Nat.mod_lt _ (by decide))
  exact this l 7 (by decide)
theorem sumC_snoc (l : List UInt8) (c : UInt8) : sumC (l ++ [c]) = (41 * sumC l + c.toNat + 1) % 999979 := by
  unfold sumC
  rw [List.foldl_append]; rfl
theorem take_byte (s : ByteArray) (k : Nat) (h : k < s.size) : s.data.toList.take (k + 1) = s.data.toList.take k ++ [s[k]] := by
  rw [List.take_succ_eq_append_getElem (by simpa using h)]; rfl
/-- The variables of Go's library that these functions read. -/
structure Gl (w : World) : Prop where
  tab : Lib.TabIs Tryd.prog w "internal/strconv.uint64pow10" .u64 Lib.pow10Tab
  ml : ∃ m, w.cell? ⟨1, 0, none⟩ = some (.int .i64 m)
theorem gPow : Tryd.prog.globalNamed "internal/strconv.uint64pow10" = some 0 := by kernel_rfl
theorem Gl.next {w w' : World} (h : Gl w) (hb : Below w.heap.size w w') : Gl w' := by
  obtain ⟨m, hm⟩ := h.ml
  refine ⟨Joins.tab_stays gPow h.tab hb (Nat.le_refl _), m, ?_⟩
  rw [(bcell hb).1 1 0 (World.block_lt_of_cell? w _ hm)]
  exact hm
theorem below_grow (w : World) (q : Nat) (os : Array Obj) : Below w.heap.size w (Sort.grow (w.drewN q) os) :=
  ⟨rfl, rfl, rfl, by simp [Sort.grow], fun i hi => by
    show ((w.drewN q).heap ++ os)[i]? = _
    rw [Array.getElem?_append_left (by show i < w.heap.size; omega)]
    rfl⟩
theorem Itoa_any (n : Nat) (w : World) (hn : n ≤ 1000000000) (hg : Gl w) :
    Calls Tryd.prog 22 #[.int .i64 (n : Int)] w fun e w' => e = .returned (.string (numT n)) ∧ Below w.heap.size w w' :=
  (sh_strconv_Itoa n (by omega) (by omega) w hg.tab).mono fun e w' ⟨he, k, os, hw⟩ => ⟨by rw [he, Lib.itoa_nonneg]; rfl, by rw [hw]; exact below_grow _ _ _⟩

set_option maxHeartbeats 400000 in
theorem checksum_any (s : ByteArray) (w : World) (hs : s.size ≤ 9223372036854775807) :
    Calls Tryd.prog 85 #[.string s] w fun e w' => e = .returned (.int .i64 (sumT s : Nat)) ∧ w = w' := by
  go_enter Tryd.func85, Tryd.ntmps85
  go_wp2
  go_loop [3, 4] (fun h i => ∃ k : Nat, k ≤ s.size ∧ i = .int .i64 k ∧ h = .int .i64 (sumC (s.data.toList.take k) : Nat)) (fun _ i => s.size - (intOf i).toNat)
  case atStart => exact ⟨0, Nat.zero_le _, rfl, rfl⟩
  case round =>
    obtain ⟨k, hk, rfl, rfl⟩ := hrel
    by_cases hlt : k < s.size
    · have hb := byte_cast s[k]
      have hc := s[k].toNat_lt
      have hl := sumC_lt (s.data.toList.take k)
      have HN := Lib.hid (show sumC (s.data.toList.take (k + 1)) = (41 * sumC (s.data.toList.take k) + s[k].toNat + 1) % 999979 by rw [take_byte s k hlt, sumC_snoc])
      generalize sumC (s.data.toList.take k) = h0 at *
      go_wp2
      go_round
      case rel => exact ⟨k + 1, by omega, by go_num, by rw [HN.out]; first | done | rfl | go_num⟩
      case measure => simp [intOf]; omega
    · have HR := Lib.hid (show sumT s = sumC (s.data.toList.take k) by rw [sumT, List.take_of_length_le (by simp; omega)])
      go_wp2
      go_ret
      exact ⟨ret_int (by rw [HR.out]), rfl⟩

set_option maxHeartbeats 400000 in
theorem l1Sum_any (s : ByteArray) (w : World) (hs : s.size ≤ 9223372036854775807) :
    Calls Tryd.prog 89 #[.string s] w fun e w' => e = .returned (.int .i64 (sumT s : Nat)) ∧ w = w' := by
  go_enter Tryd.func89, Tryd.ntmps89
  go_wp2
  go_loop [3, 4] (fun h i => ∃ k : Nat, k ≤ s.size ∧ i = .int .i64 k ∧ h = .int .i64 (sumC (s.data.toList.take k) : Nat)) (fun _ i => s.size - (intOf i).toNat)
  case atStart => exact ⟨0, Nat.zero_le _, rfl, rfl⟩
  case round =>
    obtain ⟨k, hk, rfl, rfl⟩ := hrel
    by_cases hlt : k < s.size
    · have hb := byte_cast s[k]
      have hc := s[k].toNat_lt
      have hl := sumC_lt (s.data.toList.take k)
      have HN := Lib.hid (show sumC (s.data.toList.take (k + 1)) = (41 * sumC (s.data.toList.take k) + s[k].toNat + 1) % 999979 by rw [take_byte s k hlt, sumC_snoc])
      generalize sumC (s.data.toList.take k) = h0 at *
      go_wp2
      go_round
      case rel => exact ⟨k + 1, by omega, by go_num, by rw [HN.out]; first | done | rfl | go_num⟩
      case measure => simp [intOf]; omega
    · have HR := Lib.hid (show sumT s = sumC (s.data.toList.take k) by rw [sumT, List.take_of_length_le (by simp; omega)])
      go_wp2
      go_ret
      exact ⟨ret_int (by rw [HR.out]), rfl⟩

theorem sumT_num (s : ByteArray) : (numT (sumT s)).size ≤ 6 := numT_size _ 6 (Nat.lt_of_lt_of_le (sumC_lt _) (by decide)) (by decide)
theorem sealT_size (s : ByteArray) : (sealT s).size ≤ s.size + 7 := by
  have := sumT_num s
  have h1 : (⟨#[35]⟩ : ByteArray).size = 1 := rfl
  unfold sealT
  rw [ByteArray.size_append, ByteArray.size_append]
  omega
theorem hasC_append (b : UInt8) (s t : ByteArray) : hasC b (s ++ t) = (hasC b s || hasC b t) := by
  unfold hasC
  rw [Bool.eq_iff_iff]
  simp [ByteArray.data_append]
theorem hasC_num (b : UInt8) (n : Nat) (h : b.toNat < 48 ∨ 57 < b.toNat) : hasC b (numT n) = false := by
  unfold hasC numT
  rw [← Bool.not_eq_true, List.contains_iff_mem]
  intro hm
  have := digits_in n b (by simpa using hm)
  omega
theorem plain_no {s : ByteArray} (h : plainB s = true) (b : UInt8) (hb : plainC b = false) : hasC b s = false := by
  unfold hasC
  rw [← Bool.not_eq_true, List.contains_iff_mem]
  intro hm
  unfold plainB at h
  have := List.all_eq_true.1 h b hm
  rw [hb] at this; cases this
theorem recB_facts {e : LogRecord} (h : recB e = true) : (1 ≤ e.command.size ∧ e.command.size ≤ 160) ∧ e.reply.size ≤ 200 ∧ plainB e.command = true ∧ plainB e.reply = true ∧ hasC 64 e.command = false := by
  unfold recB at h
  simp only [Bool.and_eq_true, decide_eq_true_eq, Bool.not_eq_true'] at h
  have := inB_true h.1.1.1.1
  exact ⟨by omega, h.1.1.1.2, h.1.1.2, h.1.2, h.2⟩
theorem body_no {k : Nat} {e : LogRecord} (h : recB e = true) : hasC 35 (bodyT k e) = false := by
  obtain ⟨_, _, h1, h2, _⟩ := recB_facts h
  unfold bodyT
  simp only [hasC_append, hasC_num 35 k (by decide), plain_no h1 35 (by decide), plain_no h2 35 (by decide)]
  rfl
theorem body_size {k : Nat} {e : LogRecord} (h : recB e = true) (hk : k < 100) : (bodyT k e).size ≤ 364 := by
  obtain ⟨h1, h2, _⟩ := recB_facts h
  have h3 := numT_size k 2 (by omega) (by decide)
  have e1 : (⟨#[32]⟩ : ByteArray).size = 1 := rfl
  have e2 : (⟨#[64]⟩ : ByteArray).size = 1 := rfl
  unfold bodyT
  simp only [ByteArray.size_append]
  omega

theorem l1Seal_any (s : ByteArray) (w : World) (hs : s.size ≤ 1000000) :
    Calls Tryd.prog 81 #[.string s] w fun e w' => e = .returned (.string (sealT s)) ∧ Quiet w w' := by
  have h6 := sumT_num s
  have hl : sumT s ≤ 1000000000 := Nat.le_trans (Nat.le_of_lt (sumC_lt _)) (by decide)
  have HS := Lib.hid (show sealT s = s ++ ⟨#[35]⟩ ++ numT (sumT s) from rfl)
  go_enter Tryd.func81, Tryd.ntmps81
  go_wp2_with (go_at_call 89; refine (l1Sum_any _ _ (by omega)).mono ?_; rintro e w' ⟨rfl, rfl⟩)
  refine (l1Num_any _ _ hl).mono ?_
  rintro e w1 ⟨rfl, q1⟩
  go_wp2_with fail
  go_ret
  exact ⟨by rw [HS.out]; rfl, q1⟩

theorem AppendChecksum_any (s : ByteArray) (w : World) (hs : s.size ≤ 3000) (hno : hasC 35 s = false) (hg : Gl w) :
    Calls Tryd.prog 72 #[.string s] w fun e w' => e = .returned (.tuple #[.string (sealT s), .bool true]) ∧ Below w.heap.size w w' := by
  have h6 := sumT_num s
  have hl : sumT s ≤ 1000000000 := Nat.le_trans (Nat.le_of_lt (sumC_lt _)) (by decide)
  have HS := Lib.hid (show sealT s = s ++ ⟨#[35]⟩ ++ numT (sumT s) from rfl)
  have HN := Lib.hid hno
  clear hno
  go_enter Tryd.func72, Tryd.ntmps72
  go_wp2_with fail
  refine (sh_strings_Contains_one _ 35 _).mono ?_
  rw [← Lib.contains_iff_indexByte, show s.data.toList.contains 35 = false from HN.out]
  rintro e w' ⟨rfl, rfl⟩
  go_wp2_with (go_at_call 85; refine (checksum_any _ _ (by omega)).mono ?_; rintro e w' ⟨rfl, rfl⟩)
  refine (Itoa_any _ _ hl hg).mono ?_
  rintro e w1 ⟨rfl, b1⟩
  go_wp2_with fail
  go_ret2
  exact ⟨by rw [HS.out]; rfl, b1⟩

end Go.Proofs.YtlhebjlibhpanaaDoor
