/- Texts cut at a byte. -/
import Derived.Test.YtlhebjlibhpanaaDoorSeal
namespace Go.Proofs.YtlhebjlibhpanaaDoor
open Go.RowKit

/-- what stands ahead of the first b; the whole text if there is none -/
def upto (b : UInt8) (s : ByteArray) : ByteArray := ⟨(s.data.toList.takeWhile (· != b)).toArray⟩
/-- what stands behind the first b; nothing if there is none -/
def past (b : UInt8) (s : ByteArray) : ByteArray := ⟨((s.data.toList.dropWhile (· != b)).drop 1).toArray⟩
theorem upto_size (b : UInt8) (s : ByteArray) : (upto b s).size ≤ s.size := by
  show (s.data.toList.takeWhile (· != b)).toArray.size ≤ s.data.size
  rw [List.size_toArray, ← Array.length_toList]
  exact (List.takeWhile_sublist _).length_le
theorem past_size (b : UInt8) (s : ByteArray) : (past b s).size ≤ s.size := by
  show ((s.data.toList.dropWhile (· != b)).drop 1).toArray.size ≤ s.data.size
  rw [List.size_toArray, ← Array.length_toList]
  exact ((List.drop_sublist _ _).trans (List.dropWhile_sublist _)).length_le
theorem cut_byte (b : UInt8) : ∀ l : List UInt8, Lib.cut l [b] = (l.takeWhile (· != b), (l.dropWhile (· != b)).drop 1, l.contains b) := by
  intro l
  unfold Lib.cut
  rw [Lib.index_one]
  induction l with
  | nil => simp [Lib.indexByte]
  | cons c l ih =>
    have hge := Lib.indexByte_ge l b
    by_cases hc : c = b
    · subst hc
      have e : Lib.indexByte (c :: l) c = 0 := by simp [Lib.indexByte]
      rw [e]; simp
    · have hc2 : (b == c) = false := by simpa using fun h => hc h.symm
      have hcn : (c != b) = true := by simp [bne, hc]
      by_cases hm : Lib.indexByte l b = -1
      · have e : Lib.indexByte (c :: l) b = -1 := by simp [Lib.indexByte, hc, hm]
        rw [hm, if_neg (by omega)] at ih
        rw [e, if_neg (by omega)]
        simp only [Prod.mk.injEq] at ih
        rw [List.takeWhile_cons, List.dropWhile_cons, if_pos hcn, if_pos hcn, List.contains_cons, hc2, ← ih.1, ← ih.2.1, ← ih.2.2]; rfl
      · have e : Lib.indexByte (c :: l) b = Lib.indexByte l b + 1 := by simp [Lib.indexByte, hc, hm]
        have h0 : 0 ≤ Lib.indexByte l b := by omega
        rw [if_pos h0] at ih
        rw [e, if_pos (by omega)]
        simp only [Prod.mk.injEq] at ih
        have e1 : (Lib.indexByte l b + 1).toNat = (Lib.indexByte l b).toNat + 1 := by omega
        have e2 : (Lib.indexByte l b + 1).toNat + [b].length = ((Lib.indexByte l b).toNat + [b].length) + 1 := by omega
        rw [List.takeWhile_cons, List.dropWhile_cons, if_pos hcn, if_pos hcn, List.contains_cons, hc2, ← ih.1, ← ih.2.1, ← ih.2.2, e2, e1]; rfl
theorem Cut_any (s : ByteArray) (b : UInt8) (w : World) (hs : s.size ≤ 3000000) (hg : Gl w) :
    Calls Tryd.prog 55 #[.string s, .string ⟨#[b]⟩] w fun e w' => e = .returned (.tuple #[.string (upto b s), .string (past b s), .bool (hasC b s)]) ∧ Quiet w w' := by
  obtain ⟨m, hm⟩ := hg.ml
  refine (sh_strings_Cut s ⟨#[b]⟩ m w (by omega) hm).mono ?_
  rw [show (⟨#[b]⟩ : ByteArray).data.toList = [b] from rfl, cut_byte]
  rintro e w' ⟨rfl, n, rfl⟩
  exact ⟨rfl, Quiet.mk _ _⟩
theorem split_list {b : UInt8} : ∀ {l : List UInt8} {k : Nat} (hk : k < l.length), (∀ j (hj : j < l.length), j < k → l[j] ≠ b) → l[k] = b → l.takeWhile (· != b) = l.take k
  | c :: l, 0, _, _, h => by
    have hc : c = b := h
    subst hc
    simp
  | c :: l, k + 1, hk, h, h1 => by
    have hc : c ≠ b := h 0 (by simp) (by omega)
    have hcn : (c != b) = true := by simpa using hc
    rw [List.takeWhile_cons, if_pos hcn, List.take_succ_cons, split_list (k := k) (by simpa using hk) (fun j hj hjk => by
      have := h (j + 1) (by simpa using hj) (by omega)
      simpa using this) (by simpa using h1)]
theorem upto_at {b : UInt8} {s : ByteArray} {k : Nat} (hk : k < s.size) (h : ∀ j (hj : j < s.size), j < k → s[j] ≠ b) (h1 : s[k] = b) : s.extract 0 k = upto b s := by
  unfold upto
  rw [split_list (k := k) (by simpa using hk) (fun j hj hjk => h j (by simpa using hj) hjk) h1]
  apply ByteArray.ext
  apply Array.toList_inj.1
  simp
theorem take_self {p : UInt8 → Bool} : ∀ {l : List UInt8}, (∀ x ∈ l, p x = true) → l.takeWhile p = l
  | [], _ => rfl
  | c :: l, h => by rw [List.takeWhile_cons, if_pos (h c List.mem_cons_self), take_self fun x hx => h x (List.mem_cons_of_mem _ hx)]
theorem drop_self {p : UInt8 → Bool} : ∀ {l : List UInt8}, (∀ x ∈ l, p x = true) → l.dropWhile p = []
  | [], _ => rfl
  | c :: l, h => by rw [List.dropWhile_cons, if_pos (h c List.mem_cons_self), drop_self fun x hx => h x (List.mem_cons_of_mem _ hx)]
theorem drop_head {b : UInt8} : ∀ {l : List UInt8}, b ∈ l → l.dropWhile (· != b) = b :: (l.dropWhile (· != b)).drop 1
  | c :: l, h => by
    by_cases hc : c = b
    · subst hc; simp
    · have hcn : (c != b) = true := by simp [bne, hc]
      rw [List.dropWhile_cons, if_pos hcn]
      exact drop_head ((List.mem_cons.1 h).resolve_left fun e => hc e.symm)
theorem upto_none {b : UInt8} {s : ByteArray} (h : hasC b s = false) : upto b s = s := by
  unfold upto
  have : s.data.toList.takeWhile (· != b) = s.data.toList := by
    refine take_self fun x hx => ?_
    unfold hasC at h
    rw [← Bool.not_eq_true, List.contains_iff_mem] at h
    have hne : x ≠ b := fun e => h (e ▸ hx)
    simpa using hne
  rw [this]
theorem past_none {b : UInt8} {s : ByteArray} (h : hasC b s = false) : past b s = ⟨#[]⟩ := by
  unfold past
  have : s.data.toList.dropWhile (· != b) = [] := by
    refine drop_self fun x hx => ?_
    unfold hasC at h
    rw [← Bool.not_eq_true, List.contains_iff_mem] at h
    have hne : x ≠ b := fun e => h (e ▸ hx)
    simpa using hne
  rw [this]; rfl
theorem take_stop {b : UInt8} : ∀ {l r : List UInt8}, b ∉ l → (l ++ b :: r).takeWhile (· != b) = l ∧ (l ++ b :: r).dropWhile (· != b) = b :: r
  | [], r, _ => by simp
  | c :: l, r, h => by
    have hne : c ≠ b := fun e => h (e ▸ List.mem_cons_self)
    have hc : (c != b) = true := by simpa using hne
    have ih := take_stop (b := b) (l := l) (r := r) fun h1 => h (List.mem_cons_of_mem _ h1)
    rw [List.cons_append, List.takeWhile_cons, List.dropWhile_cons, if_pos hc, if_pos hc, ih.1, ih.2]
    exact ⟨rfl, rfl⟩
theorem cut_join {b : UInt8} {p q : ByteArray} (h : hasC b p = false) : upto b (p ++ ⟨#[b]⟩ ++ q) = p ∧ past b (p ++ ⟨#[b]⟩ ++ q) = q ∧ hasC b (p ++ ⟨#[b]⟩ ++ q) = true := by
  have hn : b ∉ p.data.toList := by
    unfold hasC at h
    rw [← Bool.not_eq_true, List.contains_iff_mem] at h
    exact h
  have he : (p ++ ⟨#[b]⟩ ++ q).data.toList = p.data.toList ++ b :: q.data.toList := by simp
  have ht := take_stop (r := q.data.toList) hn
  unfold upto past hasC
  rw [he, ht.1, ht.2]
  refine ⟨?_, ?_, ?_⟩
  · apply ByteArray.ext; simp
  · apply ByteArray.ext; simp
  · simp
theorem cut_split {b : UInt8} {s : ByteArray} (h : hasC b s = true) : s = upto b s ++ ⟨#[b]⟩ ++ past b s := by
  have hm : b ∈ s.data.toList := by
    unfold hasC at h
    exact List.contains_iff_mem.1 h
  apply ByteArray.ext
  apply Array.toList_inj.1
  have h1 := drop_head hm
  have h2 := List.takeWhile_append_dropWhile (p := (· != b)) (l := s.data.toList)
  rw [h1] at h2
  simpa [upto, past] using h2.symm
/-- how l1Split goes along -/
def SplitI (b : UInt8) (s : ByteArray) (k q : Nat) (L : List ByteArray) : Prop :=
  (L = [] ∧ q = 0 ∧ ∀ j (hj : j < s.size), j < k → s[j] ≠ b) ∨ (L[0]? = some (upto b s) ∧ hasC b s = true ∧ L ≠ [])
theorem SplitI.skip {b : UInt8} {s : ByteArray} {k q : Nat} {L : List ByteArray} (h : SplitI b s k q L) (hk : k < s.size) (h1 : s[k] ≠ b) : SplitI b s (k + 1) q L := by
  rcases h with ⟨h2, h3, h4⟩ | h
  · refine .inl ⟨h2, h3, fun j hj hjk => ?_⟩
    by_cases e : j = k
    · subst e; exact h1
    · exact h4 j hj (by omega)
  · exact .inr h
theorem SplitI.hit {b : UInt8} {s : ByteArray} {k q : Nat} {L : List ByteArray} (h : SplitI b s k q L) (hk : k < s.size) (h1 : s[k] = b) : SplitI b s (k + 1) (k + 1) (L ++ [s.extract q k]) := by
  rcases h with ⟨rfl, rfl, h4⟩ | ⟨h2, h3, h4⟩
  · exact .inr ⟨by simp [upto_at hk h4 h1], contains_at s b k hk h1, by simp⟩
  · refine .inr ⟨?_, h3, by simp⟩
    cases L with
    | nil => exact absurd rfl h4
    | cons x L => simpa using h2
theorem SplitI.fin {b : UInt8} {s : ByteArray} {q : Nat} {L : List ByteArray} (h : SplitI b s s.size q L) : (L ++ [s.extract q s.size])[0]? = some (upto b s) ∧ decide (2 ≤ (L ++ [s.extract q s.size]).length) = hasC b s := by
  rcases h with ⟨rfl, rfl, h4⟩ | ⟨h2, h3, h4⟩
  · have hn := contains_not s b fun k hk => h4 k hk hk
    refine ⟨?_, by rw [hn]; rfl⟩
    rw [upto_none hn]
    simp
  · cases L with
    | nil => exact absurd rfl h4
    | cons x L => exact ⟨by simpa using h2, by rw [h3]; simp⟩
def strs (l : List ByteArray) : List Value := l.map Value.string
theorem info_string : (Tryd.prog.info? 9).map (fun i => (i.zero, i.size, i.bytes)) = some (some (.string ⟨#[]⟩), 1, 16) := by kernel_rfl
/-- What l1Split gives: the first piece, and whether there are two. -/
def GivesSplit (w : World) (b : UInt8) (s : ByteArray) (e : Ending) (w' : World) : Prop :=
  ∃ (A : Option Addr) (n c : Nat) (L : List ByteArray), e = .returned (.slice A n c) ∧ n = L.length ∧ w'.ownsRow w.heap.size 9 1 (.slice A n c) n (strs L) ∧ L[0]? = some (upto b s) ∧ decide (2 ≤ n) = hasC b s ∧ Below w.heap.size w w'

set_option maxRecDepth 100000 in
set_option maxHeartbeats 1000000 in
theorem l1Split_any (s : ByteArray) (b : UInt8) (z : Int) (w : World) (hz : z = (b.toNat : Int)) (hs : s.size ≤ 3000000) :
    Calls Tryd.prog 50 #[.string s, .int .u8 z] w (GivesSplit w b s) := by
  subst hz
  go_enter Tryd.func50, Tryd.ntmps50
  go_wp2_with fail
  have hown0 := own_empty w 9 1
  have hb0 : Below w.heap.size w (w.alloc (.cells #[] 9)) := (Below.refl _ _).alloc (Nat.le_refl _) _
  go_loopw [5, 6, 7] (fun v q' i wr => ∃ (k q : Nat) (L : List ByteArray) (A' : Option Addr) (c' : Nat), k ≤ s.size ∧ q ≤ k ∧ i = .int .i64 k ∧ q' = .int .i64 q ∧ v = .slice A' L.length c' ∧ L.length ≤ k ∧ wr.ownsRow w.heap.size 9 1 (.slice A' L.length c') L.length (strs L) ∧ Hid (SplitI b s k q L) ∧ Below w.heap.size w wr) (fun _ _ i _ => s.size - (intOf i).toNat)
  case atStart => exact ⟨0, 0, [], _, _, Nat.zero_le _, Nat.le_refl _, rfl, rfl, rfl, Nat.le_refl _, hown0, Lib.hid (.inl ⟨rfl, rfl, fun j _ h => absurd h (by omega)⟩), hb0⟩
  case round =>
    obtain ⟨k, q, L, A', c', hk, hq, rfl, rfl, rfl, hlo, hown, HI, hb⟩ := hrel
    by_cases hlt : k < s.size
    · by_cases hc : s[k] = b
      · have HN := Lib.hid (HI.out.hit hlt hc)
        have hbq : ((s[k].toNat : Int) == (b.toNat : Int)) = true := by rw [hc]; simp
        clear HI hc
        go_wp2_with (at_builtin; go_loud (refine wpList_pushNew rfl _ _ _ rfl Tryd.underlying50 info_string rfl (by decide) rfl hown rfl (by simp) (by rfl) (by rfl) (by omega) (by decide) hb.size ?_); intro A2 c2 w2 hown2 ho2 hbb2 hat2)
        go_roundw
        case rel => exact ⟨k + 1, k + 1, L ++ [s.extract q k], A2, c2, by omega, by omega, by go_num, by go_num, by simp, by simp; omega, by simpa [strs] using hown2, HN, hb.trans hbb2⟩
        case measure => simp [intOf]; omega
      · have HN := Lib.hid (HI.out.skip hlt hc)
        have hbq : ((s[k].toNat : Int) == (b.toNat : Int)) = false := by
          rw [beq_eq_false_iff_ne]
          intro h
          exact hc (UInt8.toNat_inj.1 (by omega))
        clear HI hc
        go_wp2_with fail
        go_roundw
        case rel => exact ⟨k + 1, q, L, _, _, by omega, by omega, by go_num, rfl, rfl, by omega, hown, HN, hb⟩
        case measure => simp [intOf]; omega
    · obtain rfl : k = s.size := by omega
      have HE := Lib.hid HI.out.fin
      clear HI
      go_wp2_with (at_builtin; go_loud (refine wpList_pushNew rfl _ _ _ rfl Tryd.underlying50 info_string rfl (by decide) rfl hown rfl (by simp) (by rfl) (by rfl) (by omega) (by decide) hb.size ?_); intro A2 c2 w2 hown2 ho2 hbb2 hat2)
      go_ret
      exact ⟨A2, L.length + 1, c2, L ++ [s.extract q s.size], rfl, by simp, by simpa [strs] using hown2, HE.out.1, by rw [← HE.out.2]; simp, hb.trans hbb2⟩

end Go.Proofs.YtlhebjlibhpanaaDoor
