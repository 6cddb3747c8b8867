/- Joined texts of this proof: TxtS, TxtL. -/
import Derived.Lib.SplitLaws
import Derived.Test.YtflpcdffmpfdpaaGreatDoorP15
namespace Go.Proofs.YtflpcdffmpfdpaaGreatDoor
open Go.RowKit

def consHd (b : UInt8) : List (List UInt8) → List (List UInt8)
  | [] => [[b]]
  | x :: xs => (b :: x) :: xs
/-- the pieces of a text between bytes -/
def splitLs (c : UInt8) : List UInt8 → List (List UInt8)
  | [] => [[]]
  | b :: r => if b = c then [] :: splitLs c r else consHd b (splitLs c r)
theorem splitLs_none {c : UInt8} : ∀ {p : List UInt8}, (∀ x ∈ p, x ≠ c) → splitLs c p = [p]
  | [], _ => rfl
  | b :: r, h => by
    rw [splitLs, if_neg (h b List.mem_cons_self), splitLs_none fun x hx => h x (List.mem_cons_of_mem _ hx)]
    rfl
theorem splitLs_hit {c : UInt8} (r : List UInt8) : ∀ {p : List UInt8}, (∀ x ∈ p, x ≠ c) → splitLs c (p ++ c :: r) = p :: splitLs c r
  | [], _ => by rw [List.nil_append, splitLs, if_pos rfl]
  | b :: p, h => by
    rw [List.cons_append, splitLs, if_neg (h b List.mem_cons_self), splitLs_hit r fun x hx => h x (List.mem_cons_of_mem _ hx)]
    rfl
theorem splitK_eq (c : UInt8) : ∀ l : List UInt8, Lib.splitK [c] 0 (Lib.count l [c]) l = splitLs c l
  | [] => by rw [Lib.count_one]; rfl
  | b :: r => by
    have ih := splitK_eq c r
    by_cases h : b = c
    · subst h
      have hix : Lib.index (b :: r) [b] = ((0 : Nat) : Int) := by rw [Lib.index]; simp [List.isPrefixOf]
      rw [Lib.count_cons_eq, Nat.add_comm, splitLs, if_pos rfl, ← ih, Lib.splitK, hix]
      simp
    · rw [Lib.count_cons_ne b c r h, splitLs, if_neg h, ← ih]
      have hp : ([c] : List UInt8).isPrefixOf (b :: r) = false := by simp [List.isPrefixOf, Ne.symm h]
      have hix : Lib.index (b :: r) [c] = if Lib.index r [c] == -1 then -1 else Lib.index r [c] + 1 := by rw [Lib.index, hp]; simp
      by_cases hm : Lib.index r [c] = -1
      · rw [Lib.count_miss hm]
        rfl
      · have hge := Lib.index_ge r [c]
        obtain ⟨j, hj⟩ : ∃ j : Nat, Lib.index r [c] = j := ⟨(Lib.index r [c]).toNat, by omega⟩
        have hj1 : ¬ ((j : Int) == -1) = true := fun e => by have := beq_iff_eq.1 e; omega
        have hj2 : ¬ ((j : Int) + 1 == -1) = true := fun e => by have := beq_iff_eq.1 e; omega
        have e1 : ((j : Int) + 1).toNat = j + 1 := by omega
        rw [Lib.count_hit (by simp) hj, Nat.add_comm, Lib.splitK, Lib.splitK, hix, hj, if_neg hj1, if_neg hj2, if_neg hj1, e1, Int.toNat_natCast]
        simp [consHd]
def splitT (c : UInt8) (s : ByteArray) : List ByteArray := (splitLs c s.data.toList).map fun l => ⟨l.toArray⟩
theorem splitT_all (c : UInt8) (s : ByteArray) : Lib.splitB ⟨#[c]⟩ 0 (Lib.countB s ⟨#[c]⟩) s = splitT c s := by
  have h := Lib.splitB_data ⟨#[c]⟩ 0 (Lib.countB s ⟨#[c]⟩) s
  unfold splitT
  rw [← splitK_eq c s.data.toList, show Lib.splitK [c] 0 (Lib.count s.data.toList [c]) s.data.toList = _ from h.symm, List.map_map]
  refine (List.map_id'' (fun x => ?_) _).symm
  rfl
theorem splitLs_pos (c : UInt8) (l : List UInt8) : 1 ≤ (splitLs c l).length := by
  cases l with
  | nil => exact Nat.le_refl _
  | cons b r =>
    rw [splitLs]
    split
    · simp
    · cases splitLs c r <;> simp [consHd]
theorem splitT_pos (c : UInt8) (s : ByteArray) : 1 ≤ (splitT c s).length := by unfold splitT; rw [List.length_map]; exact splitLs_pos _ _
theorem splitLs_len (c : UInt8) : ∀ l : List UInt8, (splitLs c l).length ≤ l.length + 1
  | [] => Nat.le_refl _
  | b :: r => by
    have ih := splitLs_len c r
    rw [splitLs]
    split
    · simpa using ih
    · have h := splitLs_pos c r
      cases hs : splitLs c r with
      | nil => rw [hs] at h; simp at h
      | cons x xs => rw [hs] at ih; simp [consHd] at ih ⊢; omega
theorem splitT_len (c : UInt8) (s : ByteArray) : (splitT c s).length ≤ s.size + 1 := by
  have := splitLs_len c s.data.toList
  unfold splitT
  rw [List.length_map]
  simpa using this
/-- each piece is no longer than the whole -/
theorem splitLs_piece (c : UInt8) : ∀ (l : List UInt8) (x : List UInt8), x ∈ splitLs c l → x.length ≤ l.length
  | [], x, h => by rw [splitLs, List.mem_singleton] at h; subst h; exact Nat.le_refl _
  | b :: r, x, h => by
    rw [splitLs] at h
    split at h
    · rcases List.mem_cons.1 h with rfl | h
      · simp
      · have := splitLs_piece c r x h; simp; omega
    · cases hs : splitLs c r with
      | nil => rw [hs] at h; simp [consHd] at h; subst h; simp
      | cons y ys =>
        rw [hs] at h
        simp only [consHd, List.mem_cons] at h
        rcases h with rfl | h
        · have := splitLs_piece c r y (by rw [hs]; exact List.mem_cons_self); simp; omega
        · have := splitLs_piece c r x (by rw [hs]; exact List.mem_cons_of_mem _ h); simp; omega
theorem splitT_piece (c : UInt8) (s : ByteArray) {x : ByteArray} (h : x ∈ splitT c s) : x.size ≤ s.size := by
  unfold splitT at h
  obtain ⟨l, hl, rfl⟩ := List.mem_map.1 h
  have h2 := splitLs_piece c _ l hl
  have h3 : s.data.toList.length = s.size := by simp
  rw [h3] at h2
  show l.toArray.size ≤ s.size
  rw [List.size_toArray]
  exact h2
/-- Texts in memory of the call's own. -/
def GivesStrs (w : World) (L : List ByteArray) (e : Ending) (w' : World) : Prop :=
  ∃ (A : Option Addr) (c : Nat), e = .returned (.slice A L.length c) ∧ w'.ownsRow w.heap.size 9 1 (.slice A L.length c) L.length (strs L) ∧ Below w.heap.size w w'
theorem Split_any (s : ByteArray) (b : UInt8) (w : World) (hs : s.size ≤ 3000000) (hg : Gl w) :
    Calls Tryz.prog 56 #[.string s, .string ⟨#[b]⟩] w (GivesStrs w (splitT b s)) := by
  obtain ⟨m, hm⟩ := hg.ml
  refine (sh_strings_Split s ⟨#[b]⟩ m w (by omega) hm (Nat.le_refl 1)).mono ?_
  rintro e w' ⟨rfl, rfl⟩
  have hl : Lib.countB s ⟨#[b]⟩ + 1 = (splitT b s).length := by rw [← splitT_all, Lib.splitB_all ⟨#[b]⟩ (Nat.le_refl 1) 0 _ s rfl]
  rw [hl, splitT_all]
  have hlen := splitT_len b s
  exact ⟨_, _, rfl, own_shut (Nat.le_refl _) (Blk.at_ rfl) (by simp) (Nat.le_refl _) (by simp only [maxLen]; omega) (by rw [List.take_of_length_le (by simp)]; rfl), (Below.refl _ _).alloc (Nat.le_refl _) _⟩
/-- how l1Split goes along -/
def SplitJ (c : UInt8) (s : ByteArray) (k q : Nat) (L : List ByteArray) : Prop :=
  splitT c s = L ++ splitT c (s.extract q s.size) ∧ ∀ j (hj : j < s.size), q ≤ j → j < k → s[j] ≠ c
theorem SplitJ.zero (c : UInt8) (s : ByteArray) : SplitJ c s 0 0 [] := ⟨by rw [ByteArray.extract_zero_size, List.nil_append], fun j _ _ h => absurd h (by omega)⟩
theorem SplitJ.skip {c : UInt8} {s : ByteArray} {k q : Nat} {L : List ByteArray} (h : SplitJ c s k q L) (hk : k < s.size) (h1 : s[k] ≠ c) : SplitJ c s (k + 1) q L :=
  ⟨h.1, fun j hj h2 h3 => by
    by_cases e : j = k
    · subst e; exact h1
    · exact h.2 j hj h2 (by omega)⟩
theorem tail_list (s : ByteArray) (q : Nat) : (s.extract q s.size).data.toList = s.data.toList.drop q := by
  have h3 : s.data.toList.length = s.size := by simp
  rw [Lib.extract_to_end]
theorem piece_ne {c : UInt8} {s : ByteArray} {k q : Nat} (hk : k ≤ s.size) (h : ∀ j (hj : j < s.size), q ≤ j → j < k → s[j] ≠ c) : ∀ x ∈ (s.data.toList.drop q).take (k - q), x ≠ c := by
  intro x hx
  obtain ⟨i, hi, rfl⟩ := List.getElem_of_mem hx
  rw [List.length_take, List.length_drop] at hi
  have h3 : s.data.toList.length = s.size := by simp
  rw [List.getElem_take, List.getElem_drop]
  exact h (q + i) (by omega) (by omega) (by omega)
theorem SplitJ.hit {c : UInt8} {s : ByteArray} {k q : Nat} {L : List ByteArray} (h : SplitJ c s k q L) (hq : q ≤ k) (hk : k < s.size) (h1 : s[k] = c) : SplitJ c s (k + 1) (k + 1) (L ++ [s.extract q k]) := by
  refine ⟨?_, fun j _ h2 h3 => absurd h3 (by omega)⟩
  have h3 : s.data.toList.length = s.size := by simp
  have hp := piece_ne (Nat.le_of_lt hk) h.2
  have hd : s.data.toList.drop q = (s.data.toList.drop q).take (k - q) ++ c :: s.data.toList.drop (k + 1) := by
    have h4 : (s.data.toList.drop q).drop (k - q) = c :: s.data.toList.drop (k + 1) := by
      rw [List.drop_drop, show q + (k - q) = k by omega, List.drop_eq_getElem_cons (by omega)]
      exact congrArg (fun x => x :: List.drop (k + 1) s.data.toList) h1
    rw [← h4, List.take_append_drop]
  have he : (s.extract q k) = ⟨((s.data.toList.drop q).take (k - q)).toArray⟩ := by
    refine ByteArray.ext ?_
    rw [ByteArray.data_extract]
    refine Array.ext' ?_
    rw [Array.toList_extract]
  rw [h.1, List.append_assoc]
  congr 1
  unfold splitT
  rw [tail_list, tail_list, hd, splitLs_hit _ hp, he]
  rfl
theorem SplitJ.fin {c : UInt8} {s : ByteArray} {q : Nat} {L : List ByteArray} (h : SplitJ c s s.size q L) : splitT c s = L ++ [s.extract q s.size] := by
  have hp := piece_ne (Nat.le_refl _) h.2
  have h3 : s.data.toList.length = s.size := by simp
  rw [List.take_of_length_le (by rw [List.length_drop]; omega)] at hp
  rw [h.1]
  congr 1
  unfold splitT
  rw [tail_list, splitLs_none hp, ← tail_list]
  rfl

set_option maxRecDepth 100000 in
set_option maxHeartbeats 1000000 in
theorem l1SplitT_any (s : ByteArray) (b : UInt8) (z : Int) (w : World) (hz : z = (b.toNat : Int)) (hs : s.size ≤ 3000000) :
    Calls Tryz.prog 55 #[.string s, .int .u8 z] w (GivesStrs w (splitT b s)) := by
  subst hz
  go_enter Tryz.func55, Tryz.ntmps55
  go_wp2_with fail
  have hown0 := own_empty w 9 1
  have hb0 : Below w.heap.size w (w.alloc (.cells #[] 9)) := (Below.refl _ _).alloc (Nat.le_refl _) _
  go_loopw [5, 6, 7] (fun v q' i wr => ∃ (k q : Nat) (L : List ByteArray) (A' : Option Addr) (c' : Nat), k ≤ s.size ∧ q ≤ k ∧ i = .int .i64 k ∧ q' = .int .i64 q ∧ v = .slice A' L.length c' ∧ L.length ≤ k ∧ wr.ownsRow w.heap.size 9 1 (.slice A' L.length c') L.length (strs L) ∧ Hid (SplitJ b s k q L) ∧ Below w.heap.size w wr) (fun _ _ i _ => s.size - (intOf i).toNat)
  case atStart => exact ⟨0, 0, [], _, _, Nat.zero_le _, Nat.le_refl _, rfl, rfl, rfl, Nat.le_refl _, hown0, Lib.hid (SplitJ.zero b s), hb0⟩
  case round =>
    obtain ⟨k, q, L, A', c', hk, hq, rfl, rfl, rfl, hlo, hown, HI, hb⟩ := hrel
    by_cases hlt : k < s.size
    · by_cases hc : s[k] = b
      · have HN := Lib.hid (HI.out.hit hq hlt hc)
        have hbq : ((s[k].toNat : Int) == (b.toNat : Int)) = true := by rw [hc]; simp
        clear HI hc
        go_wp2_with (at_builtin; go_loud (refine wpList_pushNew rfl _ _ _ rfl Tryz.underlying42 info_string rfl (by decide) rfl hown rfl (by simp) (by rfl) (by rfl) (by omega) (by decide) hb.size ?_); intro A2 c2 w2 hown2 ho2 hbb2 hat2)
        go_roundw
        case rel => exact ⟨k + 1, k + 1, L ++ [s.extract q k], A2, c2, by omega, by omega, by go_num, by go_num, by simp, by simp; omega, by simpa [strs] using hown2, HN, hb.trans hbb2⟩
        case measure => simp [intOf]; omega
      · have HN := Lib.hid (HI.out.skip hlt hc)
        have hbq : ((s[k].toNat : Int) == (b.toNat : Int)) = false := by
          rw [beq_eq_false_iff_ne]
          intro h
          exact hc (UInt8.toNat_inj.1 (by omega))
        clear HI hc
        go_wp2_with fail
        go_roundw
        case rel => exact ⟨k + 1, q, L, _, _, by omega, by omega, by go_num, rfl, rfl, by omega, hown, HN, hb⟩
        case measure => simp [intOf]; omega
    · obtain rfl : k = s.size := by omega
      have HE := Lib.hid HI.out.fin
      clear HI
      go_wp2_with (at_builtin; go_loud (refine wpList_pushNew rfl _ _ _ rfl Tryz.underlying42 info_string rfl (by decide) rfl hown rfl (by simp) (by rfl) (by rfl) (by omega) (by decide) hb.size ?_); intro A2 c2 w2 hown2 ho2 hbb2 hat2)
      go_ret
      rw [HE.out]
      exact ⟨A2, c2, by simp, by simpa [strs] using hown2, hb.trans hbb2⟩

end Go.Proofs.YtflpcdffmpfdpaaGreatDoor

namespace Go.Proofs.YtflpcdffmpfdpaaGreatDoor
open Go.RowKit

theorem join_snoc (sep y x : List UInt8) (r : List (List UInt8)) : Lib.join ((x :: r) ++ [y]) sep = Lib.join (x :: r) sep ++ sep ++ y := by
  rw [List.cons_append, Lib.join_cons, Lib.join_cons]
  simp [Lib.joinTail]
def listJ (xs : List Int) : ByteArray := ⟨(Lib.join (xs.map Lib.itoa) [32]).toArray⟩
/-- numbers with single spaces between them, or none -/
def listM (xs : List Int) : ByteArray := if xs = [] then ⟨#[110, 111, 110, 101]⟩ else listJ xs
theorem listJ_one (x : Int) : listJ [x] = intT x := by
  unfold listJ intT
  rw [List.map_singleton, Lib.join_one]
theorem listJ_snoc {xs : List Int} (h : xs ≠ []) (y : Int) : listJ (xs ++ [y]) = listJ xs ++ ⟨#[32]⟩ ++ intT y := by
  cases xs with
  | nil => exact absurd rfl h
  | cons x r =>
    unfold listJ intT
    rw [List.map_append, List.map_cons, List.map_singleton, join_snoc]
    refine ByteArray.ext ?_
    simp
theorem intT_size {z : Int} (h0 : -1000000000 ≤ z) (h1 : z ≤ 1000000000) : (intT z).size ≤ 11 := by
  rcases intT_cases z with ⟨n, rfl, e⟩ | ⟨n, rfl, h2, e⟩
  · rw [e]
    have := numT_size n 10 (by omega) (by decide)
    omega
  · rw [e]
    have := numT_size n 10 (by omega) (by decide)
    have h3 : (⟨#[45]⟩ ++ numT n : ByteArray).size = 1 + (numT n).size := by rw [ByteArray.size_append]; rfl
    omega
theorem listJ_size : ∀ (k : Nat) (xs : List Int), xs.length = k → (∀ x ∈ xs, -1000000000 ≤ x ∧ x ≤ 1000000000) → (listJ xs).size ≤ 12 * k
  | 0, xs, hk, _ => by
    obtain rfl := List.eq_nil_of_length_eq_zero hk
    exact Nat.le_refl _
  | k + 1, xs, hk, h => by
    obtain ⟨ys, y, rfl⟩ : ∃ ys y, xs = ys ++ [y] := ⟨xs.dropLast, xs.getLast (by intro e; rw [e] at hk; cases hk), (List.dropLast_concat_getLast _).symm⟩
    rw [List.length_append, List.length_singleton] at hk
    have hy := h y (by simp)
    have h2 := intT_size hy.1 hy.2
    by_cases hn : ys = []
    · subst hn
      rw [List.nil_append, listJ_one]
      omega
    · have ih := listJ_size k ys (by omega) (fun x hx => h x (by simp [hx]))
      rw [listJ_snoc hn, ByteArray.size_append, ByteArray.size_append]
      have h3 : (⟨#[32]⟩ : ByteArray).size = 1 := rfl
      omega
theorem join_strs (xs : List Int) : Lib.join ((xs.map intT).map (·.data.toList)) [32] = Lib.join (xs.map Lib.itoa) [32] := by
  rw [List.map_map]
  congr 1

set_option maxRecDepth 100000 in
set_option maxHeartbeats 2000000 in
theorem listText_any (A : Option Addr) (n c lo : Nat) (xs : List Int) (w : World) (hx : Sees w lo 1 A n (ints xs)) (hn : n ≤ 1000) (hb : ∀ x ∈ xs, -1000000000 ≤ x ∧ x ≤ 1000000000) (hg : Gl w) :
    Calls Tryz.prog 135 #[.slice A n c] w fun e w' => e = .returned (.string (listM xs)) ∧ Below w.heap.size w w' := by
  have hl := hx.icount
  by_cases h0 : n = 0
  · subst h0
    have HR := Lib.hid (show listM xs = ⟨#[110, 111, 110, 101]⟩ by unfold listM; rw [if_pos (List.eq_nil_of_length_eq_zero hl)])
    clear hl
    go_enter Tryz.func135, Tryz.ntmps135
    go_wp2_with fail
    go_ret
    rw [HR.out]
    exact ⟨rfl, Below.refl _ _⟩
  have f0 : ((n : Int) == 0) = false := beq_eq_false_iff_ne.2 (by omega)
  have HLN := Lib.hid hl
  have hne : xs ≠ [] := fun e => by rw [e] at hl; exact h0 hl.symm
  have HM := Lib.hid (show listM xs = listJ xs by unfold listM; rw [if_neg hne])
  clear hne hl h0
  go_enter Tryz.func135, Tryz.ntmps135
  go_wp2_with fail
  have hown0 := own_empty w 9 1
  have hb0 : Below w.heap.size w (w.alloc (.cells #[] 9)) := (Below.refl _ _).alloc (Nat.le_refl _) _
  go_loopw [3, 12] (fun v i wr => ∃ (k : Nat) (A' : Option Addr) (c' : Nat), k ≤ n ∧ i = .int .i64 (k : Int) ∧ v = .slice A' k c' ∧ wr.ownsRow w.heap.size 9 1 (.slice A' k c') k (strs ((xs.take k).map intT)) ∧ Below w.heap.size w wr) (fun _ i _ => n - (intOf i).toNat)
  case atStart => exact ⟨0, _, _, Nat.zero_le _, rfl, rfl, hown0, hb0⟩
  case round =>
    obtain ⟨k, A', c', hk, rfl, rfl, hown, hbk⟩ := hrel
    by_cases hlt : k < n
    · obtain ⟨b, off, rfl, hkx, x0⟩ := (hx.next hbk).int hlt
      have hbd := hb xs[k] (List.getElem_mem hkx)
      have HN := Lib.hid (show strs ((xs.take (k + 1)).map intT) = strs ((xs.take k).map intT) ++ [.string (intT xs[k])] by
        rw [List.take_succ_eq_append_getElem hkx, List.map_append]
        simp [strs])
      obtain ⟨x, hxk⟩ : ∃ x, xs[k] = x := ⟨_, rfl⟩
      rw [hxk] at x0 hbd HN
      clear hxk
      obtain ⟨hx1, hx2⟩ := hbd
      have hgr := hg.next hbk
      have hlti : (k : Int) < (n : Int) := by omega
      have hblt := World.block_lt_of_cell? wr _ x0
      have zr := hbk.size
      go_wp2_with fail
      refine (ItoaI_any x wr hx1 hx2 hgr).mono ?_
      rintro e w2 ⟨rfl, b2⟩
      have hown2 := own_below hown b2
      have z2 := b2.size
      clear x0
      go_wp2_with (at_builtin; go_loud (refine wpList_pushNew rfl _ _ _ rfl Tryz.underlying42 info_string rfl (by decide) rfl hown2 rfl (by simp) (by rfl) (by rfl) (by omega) (by decide) (by omega) ?_); intro A3 c3 w3 hown3 ho3 hbb3 hat3)
      go_roundw
      case rel => exact ⟨k + 1, A3, c3, by omega, by go_num, rfl, by rw [HN.out]; exact hown3, (hbk.trans (b2.mono zr)).trans hbb3⟩
      case measure => simp [intOf]; omega
    · obtain rfl : k = n := by omega
      have hlti : ¬ (k : Int) < (k : Int) := by omega
      have hlx : ((xs.take k).map intT).length = k := by rw [List.length_map, List.length_take, HLN.out, Nat.min_self]
      have hks : xs.take k = xs := List.take_of_length_le (by rw [HLN.out]; exact Nat.le_refl _)
      rw [hks] at hown hlx
      have hpos : 0 < k := by
        by_cases h : k = 0
        · subst h; cases f0
        · omega
      rcases own_open hown with ⟨-, h2, -, -⟩ | ⟨g, cur, rfl, hg1, hB, hcl, hnc, hcm, htk⟩
      · omega
      have hcells : ∀ (j : Nat) x, (xs.map intT)[j]? = some x → wr.cell? ⟨g, 0 + j, none⟩ = some (.string x) := fun j x hj => by
        have hj2 : j < k := by rw [← hlx]; exact (List.getElem?_eq_some_iff.1 hj).1
        rw [Nat.zero_add, hB.cell]
        have h3 : (cur.take (k * 1))[j]? = some (.string x) := by
          rw [htk]
          unfold strs
          rw [List.getElem?_map, hj]
          rfl
        rw [List.getElem?_take, if_pos (by omega)] at h3
        exact h3
      have hsz := listJ_size k xs HLN.out hb
      have hjl : (Lib.join ((xs.map intT).map (·.data.toList)) (⟨#[32]⟩ : ByteArray).data.toList).length ≤ 140737488355328 := by
        have h4 : (⟨#[32]⟩ : ByteArray).data.toList = [32] := rfl
        rw [h4, join_strs]
        have h5 : (listJ xs).size = (Lib.join (xs.map Lib.itoa) [32]).length := by unfold listJ; exact List.size_toArray
        omega
      have HJ := Lib.hid (show (⟨(Lib.join ((xs.map intT).map (·.data.toList)) (⟨#[32]⟩ : ByteArray).data.toList).toArray⟩ : ByteArray) = listJ xs by
        have h4 : (⟨#[32]⟩ : ByteArray).data.toList = [32] := rfl
        rw [h4, join_strs]
        rfl)
      have HC := Lib.hid (sh_strings_Join g 0 c' (xs.map intT) ⟨#[32]⟩ wr hcells hB.lt (by rw [hlx]; omega) (by rw [hlx]; exact hnc) hjl)
      rw [hlx] at HC
      clear hcells hjl hsz htk hcl hown
      go_wp2_with fail
      refine HC.out.mono ?_
      rw [HJ.out]
      rintro e w2 ⟨rfl, b2⟩
      go_wp2_with fail
      go_ret
      rw [HM.out]
      exact ⟨rfl, hbk.trans (b2.mono hbk.size)⟩

set_option maxRecDepth 100000 in
set_option maxHeartbeats 2000000 in
theorem l28List_any (A : Option Addr) (n c lo : Nat) (xs : List Int) (ok : Bool) (w : World) (hx : Sees w lo 1 A n (ints xs)) (hn : n ≤ 1000) (hb : ∀ x ∈ xs, -1000000000 ≤ x ∧ x ≤ 1000000000) :
    Calls Tryz.prog 85 #[.slice A n c, .bool ok] w fun e w' => e = .returned (.string (if ok then listM xs else ⟨#[63]⟩)) ∧ Quiet w w' := by
  have hl := hx.icount
  cases ok
  · clear hl
    go_enter Tryz.func85, Tryz.ntmps85
    go_wp2_with fail
    go_ret
    exact ⟨rfl, Quiet.refl _⟩
  by_cases h0 : n = 0
  · subst h0
    have HR := Lib.hid (show listM xs = ⟨#[110, 111, 110, 101]⟩ by unfold listM; rw [if_pos (List.eq_nil_of_length_eq_zero hl)])
    clear hl
    go_enter Tryz.func85, Tryz.ntmps85
    go_wp2_with fail
    go_ret
    rw [HR.out]
    exact ⟨rfl, Quiet.refl _⟩
  have f0 : ((n : Int) == 0) = false := beq_eq_false_iff_ne.2 (by omega)
  have HLN := Lib.hid hl
  have hne : xs ≠ [] := fun e => by rw [e] at hl; exact h0 hl.symm
  have HM := Lib.hid (show listM xs = listJ xs by unfold listM; rw [if_neg hne])
  obtain ⟨b, off, rfl, hkx, x0⟩ := hx.int (show 0 < n by omega)
  have hbd := hb xs[0] (List.getElem_mem hkx)
  have HO := Lib.hid (show listJ (xs.take 1) = intT xs[0] by rw [List.take_one, List.head?_eq_getElem?, List.getElem?_eq_getElem hkx]; exact listJ_one _)
  have hpi : (0 : Int) < (n : Int) := by omega
  have hp1 : 1 ≤ n := by omega
  obtain ⟨x, hxk⟩ : ∃ x, xs[0] = x := ⟨_, rfl⟩
  rw [hxk] at x0 hbd HO
  rw [Nat.add_zero] at x0
  obtain ⟨hx1, hx2⟩ := hbd
  have hblt := World.block_lt_of_cell? w _ x0
  clear hne hl h0 hxk
  go_enter Tryz.func85, Tryz.ntmps85
  go_wp2_with fail
  refine (l1NumI_any x w hx1 hx2).mono ?_
  rintro e w1 ⟨rfl, q1⟩
  clear x0
  go_wp2_with fail
  go_loopw [5, 6] (fun s i wr => ∃ (k : Nat) (t : ByteArray), 1 ≤ k ∧ k ≤ n ∧ i = .int .i64 (k : Int) ∧ s = .string t ∧ Hid (t = listJ (xs.take k)) ∧ Quiet w wr) (fun _ i _ => n - (intOf i).toNat)
  case atStart => exact ⟨1, _, Nat.le_refl _, hp1, rfl, rfl, Lib.hid HO.out.symm, q1⟩
  case round =>
    obtain ⟨k, t, hk1, hk, rfl, rfl, HT, q⟩ := hrel
    by_cases hlt : k < n
    · obtain ⟨b2, off2, e2, hkx2, x1⟩ := (hx.quiet q).int hlt
      injection e2 with e2
      injection e2 with e3 e4 _
      subst e3 e4
      have hbd := hb xs[k] (List.getElem_mem hkx2)
      have hsz := listJ_size k (xs.take k) (by rw [List.length_take, HLN.out]; omega) (fun y hy => hb y (List.mem_of_mem_take hy))
      rw [← HT.out] at hsz
      have HN := Lib.hid (show t ++ ⟨#[32]⟩ ++ intT xs[k] = listJ (xs.take (k + 1)) by
        rw [List.take_succ_eq_append_getElem hkx2, listJ_snoc (by
          intro e
          have h5 : (xs.take k).length = 0 := by rw [e]; rfl
          rw [List.length_take, HLN.out] at h5
          omega), HT.out])
      obtain ⟨y, hyk⟩ : ∃ y, xs[k] = y := ⟨_, rfl⟩
      rw [hyk] at x1 hbd HN
      clear hyk
      obtain ⟨hy1, hy2⟩ := hbd
      have hys := intT_size hy1 hy2
      have hlti : (k : Int) < (n : Int) := by omega
      have hs1 : ¬ 9223372036854775807 < t.size + 1 := by omega
      have hs2 : ¬ 9223372036854775807 < t.size + 1 + (intT y).size := by omega
      go_wp2_with fail
      refine (l1NumI_any y _ hy1 hy2).mono ?_
      rintro e w2 ⟨rfl, q2⟩
      clear x1
      go_wp2_with fail
      go_roundw
      case rel => exact ⟨k + 1, t ++ ⟨#[32]⟩ ++ intT y, by omega, by omega, by go_num, rfl, HN, q.trans q2⟩
      case measure => simp [intOf]; omega
    · obtain rfl : k = n := by omega
      have hlti : ¬ (k : Int) < (k : Int) := by omega
      have HE := Lib.hid (show t = listJ xs by rw [HT.out, List.take_of_length_le (by rw [HLN.out]; exact Nat.le_refl _)])
      go_wp2_with fail
      go_ret
      rw [HM.out, HE.out]
      exact ⟨rfl, q⟩

end Go.Proofs.YtflpcdffmpfdpaaGreatDoor
