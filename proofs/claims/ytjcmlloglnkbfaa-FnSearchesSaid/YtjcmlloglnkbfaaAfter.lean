/- AfterSearch, as the program and as the reference have it. -/
import Derived.Test.YtjcmlloglnkbfaaSec
import Derived.Test.YtjcmlloglnkbfaaLib1
import Derived.Shelf.Abstract
namespace Go.Proofs.Ytjcmlloglnkbfaa
open Go.RowKit

/-- A list of sectors in memory of the call's own, and a word on whether there is one. -/
def GivesSec (w : World) (R : Option (List Sector)) (e : Ending) (w' : World) : Prop :=
  ∃ A c, e = .returned (.tuple #[.slice A (R.getD []).length c, .bool R.isSome]) ∧ w'.ownsRow w.heap.size 77 2 (.slice A (R.getD []).length c) (R.getD []).length ((R.getD []).flatMap Sector.enc) ∧ Below w.heap.size w w'
theorem givesSec_nil {w w' : World} (h : Below w.heap.size w w') : GivesSec w none (.returned (.tuple #[.slice none 0 0, .bool false])) w' :=
  ⟨none, 0, rfl, World.ownsRow_nil _ _ _ _, h⟩
theorem own_empty' {w : World} (wr : World) (t s : Nat) (h : Below w.heap.size w wr) : (wr.alloc (.cells #[] t)).ownsRow w.heap.size t s (.slice (some ⟨wr.heap.size, 0, none⟩) 0 0) 0 [] :=
  own_base (own_empty wr t s) h.size
theorem givesSec_empty {w : World} (wr : World) (h : Below w.heap.size w wr) : GivesSec w none (.returned (.tuple #[.slice (some ⟨wr.heap.size, 0, none⟩) 0 0, .bool false])) (wr.alloc (.cells #[] 77)) :=
  ⟨_, 0, rfl, own_empty' wr _ _ h, h.alloc h.size _⟩

def afterStep (cell percent : Int) (s : Sector) : Sector := if s.cell = cell then ⟨s.cell, (s.chance * (100 - percent) + 99) / 100⟩ else s
def afterL (cell percent : Int) (l : List Sector) : List Sector := (l.map (afterStep cell percent)).filter fun s => decide (0 < s.chance)
def hasCell (cell : Int) (l : List Sector) : Bool := l.any fun s => decide (s.cell = cell)
def afterSearch (cell percent : Int) (xs : List Sector) : Option (List Sector) :=
  if sectorsB xs && inB percent 0 100 && hasCell cell xs && !(afterL cell percent xs).isEmpty then some (afterL cell percent xs) else none
theorem afterL_snoc (cell percent : Int) (l : List Sector) (s : Sector) : afterL cell percent (l ++ [s]) = if 0 < (afterStep cell percent s).chance then afterL cell percent l ++ [afterStep cell percent s] else afterL cell percent l := by
  unfold afterL
  rw [List.map_append, List.filter_append]
  by_cases h : 0 < (afterStep cell percent s).chance <;> simp [h]
theorem afterL_len (cell percent : Int) (l : List Sector) : (afterL cell percent l).length ≤ l.length := by
  unfold afterL
  exact Nat.le_trans (List.length_filter_le _ _) (by simp)
theorem afterSearch_len (cell percent : Int) (xs : List Sector) : ((afterSearch cell percent xs).getD []).length ≤ xs.length := by
  unfold afterSearch
  split
  · exact afterL_len _ _ _
  · simp
theorem prod_100 {a b : Int} (ha : 1 ≤ a ∧ a ≤ 100) (hb : 0 ≤ b ∧ b ≤ 100) : 0 ≤ a * (100 - b) ∧ a * (100 - b) ≤ 10000 := by
  refine ⟨Int.mul_nonneg (by omega) (by omega), ?_⟩
  have h1 : a * (100 - b) ≤ 100 * (100 - b) := Int.mul_le_mul_of_nonneg_right ha.2 (by omega)
  omega
theorem hasCell_snoc (cell : Int) (l : List Sector) (s : Sector) : hasCell cell (l ++ [s]) = (hasCell cell l || decide (s.cell = cell)) := by simp [hasCell]

set_option maxRecDepth 100000 in
theorem IndexFunc_Sector (g : Nat) (lb : Array Value) (p : Sector → Bool) (A : Option Addr) (n c : Nat) (xs : List Sector) (w : World) (hx : Sees w 0 2 A n (xs.flatMap Sector.enc)) (hn : n ≤ 140737488355328) (hp : Answers g lb (fun x : Sector => .agg x.enc.toArray) p xs w) :
    Calls Try.prog 104 #[.slice A n c, .func (.func g) #[] lb] w fun e w' => ∃ r, e = .returned (.int .i64 r) ∧ FirstAt p xs r ∧ Below w.heap.size w w' := by
  have hl := hx.count (by decide) (fun _ => rfl)
  have eg := hp.enters
  go_enter Try.func104, Try.ntmps104
  go_wp2_with fail
  go_loopw [8] (fun v wr => ∃ k : Nat, k ≤ n ∧ v = .int .i64 k ∧ Hid ((xs.take k).any p = false) ∧ Below w.heap.size w wr) (fun v _ => n - (intOf v).toNat)
  case atStart => exact ⟨0, Nat.zero_le _, rfl, by simp [Hid], Below.refl _ _⟩
  case round =>
    obtain ⟨k, hk, rfl, ht, hb⟩ := hrel
    by_cases hlt : k < n
    · obtain ⟨b, off, rfl, hkx, c0, c1⟩ := (hx.next hb).elem2 (fun _ => rfl) hlt
      go_wp2_with fail
      refine (hp.at' k hkx _ hb).mono ?_
      cases hpk : p xs[k]
      · rintro e w1 ⟨rfl, b1⟩
        go_wp2_with fail
        go_roundw
        case rel => exact ⟨k + 1, by omega, by go_num, any_take_succ hkx ht.out hpk, bel_then hb b1⟩
        case measure => simp [intOf]; omega
      · rintro e w1 ⟨rfl, b1⟩
        go_wp2_with fail
        go_ret
        exact ⟨_, rfl, .inr ⟨k, rfl, hkx, hpk, ht.out⟩, bel_then hb b1⟩
    · go_wp2_with fail
      go_ret
      have h := ht.out
      rw [List.take_of_length_le (by omega)] at h
      exact ⟨_, rfl, .inl ⟨rfl, h⟩, hb⟩

theorem ContainsFunc_Sector (g : Nat) (lb : Array Value) (p : Sector → Bool) (A : Option Addr) (n c : Nat) (xs : List Sector) (w : World) (hx : Sees w 0 2 A n (xs.flatMap Sector.enc)) (hn : n ≤ 140737488355328) (hp : Answers g lb (fun x : Sector => .agg x.enc.toArray) p xs w) :
    Calls Try.prog 68 #[.slice A n c, .func (.func g) #[] lb] w fun e w' => e = .returned (.bool (xs.any p)) ∧ Below w.heap.size w w' := by
  go_enter Try.func68, Try.ntmps68
  go_wp2_with fail
  refine (IndexFunc_Sector g lb p A n c xs w hx hn hp).mono ?_
  rintro e w1 ⟨r, rfl, hr, b1⟩
  have hany := Lib.hid hr.any
  go_wp2_with fail
  all_goals go_ret
  all_goals exact ⟨ret_bool hany.out, b1⟩


theorem AfterSearch1_any (a b cell : Int) (B : Nat) (w : World) (hc : w.cell? ⟨B, 0, none⟩ = some (.int .i64 cell)) (hB : B < w.heap.size) : Calls Try.prog 69 #[.agg #[.int .i64 a, .int .i64 b], .pointer (some ⟨B, 0, none⟩)] w fun e w' => e = .returned (.bool (decide (a = cell))) ∧ Below w.heap.size w w' := by
  go_enter Try.func69, Try.ntmps69
  go_wp2
  go_ret
  exact ⟨ret_bool (by rw [Bool.eq_iff_iff]; simp), (Below.refl _ _).alloc (Nat.le_refl _) _⟩

theorem AfterSearch1_answers (xs : List Sector) (cell : Int) (B : Nat) (w : World) (hc : w.cell? ⟨B, 0, none⟩ = some (.int .i64 cell)) (hB : B < w.heap.size) : Answers 69 #[.pointer (some ⟨B, 0, none⟩)] (fun x : Sector => .agg x.enc.toArray) (fun s => decide (s.cell = cell)) xs w :=
  ⟨enters_of Try.func69 (by kernel_rfl) rfl, fun i hi W hb => AfterSearch1_any xs[i].cell xs[i].chance cell B W ((hb.cell (p := ⟨B, 0, none⟩) hB).trans hc) (Nat.lt_of_lt_of_le hB hb.size)⟩

theorem afterL_pos {cell percent : Int} {xs out : List Sector} {k : Nat} {s : Sector} (hk : k < xs.length) (h : afterL cell percent (xs.take k) = out) (hs : afterStep cell percent xs[k] = s) (hp : 0 < s.chance) : afterL cell percent (xs.take (k + 1)) = out ++ [s] := by
  rw [List.take_succ_eq_append_getElem hk, afterL_snoc, hs, if_pos hp, h]
theorem afterL_neg {cell percent : Int} {xs out : List Sector} {k : Nat} {s : Sector} (hk : k < xs.length) (h : afterL cell percent (xs.take k) = out) (hs : afterStep cell percent xs[k] = s) (hp : ¬ 0 < s.chance) : afterL cell percent (xs.take (k + 1)) = out := by
  rw [List.take_succ_eq_append_getElem hk, afterL_snoc, hs, if_neg hp, h]
theorem hasCell_next {cell : Int} {xs : List Sector} {k : Nat} (hk : k < xs.length) : hasCell cell (xs.take (k + 1)) = (hasCell cell (xs.take k) || decide (xs[k].cell = cell)) := by
  rw [List.take_succ_eq_append_getElem hk, hasCell_snoc]

set_option maxRecDepth 100000 in
set_option maxHeartbeats 1000000 in
theorem AfterSearch_any (A : Option Addr) (n c : Nat) (xs : List Sector) (cell percent : Int) (w : World) (hx : Sees w 0 2 A n (xs.flatMap Sector.enc)) (hn : n ≤ 1048576) :
    Calls Try.prog 22 #[.slice A n c, .int .i64 cell, .int .i64 percent] w (GivesSec w (afterSearch cell percent xs)) := by
  have hl := hx.count (by decide) (fun _ => rfl)
  have hmf : ∀ (fn : Fn) (first cap : Array Value) (w : World), (Instr.makeFunc fn first cap).run Try.prog w = .ok (.func fn first cap) w := fun _ _ _ _ => rfl
  go_enter Try.func22, Try.ntmps22
  go_wp2_with fail
  have K0 : Below w.heap.size w (w.alloc (.cells #[.int .i64 cell] 3)) := (Below.refl _ _).alloc (Nat.le_refl _) _
  refine (areSectors_any _ _ _ _ _ (hx.next K0) hn).mono ?_
  cases g1 : sectorsB xs
  · rintro e w1 ⟨rfl, b1⟩
    go_wp2_with fail
    go_ret2
    rw [show afterSearch cell percent xs = none by simp [afterSearch, g1]]
    exact givesSec_nil (bel_then K0 b1)
  · rintro e w1 ⟨rfl, b1⟩
    have K1 := bel_then K0 b1
    obtain ⟨hn36, hn1, hat⟩ := sectorsB_at g1
    cases g2 : inB percent 0 100
    · go_wp2_with (go_at_call 67; refine (inside_any _ _ _ _).mono ?_; rintro e w' ⟨rfl, rfl⟩)
      go_ret2
      rw [show afterSearch cell percent xs = none by simp [afterSearch, g2]]
      exact givesSec_nil K1
    · have hpc := inB_true g2
      have B1 : Blk w1 w.heap.size 3 [.int .i64 cell] := (Blk.at_ rfl).next b1
      go_wp2_with (go_at_call 67; refine (inside_any _ _ _ _).mono ?_; rintro e w' ⟨rfl, rfl⟩)
      refine (ContainsFunc_Sector 69 #[.pointer (some ⟨w.heap.size, 0, none⟩)] _ _ _ _ xs _ (hx.next K1) (by omega) (AfterSearch1_answers xs cell _ _ (B1.cell 0) B1.lt)).mono ?_
      have HC : Hid ((xs.any fun s => decide (s.cell = cell)) = hasCell cell xs) := Lib.hid rfl
      rw [HC.out]
      cases g3 : hasCell cell xs
      · rintro e w2 ⟨rfl, b2⟩
        go_wp2_with fail
        go_ret2
        rw [show afterSearch cell percent xs = none by simp [afterSearch, g3]]
        exact givesSec_nil (bel_then K1 b2)
      · rintro e w2 ⟨rfl, b2⟩
        have K2 := bel_then K1 b2
        have B2 := B1.next b2
        have HR : Hid (afterSearch cell percent xs = if (afterL cell percent xs).isEmpty then none else some (afterL cell percent xs)) := Lib.hid (by simp [afterSearch, g1, g2, g3])
        have p2 := B2.cell
        go_wp2_with fail
        have hown0 := own_base (own_empty w2 77 2) B2.lt
        have K3 : Below w.heap.size w (w2.alloc (.cells #[] 77)) := K2.alloc K2.size _
        have B3 := B2.alloc (.cells #[] 77)
        clear p2
        go_loopw [8, 28] (fun v i wr => ∃ (k : Nat) (out : List Sector) (A' : Option Addr) (c' : Nat), k ≤ n ∧ i = .int .i64 k ∧ v = .slice A' out.length c' ∧ wr.ownsRow (w.heap.size + 1) 77 2 (.slice A' out.length c') out.length (out.flatMap Sector.enc) ∧ out.length ≤ k ∧ Hid (afterL cell percent (xs.take k) = out) ∧ Blk wr w.heap.size 3 [.int .i64 cell] ∧ Below w.heap.size w wr) (fun _ i _ => n - (intOf i).toNat)
        case atStart => exact ⟨0, [], _, _, Nat.zero_le _, rfl, rfl, hown0, Nat.le_refl _, Lib.hid rfl, B3, K3⟩
        case round =>
          obtain ⟨k, out, A', c', hk, rfl, rfl, hown, hlo, HO, hB, hb⟩ := hrel
          by_cases hlt : k < n
          · have pB := hB.cell 0
            have zB := hB.lt
            have pB : wr.cell? ⟨w.heap.size, 0, none⟩ = some (.int .i64 cell) := pB
            obtain ⟨b, off, rfl, hkx, x0, x1⟩ := (hx.next hb).elem2 (fun _ => rfl) hlt
            have hblt : b < wr.heap.size := World.block_lt_of_cell? wr _ x0
            have hch := (hat k hkx).2
            have hpr := prod_100 hch hpc
            by_cases he : xs[k].cell = cell
            · by_cases hq : 0 < (xs[k].chance * (100 - percent) + 99) / 100
              · have HN := Lib.hid (afterL_pos (s := ⟨xs[k].cell, (xs[k].chance * (100 - percent) + 99) / 100⟩) hkx HO.out (by simp [afterStep, he]) hq)
                have hev : (xs[k].cell == cell) = true := by simp [he]
                have hpos : (0 : Int) < (xs[k].chance * (100 - percent) + 99) / 100 := hq
                clear he
                go_wp2_with (at_builtin; go_loud (refine wpList_pushNew rfl _ _ _ rfl Try.underlying37 info_impl_Sector rfl (by decide) rfl (own_alloc hown _) rfl (by simp) (by rfl) (by rfl) (by omega) (by decide) (by have := hb.size; simp; omega) ?_); intro A2 c2 w2 hown2 ho2 hbb2 hat2)
                go_roundw
                case rel => exact ⟨k + 1, out ++ [⟨xs[k].cell, (xs[k].chance * (100 - percent) + 99) / 100⟩], A2, c2, by omega, by go_num, by simp, by simpa [Sector.enc] using hown2, by simp; omega, HN, (hB.alloc _).only ho2 (fun e => by have := (hown.lt _ (ownB_iff.2 e)).1; omega), (hb.alloc hb.size _).trans (hbb2.mono (by omega))⟩
                case measure => simp [intOf]; omega
              · have HN := Lib.hid (afterL_neg (s := ⟨xs[k].cell, (xs[k].chance * (100 - percent) + 99) / 100⟩) hkx HO.out (by simp [afterStep, he]) hq)
                have hev : (xs[k].cell == cell) = true := by simp [he]
                clear he
                go_wp2_with fail
                go_roundw
                case rel => exact ⟨k + 1, out, _, _, by omega, by go_num, rfl, own_alloc hown _, by omega, HN, hB.alloc _, hb.alloc hb.size _⟩
                case measure => simp [intOf]; omega
            · have HN := Lib.hid (afterL_pos (s := xs[k]) hkx HO.out (by simp [afterStep, he]) (by show 0 < xs[k].chance; omega))
              have hev : (xs[k].cell == cell) = false := by simp [he]
              have hq : 0 < xs[k].chance := by omega
              have hpos : (0 : Int) < xs[k].chance := hq
              clear he
              go_wp2_with (at_builtin; go_loud (refine wpList_pushNew rfl _ _ _ rfl Try.underlying37 info_impl_Sector rfl (by decide) rfl (own_alloc hown _) rfl (by simp) (by rfl) (by rfl) (by omega) (by decide) (by have := hb.size; simp; omega) ?_); intro A2 c2 w2 hown2 ho2 hbb2 hat2)
              go_roundw
              case rel => exact ⟨k + 1, out ++ [xs[k]], A2, c2, by omega, by go_num, by simp, by simpa [Sector.enc] using hown2, by simp; omega, HN, (hB.alloc _).only ho2 (fun e => by have := (hown.lt _ (ownB_iff.2 e)).1; omega), (hb.alloc hb.size _).trans (hbb2.mono (by omega))⟩
              case measure => simp [intOf]; omega
          · obtain rfl : k = n := by omega
            have HE := Lib.hid (show afterL cell percent xs = out by rw [← HO.out, List.take_of_length_le (by omega)])
            cases out with
            | nil =>
              go_wp2_with fail
              go_ret2
              rw [HR.out, HE.out]
              exact givesSec_nil hb
            | cons s0 out =>
              have hlen : ((((s0 :: out).length : Nat) : Int) == 0) = false := by simp; omega
              go_wp2_with fail
              go_ret2
              rw [HR.out, HE.out]
              exact ⟨_, _, rfl, own_base hown (by omega), hb⟩

set_option maxRecDepth 100000 in
set_option maxHeartbeats 1000000 in
theorem specAfterSearch_any (A : Option Addr) (n c : Nat) (xs : List Sector) (cell percent : Int) (w : World) (hx : Sees w 0 2 A n (xs.flatMap Sector.enc)) (hn : n ≤ 1048576) :
    Calls Try.prog 20 #[.slice A n c, .int .i64 cell, .int .i64 percent] w (GivesSec w (afterSearch cell percent xs)) := by
  have hl := hx.count (by decide) (fun _ => rfl)
  go_enter Try.func20, Try.ntmps20
  go_wp2_with fail
  refine (l23Sectors_any _ _ _ _ _ hx hn).mono ?_
  cases g1 : sectorsB xs
  · rintro e w1 ⟨rfl, b1⟩
    go_wp2_with fail
    go_ret2
    rw [show afterSearch cell percent xs = none by simp [afterSearch, g1]]
    exact givesSec_empty _ b1
  · rintro e w1 ⟨rfl, K1⟩
    obtain ⟨hn36, hn1, hat⟩ := sectorsB_at g1
    cases g2 : inB percent 0 100
    · go_wp2_with (go_at_call 64; refine (l1In_any _ _ _ _).mono ?_; rintro e w' ⟨rfl, rfl⟩)
      go_ret2
      rw [show afterSearch cell percent xs = none by simp [afterSearch, g2]]
      exact givesSec_empty _ K1
    · have hpc := inB_true g2
      have HR : Hid (afterSearch cell percent xs = if hasCell cell xs && !(afterL cell percent xs).isEmpty then some (afterL cell percent xs) else none) := Lib.hid (by simp [afterSearch, g1, g2])
      go_wp2_with (go_at_call 64; refine (l1In_any _ _ _ _).mono ?_; rintro e w' ⟨rfl, rfl⟩)
      have hown0 := own_empty' w1 77 2 K1
      have K3 : Below w.heap.size w (w1.alloc (.cells #[] 77)) := K1.alloc K1.size _
      go_loopw [8, 9, 10] (fun v f i wr => ∃ (k : Nat) (out : List Sector) (A' : Option Addr) (c' : Nat), f = .bool (hasCell cell (xs.take k)) ∧ k ≤ n ∧ i = .int .i64 k ∧ v = .slice A' out.length c' ∧ wr.ownsRow w.heap.size 77 2 (.slice A' out.length c') out.length (out.flatMap Sector.enc) ∧ out.length ≤ k ∧ Hid (afterL cell percent (xs.take k) = out) ∧ Below w.heap.size w wr) (fun _ _ i _ => n - (intOf i).toNat)
      case atStart => exact ⟨0, [], _, _, rfl, Nat.zero_le _, rfl, rfl, hown0, Nat.le_refl _, Lib.hid rfl, K3⟩
      case round =>
        obtain ⟨k, out, A', c', rfl, hk, rfl, rfl, hown, hlo, HO, hb⟩ := hrel
        by_cases hlt : k < n
        · obtain ⟨b, off, rfl, hkx, x0, x1⟩ := (hx.next hb).elem2 (fun _ => rfl) hlt
          have hblt : b < wr.heap.size := World.block_lt_of_cell? wr _ x0
          have hch := (hat k hkx).2
          have hpr := prod_100 hch hpc
          by_cases he : xs[k].cell = cell
          · by_cases hq : 0 < (xs[k].chance * (100 - percent) + 99) / 100
            · have HN := Lib.hid (afterL_pos (s := ⟨xs[k].cell, (xs[k].chance * (100 - percent) + 99) / 100⟩) hkx HO.out (by simp [afterStep, he]) hq)
              have hev : (xs[k].cell == cell) = true := by simp [he]
              have HF := Lib.hid (show hasCell cell (xs.take (k + 1)) = true by rw [hasCell_next hkx]; simp [he])
              have hpos : (0 : Int) < (xs[k].chance * (100 - percent) + 99) / 100 := hq
              clear he
              go_wp2_with (at_builtin; (refine wpList_pushNew rfl _ _ _ rfl Try.underlying37 info_impl_Sector rfl (by decide) rfl (own_alloc hown _) rfl (by simp) (by rfl) (by rfl) (by omega) (by decide) (by have := hb.size; simp; omega) ?_); intro A2 c2 w2 hown2 ho2 hbb2 hat2)
              go_roundw
              case rel => exact ⟨k + 1, out ++ [⟨xs[k].cell, (xs[k].chance * (100 - percent) + 99) / 100⟩], A2, c2, by rw [HF.out], by omega, by go_num, by simp, by simpa [Sector.enc] using hown2, by simp; omega, HN, (hb.alloc hb.size _).trans (hbb2.mono (by omega))⟩
              case measure => simp [intOf]; omega
            · have HN := Lib.hid (afterL_neg (s := ⟨xs[k].cell, (xs[k].chance * (100 - percent) + 99) / 100⟩) hkx HO.out (by simp [afterStep, he]) hq)
              have hev : (xs[k].cell == cell) = true := by simp [he]
              have HF := Lib.hid (show hasCell cell (xs.take (k + 1)) = true by rw [hasCell_next hkx]; simp [he])
              clear he
              go_wp2_with fail
              go_roundw
              case rel => exact ⟨k + 1, out, _, _, by rw [HF.out], by omega, by go_num, rfl, own_alloc hown _, by omega, HN, hb.alloc hb.size _⟩
              case measure => simp [intOf]; omega
          · have HN := Lib.hid (afterL_pos (s := xs[k]) hkx HO.out (by simp [afterStep, he]) (by show 0 < xs[k].chance; omega))
            have hev : (xs[k].cell == cell) = false := by simp [he]
            have HF := Lib.hid (show hasCell cell (xs.take (k + 1)) = hasCell cell (xs.take k) by rw [hasCell_next hkx]; simp [he])
            have hq : 0 < xs[k].chance := by omega
            have hpos : (0 : Int) < xs[k].chance := hq
            clear he
            go_wp2_with (at_builtin; (refine wpList_pushNew rfl _ _ _ rfl Try.underlying37 info_impl_Sector rfl (by decide) rfl (own_alloc hown _) rfl (by simp) (by rfl) (by rfl) (by omega) (by decide) (by have := hb.size; simp; omega) ?_); intro A2 c2 w2 hown2 ho2 hbb2 hat2)
            go_roundw
            case rel => exact ⟨k + 1, out ++ [xs[k]], A2, c2, by rw [HF.out], by omega, by go_num, by simp, by simpa [Sector.enc] using hown2, by simp; omega, HN, (hb.alloc hb.size _).trans (hbb2.mono (by omega))⟩
            case measure => simp [intOf]; omega
        · obtain rfl : k = n := by omega
          have HE := Lib.hid (show afterL cell percent xs = out by rw [← HO.out, List.take_of_length_le (by omega)])
          have HX := Lib.hid (show hasCell cell (xs.take k) = hasCell cell xs by rw [List.take_of_length_le (by omega)])
          cases hf : hasCell cell (xs.take k)
          · have HX2 := Lib.hid (HX.out.symm.trans hf)
            go_wp2_with fail
            go_ret2
            rw [HR.out, HX2.out]
            exact givesSec_empty _ hb
          · have HX2 := Lib.hid (HX.out.symm.trans hf)
            cases out with
            | nil =>
              go_wp2_with fail
              go_ret2
              rw [HR.out, HX2.out, HE.out]
              exact givesSec_empty _ hb
            | cons s0 out =>
              have hlen : ((((s0 :: out).length : Nat) : Int) == 0) = false := by simp; omega
              go_wp2_with fail
              go_ret2
              rw [HR.out, HX2.out, HE.out]
              exact ⟨_, _, rfl, hown, hb⟩

end Go.Proofs.Ytjcmlloglnkbfaa
