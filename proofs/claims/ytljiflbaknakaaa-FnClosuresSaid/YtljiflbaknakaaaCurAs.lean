/- The draw of areas, and of a day. -/
import Derived.Test.YtljiflbaknakaaaCurA
import Derived.Test.YtljiflbaknakaaaNest3
namespace Go.Proofs.Ytljiflbaknakaaa
open Go.RowKit

/-- Within the draw of areas. -/
structure AsSt (w wr : World) (g n : Nat) (bx : List Value) (A : Option Addr) (k c : Nat) (rs : List (Hd Area)) : Prop where
  cur : Cur wr g n
  box : Blk wr w.heap.size 29 bx
  own : MineR areaSh wr (fun b => w.heap.size + 1 ≤ b) 62 3 A k c rs
  cnt : ∀ r ∈ rs, r.x.cnt ≤ 40
  only : Only (fun b => b = g) w wr
section
variable {w wr wv wa w4 : World} {g n n' : Nat} {bx : List Value} {A A2 B1 : Option Addr} {k c k1 d1 c2 : Nat} {rs : List (Hd Area)} {x : Area}
theorem AsSt.drawn (h : AsSt w wr g n bx A k c rs) (hg : g < w.heap.size) (hc : Cur wv g n') (ho : Only (fun b => b = g) wr wv) : AsSt w wv g n' bx A k c rs :=
  ⟨hc, h.box.only ho (fun (e : _ = _) => by omega), h.own.only ho (fun b (hb : w.heap.size + 1 ≤ b) (e : _ = _) => by omega), h.cnt, h.only.trans ho⟩
theorem AsSt.more (h : AsSt w wr g n bx A k c rs) (hn : n ≤ n') : AsSt w wr g n' bx A k c rs := { h with cur := h.cur.more hn }
/-- one area more -/
theorem AsSt.push (h : AsSt w wr g n bx A k c rs) (hg : g < w.heap.size) (kc : Cur wa g n') (oc : Only (fun b => b = g) wr wa) (ho : wa.ownsRow wr.heap.size 3 1 (.slice B1 k1 d1) k1 (ints x.cells)) (hk1 : k1 ≤ 40)
    (o4 : w4.ownsRow 0 62 4 (.slice A2 (k + 1) c2) (k + 1) (rs.flatMap areaSh.enc ++ [.int .i64 x.id, .slice B1 k1 d1, .int .i64 x.first, .int .i64 x.last])) (h4 : Only (OwnB A) wa w4) (q4 : ∀ b, OwnB A2 b → OwnB A b ∨ wa.heap.size ≤ b) : AsSt w w4 g n' bx A2 (k + 1) c2 (rs ++ [⟨x, B1, k1, d1⟩]) := by
  have hz := h.box.lt
  have z1 := oc.size
  have z2 := h4.size
  have ht : ∀ b, OwnB A b → w.heap.size + 1 ≤ b := fun b hb => h.own.outer.top b hb
  have hs := nest_snoc (sh := areaSh) (x := x) (w2 := wa) (D := fun _ => False) (h.own.inn.inners.only oc (fun b hb (e : _ = _) => by have := hb.1; omega)) h.own.apart h.own.outer.lt ho (fun b hb => hb.elim) (Nat.le_refl _) (Only.refl _ _) h4 q4 hz z1
  have o1 := h.only.trans oc
  refine ⟨kc.keep h4 (fun hb => by have := ht _ hb; omega) (fun b hb => by have := ht _ hb; omega), (h.box.only oc (fun (e : _ = _) => by omega)).only h4 (fun hb => by have := ht _ hb; omega), ⟨⟨?_, fun b hb => ?_⟩, hs.1.wide fun b hb => hb.1, hs.2⟩, fun r hr => ?_, ?_⟩
  · rw [List.flatMap_append]
    exact o4
  · rcases q4 b hb with h5 | h5
    · exact ht b h5
    · show w.heap.size + 1 ≤ b
      omega
  · rcases List.mem_append.1 hr with h5 | h5
    · exact h.cnt r h5
    · rw [List.mem_singleton.1 h5]
      have := own_len ho
      show x.cells.length ≤ 40
      omega
  · exact ⟨h4.os.trans o1.os, h4.tape.trans o1.tape, h4.output.trans o1.output, Nat.le_trans o1.size h4.size, fun i hi hS => (h4.block i (Nat.lt_of_lt_of_le hi o1.size) (fun hb => by have := ht _ hb; omega)).trans (o1.block i hi hS)⟩
end
/-- Areas, drawn. -/
def DrawnAs (w : World) (g n : Nat) (e : Ending) (w' : World) : Prop := ∃ (A : Option Addr) (k c : Nat) (xs : List Area), e = .returned (.slice A k c) ∧ MineN areaSh w' (fun b => w.heap.size + 1 ≤ b) 62 3 A k c xs ∧ k ≤ 10 ∧ (∀ x ∈ xs, x.cnt ≤ 40) ∧ Cur w' g n ∧ Only (fun b => b = g) w w'
theorem AsSt.done {w wr : World} {g n : Nat} {bx : List Value} {A : Option Addr} {k c : Nat} {rs : List (Hd Area)} (h : AsSt w wr g n bx A k c rs) (hk : k ≤ 10) : DrawnAs w g n (.returned (.slice A k c)) wr :=
  ⟨A, k, c, rs.map Hd.x, rfl, ⟨rs, rfl, h.own⟩, hk, fun x hx => by
    obtain ⟨r, hr, rfl⟩ := List.mem_map.1 hx
    exact h.cnt r hr, h.cur, h.only⟩

set_option maxRecDepth 100000 in
set_option maxHeartbeats 8000000 in
theorem areas_any (g n : Nat) (m : MapV) (A1 A2 : Option Addr) (n1 n2 c1 c2 : Nat) (w : World) (h : Cur w g n) (hn : n ≤ 700000) (hs : (0 ≤ m.width ∧ m.width ≤ 10) ∧ (0 ≤ m.height ∧ m.height ≤ 10)) :
    Calls Try.prog 94 #[.pointer (some ⟨g, 0, none⟩), .agg #[.int .i64 m.width, .int .i64 m.height, .slice A1 n1 c1, .slice A2 n2 c2]] w (DrawnAs w g (n + 2000)) := by
  have hg := h.lt
  have U0 : Below w.heap.size w ((w.alloc (.cells #[.int .i64 m.width, .int .i64 m.height, .slice A1 n1 c1, .slice A2 n2 c2] 29)).alloc (.cells #[] 62)) := ((Below.refl _ _).alloc (Nat.le_refl _) _).alloc (by simp) _
  have B0 : Blk ((w.alloc (.cells #[.int .i64 m.width, .int .i64 m.height, .slice A1 n1 c1, .slice A2 n2 c2] 29)).alloc (.cells #[] 62)) w.heap.size 29 [.int .i64 m.width, .int .i64 m.height, .slice A1 n1 c1, .slice A2 n2 c2] := (Blk.at_ rfl).alloc _
  have E0 : ((w.alloc (.cells #[.int .i64 m.width, .int .i64 m.height, .slice A1 n1 c1, .slice A2 n2 c2] 29)).alloc (.cells #[] 62)).ownsRow (w.heap.size + 1) 62 4 (.slice (some ⟨w.heap.size + 1, 0, none⟩) 0 0) 0 [] := own_empty_at 62 4 (by simp)
  have S0 : AsSt w ((w.alloc (.cells #[.int .i64 m.width, .int .i64 m.height, .slice A1 n1 c1, .slice A2 n2 c2] 29)).alloc (.cells #[] 62)) g n [.int .i64 m.width, .int .i64 m.height, .slice A1 n1 c1, .slice A2 n2 c2] (some ⟨w.heap.size + 1, 0, none⟩) 0 0 [] := ⟨h.next U0, B0, ⟨⟨own_base E0 (Nat.zero_le _), fun b hb => (own_top E0 hb).1⟩, Inners.nil _, by simp⟩, by simp, .of_below U0⟩
  clear U0 B0 E0
  go_enter Try.func94, Try.ntmps94
  go_wp2_with fail
  generalize ((w.alloc (.cells #[.int .i64 m.width, .int .i64 m.height, .slice A1 n1 c1, .slice A2 n2 c2] 29)).alloc (.cells #[] 62)) = w0 at *
  refine (pick_any 4 g n _ S0.cur (by omega) (by decide) (by decide)).mono ?_
  rintro e w1 ⟨r, rfl, hr, c1', o1⟩
  have hr3 : r ≤ 3 := hr
  have S1 := S0.drawn hg c1' o1
  clear S0 c1' o1 hr
  go_wp2_with fail
  go_loopw [5, 6, 7] (fun ov iv nv wr => ∃ (j k c i : Nat) (A : Option Addr) (rs : List (Hd Area)), j ≤ 3 ∧ nv = .int .i64 (j : Int) ∧ iv = .int .i64 (i : Int) ∧ i ≤ 3 * (3 - j) ∧ ov = .slice A k c ∧ k + j ≤ 3 ∧ AsSt w wr g (n + 2 + 204 * (3 - j)) [.int .i64 m.width, .int .i64 m.height, .slice A1 n1 c1, .slice A2 n2 c2] A k c rs) (fun _ _ nv _ => (intOf nv).toNat)
  case atStart => exact ⟨r, 0, 0, 0, _, [], hr3, rfl, rfl, Nat.zero_le _, rfl, by omega, S1.more (by omega)⟩
  case round =>
    clear S1
    obtain ⟨j, k, c, i, A, rs, hj, rfl, rfl, hi, rfl, hk, S⟩ := hrel
    by_cases hpos : 0 < j
    · obtain ⟨q, rfl⟩ : ∃ q, j = q + 1 := ⟨j - 1, by omega⟩
      go_wp2_with fail
      refine (pick_any 3 g _ _ S.cur (by omega) (by decide) (by decide)).mono ?_
      rintro e w2 ⟨r2, rfl, hr2, c2', o2⟩
      have hr22 : r2 ≤ 2 := hr2
      replace S := S.drawn hg c2' o2
      clear c2' o2 hr2
      go_wp2_with fail
      refine (pick_any 60 g _ _ S.cur (by omega) (by decide) (by decide)).mono ?_
      rintro e w3 ⟨r3, rfl, hr3', c3', o3⟩
      have hr32 : r3 ≤ 59 := hr3'
      replace S := S.drawn hg c3' o3
      clear c3' o3 hr3'
      obtain ⟨i', hi'⟩ : ∃ i' : Nat, (i : Int) + 1 + (r2 : Int) - (r3 : Int) / 59 = (i' : Int) := ⟨i + 1 + r2 - r3 / 59, by omega⟩
      have hi2 : i' ≤ 3 * (3 - q) := by omega
      have HI := Lib.hid hi'
      clear hi'
      have cm := S.box.cell
      go_wp2_with fail
      rw [HI.out]
      refine (area_any g _ m _ _ _ _ _ _ (i' : Int) _ S.cur (by omega) hs).mono ?_
      rintro e wa ⟨x, B1, k1, d1, rfl, oA, hk1, kA, hA⟩
      clear cm
      have N1 := S.own.outer.only hA (fun b (hb : w.heap.size + 1 ≤ b) (e : _ = _) => by omega)
      go_wp2_with (at_builtin; (first | (refine wpList_pushNew (w := wa) (vals := [.int .i64 x.id, .slice B1 k1 d1, .int .i64 x.first, .int .i64 x.last]) rfl _ _ _ rfl Try.underlying31 info_impl_Area rfl (by decide) rfl N1.own rfl (by simp) (by rfl) (by rfl) (by omega) (by decide) (Nat.zero_le _) ?_) | (go_loud (refine wpList_pushNew (w := wa) (vals := [.int .i64 x.id, .slice B1 k1 d1, .int .i64 x.first, .int .i64 x.last]) rfl _ _ _ rfl Try.underlying31 info_impl_Area rfl (by decide) rfl N1.own rfl (by simp) (by rfl) (by rfl) (by omega) (by decide) (Nat.zero_le _) ?_))); intro A4 c4 w4 p4 h4 b4 q4)
      have S4 := S.push hg kA hA oA hk1 p4 h4 q4
      go_roundw
      case rel => exact ⟨q, k + 1, c4, i', A4, _, by omega, by go_num, (by first | rfl | (congr 1)), hi2, rfl, by omega, S4.more (by omega)⟩
      case measure => simp [intOf]
    · obtain rfl : j = 0 := by omega
      have hi9 : i ≤ 9 := by omega
      have S2 := S.more (n' := n + 700) (by omega)
      clear S hi
      go_wp2_with fail
      refine (one_any 24 g _ _ S2.cur (by omega) (by decide) (by decide)).mono ?_
      rintro e w2 ⟨bb, rfl, c2', o2⟩
      replace S2 := S2.drawn hg c2' o2
      clear c2' o2
      cases bb
      · go_wp2_with fail
        go_ret
        exact (S2.more (by omega)).done (by omega)
      · go_wp2_with fail
        go_loopw [5, 6] (fun ov iv wr => ∃ (k c i : Nat) (A : Option Addr) (rs : List (Hd Area)), iv = .int .i64 (i : Int) ∧ i ≤ 9 + k ∧ ov = .slice A k c ∧ k ≤ 7 ∧ AsSt w wr g (n + 702 + 2 * k) [.int .i64 m.width, .int .i64 m.height, .slice A1 n1 c1, .slice A2 n2 c2] A k c rs) (fun ov _ _ => 7 - (match ov with | .slice _ k _ => k | _ => 0))
        case atStart => exact ⟨k, c, i, A, rs, rfl, by omega, rfl, by omega, S2.more (by omega)⟩
        case round =>
          clear S2
          obtain ⟨k, c, i, A, rs, rfl, hi, rfl, hk7, S⟩ := hrel
          go_wp2_with fail
          refine (pick_any 2 g _ _ S.cur (by omega) (by decide) (by decide)).mono ?_
          rintro e w3 ⟨r3, rfl, hr3', c3', o3⟩
          have hr32 : r3 ≤ 1 := hr3'
          replace S := S.drawn hg c3' o3
          clear c3' o3 hr3'
          by_cases hlt : k < 6 + r3
          · have hd1 : decide ((k : Int) < 6 + (r3 : Int)) = true := decide_eq_true (by omega)
            have hd2 : (k : Int) < 6 + (r3 : Int) := by omega
            have UA : Below w3.heap.size w3 (w3.alloc (.cells #[.int .i64 0] 3)) := (Below.refl _ _).alloc (Nat.le_refl _) _
            have BN : Blk (w3.alloc (.cells #[.int .i64 0] 3)) w3.heap.size 3 [.int .i64 0] := Blk.at_ rfl
            have ON : (w3.alloc (.cells #[.int .i64 0] 3)).ownsRow w3.heap.size 3 1 (.slice (some ⟨w3.heap.size, 0, none⟩) 1 1) 1 (ints [0]) := BN.own (Nat.le_refl _) rfl (by simp [maxLen])
            have N1 := S.own.outer.next UA
            have kA := S.cur.next UA
            have hA : Only (fun b => b = g) w3 (w3.alloc (.cells #[.int .i64 0] 3)) := .of_below UA
            clear UA BN
            go_wp2_with (at_builtin; (first | (refine wpList_pushNew (w := w3.alloc (.cells #[.int .i64 0] 3)) (vals := [.int .i64 ((i : Int) + 1), .slice (some ⟨w3.heap.size, 0, none⟩) 1 1, .int .i64 0, .int .i64 9]) rfl _ _ _ rfl Try.underlying31 info_impl_Area rfl (by decide) rfl N1.own rfl (by simp) (by rfl) (by rfl) (by omega) (by decide) (Nat.zero_le _) ?_) | (go_loud (refine wpList_pushNew (w := w3.alloc (.cells #[.int .i64 0] 3)) (vals := [.int .i64 ((i : Int) + 1), .slice (some ⟨w3.heap.size, 0, none⟩) 1 1, .int .i64 0, .int .i64 9]) rfl _ _ _ rfl Try.underlying31 info_impl_Area rfl (by decide) rfl N1.own rfl (by simp) (by rfl) (by rfl) (by omega) (by decide) (Nat.zero_le _) ?_))); intro A4 c4 w4 p4 h4 b4 q4)
            have S4 := S.push (x := ⟨(i : Int) + 1, [0], 0, 9⟩) hg kA hA ON (by omega) p4 h4 q4
            go_roundw
            case rel => exact ⟨k + 1, c4, i + 1, A4, _, by go_num, by omega, rfl, by omega, S4.more (by omega)⟩
            case measure => simp; omega
          · have hd1 : decide ((k : Int) < 6 + (r3 : Int)) = false := decide_eq_false (by omega)
            have hd2 : ¬ (k : Int) < 6 + (r3 : Int) := by omega
            go_wp2_with fail
            go_ret
            exact (S.more (by omega)).done (by omega)

set_option maxRecDepth 100000 in
set_option maxHeartbeats 2000000 in
theorem day24_any (g n : Nat) (w : World) (h : Cur w g n) (hn : n ≤ 900000) :
    Calls Try.prog 98 #[.pointer (some ⟨g, 0, none⟩)] w (DrawnI w g (n + 4) (fun v => -1 ≤ v ∧ v ≤ 365)) := by
  have hg := h.lt
  have U0 : Below w.heap.size w (w.alloc (.cells #[.int .i64 0, .int .i64 10, .int .i64 12, .int .i64 101, .int .i64 300, .int .i64 364, .int .i64 (-1), .int .i64 365] 3)) := (Below.refl _ _).alloc (Nat.le_refl _) _
  have B0 : Blk (w.alloc (.cells #[.int .i64 0, .int .i64 10, .int .i64 12, .int .i64 101, .int .i64 300, .int .i64 364, .int .i64 (-1), .int .i64 365] 3)) w.heap.size 3 (ints [0, 10, 12, 101, 300, 364, -1, 365]) := Blk.at_ rfl
  go_enter Try.func98, Try.ntmps98
  go_wp2_with fail
  refine (pick_any 24 g n _ (h.next U0) (by omega) (by decide) (by decide)).mono ?_
  rintro e w1 ⟨r, rfl, hr, k1, o1⟩
  have hr3 : r ≤ 23 := hr
  have B1 := B0.only o1 (fun (e : _ = _) => by omega)
  have O1 := (Only.of_below (S := fun b => b = g) U0).trans o1
  clear U0 B0 o1 hr
  rcases (by omega : (r : Int) / 11 = 0 ∨ (r : Int) / 11 = 1 ∨ (r : Int) / 11 = 2) with hd | hd | hd
  · go_wp2_with fail
    refine (among_cut g _ w.heap.size 6 8 3 [0, 10, 12, 101, 300, 364, -1, 365] _ B1 (by omega) k1 (by omega) (by decide) (by decide) (by decide)).mono ?_
    rintro e w2 ⟨v, rfl, hv, k2, o2⟩
    have hv2 : -1 ≤ v ∧ v ≤ 365 := by simp at hv; omega
    go_wp2_with fail
    go_ret
    exact ⟨v, rfl, hv2, k2.more (by omega), O1.trans o2⟩
  · go_wp2_with fail
    refine (among_cut g _ w.heap.size 7 8 3 [0, 10, 12, 101, 300, 364, -1, 365] _ B1 (by omega) k1 (by omega) (by decide) (by decide) (by decide)).mono ?_
    rintro e w2 ⟨v, rfl, hv, k2, o2⟩
    have hv2 : -1 ≤ v ∧ v ≤ 365 := by simp at hv; omega
    go_wp2_with fail
    go_ret
    exact ⟨v, rfl, hv2, k2.more (by omega), O1.trans o2⟩
  · go_wp2_with fail
    refine (among_cut g _ w.heap.size 8 8 3 [0, 10, 12, 101, 300, 364, -1, 365] _ B1 (by omega) k1 (by omega) (by decide) (by decide) (by decide)).mono ?_
    rintro e w2 ⟨v, rfl, hv, k2, o2⟩
    have hv2 : -1 ≤ v ∧ v ≤ 365 := by simp at hv; omega
    go_wp2_with fail
    go_ret
    exact ⟨v, rfl, hv2, k2.more (by omega), O1.trans o2⟩
end Go.Proofs.Ytljiflbaknakaaa
