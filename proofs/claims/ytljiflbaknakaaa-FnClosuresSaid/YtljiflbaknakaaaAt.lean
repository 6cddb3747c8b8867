/- AreasAt, as the program and as the reference have it. -/
import Derived.Test.YtljiflbaknakaaaAreaW
import Derived.Test.YtljiflbaknakaaaOwn
namespace Go.Proofs.Ytljiflbaknakaaa
open Go.RowKit

def closesB (cell day : Int) (a : Area) : Bool := inB day a.first a.last && hasI a.cells cell
def atL (cell day : Int) (l : List Area) : List Int := (l.filter (closesB cell day)).map Area.id
theorem atL_next {cell day : Int} {xs : List Area} {k : Nat} (hk : k < xs.length) : atL cell day (xs.take (k + 1)) = if closesB cell day xs[k] then atL cell day (xs.take k) ++ [xs[k].id] else atL cell day (xs.take k) := by
  rw [List.take_succ_eq_append_getElem hk]
  unfold atL
  rw [List.filter_append, List.map_append]
  cases h : closesB cell day xs[k] <;> simp [h]
theorem atL_len (cell day : Int) (l : List Area) : (atL cell day l).length ≤ l.length := by
  unfold atL
  rw [List.length_map]
  exact List.length_filter_le _ _
def areasAt (m : MapV) (xs : List Area) (cell day : Int) : Option (List Int) := if areasB m xs && isCellB m cell && inB day 0 364 then some (atL cell day xs) else none
theorem areasAt_len (m : MapV) (xs : List Area) (cell day : Int) : ((areasAt m xs cell day).getD []).length ≤ xs.length := by
  unfold areasAt
  split
  · exact atL_len _ _ _
  · simp
theorem isCellB_of {m : MapV} (h : isMapB m = true) (cell : Int) : inB cell 0 (m.width * m.height - 1) = isCellB m cell := by
  rw [isCellB, h, (mapB_size h).2.1]; rfl

theorem closes_any (A : Option Addr) (n c : Nat) (a : Area) (cell day : Int) (w : World) (hx : Sees w 0 1 A n (ints a.cells)) (hn : n ≤ 1048576) :
    Calls Try.prog 74 #[.agg #[.int .i64 a.id, .slice A n c, .int .i64 a.first, .int .i64 a.last], .int .i64 cell, .int .i64 day] w fun e w' => e = .returned (.bool (closesB cell day a)) ∧ Below w.heap.size w w' := by
  have K0 : Below w.heap.size w (w.alloc (.cells #[.int .i64 a.id, .slice A n c, .int .i64 a.first, .int .i64 a.last] 62)) := (Below.refl _ _).alloc (Nat.le_refl _) _
  cases g : inB day a.first a.last
  · have HR := Lib.hid (show closesB cell day a = false by simp [closesB, g])
    go_enter Try.func74, Try.ntmps74
    go_wp2_with (go_at_call 67; refine (inside_any _ _ _ _).mono ?_; rintro e w' ⟨rfl, rfl⟩)
    go_ret
    exact ⟨ret_bool HR.out.symm, K0⟩
  · have HR := Lib.hid (show closesB cell day a = hasI a.cells cell by simp [closesB, g])
    go_enter Try.func74, Try.ntmps74
    go_wp2_with (go_at_call 67; refine (inside_any _ _ _ _).mono ?_; rintro e w' ⟨rfl, rfl⟩)
    refine (Contains_int _ _ _ _ _ _ (hx.next K0) (by omega)).mono ?_
    rw [show (a.cells.any fun x => decide (cell = x)) = hasI a.cells cell from rfl]
    rintro e w1 ⟨rfl, q1⟩
    go_wp2_with fail
    go_ret
    exact ⟨ret_bool HR.out.symm, bel_quiet K0 q1⟩

set_option maxRecDepth 100000 in
set_option maxHeartbeats 1000000 in
theorem l24At_any (A : Option Addr) (n c : Nat) (xs : List Area) (cell day : Int) (w : World) (hx : SeesN areaSh w 0 A n xs) (hn : n ≤ 1048576) (hi : ∀ x ∈ xs, x.cnt ≤ 1048576) :
    Calls Try.prog 72 #[.slice A n c, .int .i64 cell, .int .i64 day] w (GivesL w (atL cell day xs)) := by
  have hl := hx.count
  go_enter Try.func72, Try.ntmps72
  go_wp2_with fail
  have hown0 := own_empty w 3 1
  have hb0 : Below w.heap.size w (w.alloc (.cells #[] 3)) := (Below.refl _ _).alloc (Nat.le_refl _) _
  go_loopw [7, 8] (fun v i wr => ∃ (k : Nat) (out : List Int) (A' : Option Addr) (c' : Nat), k ≤ n ∧ i = .int .i64 k ∧ v = .slice A' out.length c' ∧ wr.ownsRow w.heap.size 3 1 (.slice A' out.length c') out.length (ints out) ∧ out.length ≤ k ∧ Hid (atL cell day (xs.take k) = out) ∧ Below w.heap.size w wr) (fun _ i _ => n - (intOf i).toNat)
  case atStart => exact ⟨0, [], _, _, Nat.zero_le _, rfl, rfl, hown0, Nat.le_refl _, Lib.hid rfl, hb0⟩
  case round =>
    obtain ⟨k, out, A', c', hk, rfl, rfl, hown, hlo, HO, hb⟩ := hrel
    by_cases hlt : k < n
    · obtain ⟨b, off, B0, mc, cc0, rfl, hkx, x0, x1, x2, x3, hxi⟩ := SeesArea.elem (hx.next hb) hlt
      have hmb : mc ≤ 1048576 := by
        have h1 := hi xs[k] (List.getElem_mem hkx)
        have hmc := hxi.icount
        unfold Area.cnt at h1
        omega
      have hblt : b < wr.heap.size := World.block_lt_of_cell? wr _ x0
      have hN := atL_next (cell := cell) (day := day) hkx
      rw [HO.out] at hN
      cases g1 : inB day xs[k].first xs[k].last
      · rw [show closesB cell day xs[k] = false by simp [closesB, g1]] at hN
        have HN := Lib.hid (hN.trans (if_neg (by decide)))
        clear hN
        go_wp2_with fail
        go_quiet ((first | (go_at_call 77; exact quiet_left (l1In_any _ _ _ _)) | (go_at_call 88; exact quiet_right (l1Has_any _ _ _ _ _ _ (hxi.quiet (Quiet.mk _ _)) (by omega)))))
        go_wp2_with fail
        go_roundw
        case rel => exact ⟨k + 1, out, _, _, by omega, by go_num, rfl, own_below hown (bel_drewN (Below.refl _ _) _), by omega, HN, bel_drewN hb _⟩
        case measure => simp [intOf]; omega
      · cases g2 : hasI xs[k].cells cell
        · rw [show closesB cell day xs[k] = false by simp [closesB, g2]] at hN
          have HN := Lib.hid (hN.trans (if_neg (by decide)))
          clear hN
          go_wp2_with fail
          go_quiet ((first | (go_at_call 77; exact quiet_left (l1In_any _ _ _ _)) | (go_at_call 88; exact quiet_right (l1Has_any _ _ _ _ _ _ (hxi.quiet (Quiet.mk _ _)) (by omega)))))
          go_wp2_with fail
          go_roundw
          case rel => exact ⟨k + 1, out, _, _, by omega, by go_num, rfl, own_below hown (bel_drewN (Below.refl _ _) _), by omega, HN, bel_drewN hb _⟩
          case measure => simp [intOf]; omega
        · rw [show closesB cell day xs[k] = true by simp [closesB, g1, g2]] at hN
          have HN := Lib.hid (hN.trans (if_pos rfl))
          clear hN
          go_wp2_with fail
          go_quiet ((first | (go_at_call 77; exact quiet_left (l1In_any _ _ _ _)) | (go_at_call 88; exact quiet_right (l1Has_any _ _ _ _ _ _ (hxi.quiet (Quiet.mk _ _)) (by omega)))))
          have hb' := bel_drewN hb nq
          go_wp2_with (at_builtin; go_loud (refine wpList_pushNew rfl _ _ _ rfl Try.underlying22 info_int rfl (by decide) rfl (own_below hown (bel_drewN (Below.refl _ _) _)) rfl (by simp) (by rfl) (by rfl) (by omega) (by decide) (by have := hb.size; simpa using this) ?_); intro A2 c2 w2 hown2 ho2 hbb2 hat2)
          go_roundw
          case rel => exact ⟨k + 1, out ++ [xs[k].id], A2, c2, by omega, by go_num, by simp, by simpa [ints] using hown2, by simp; omega, HN, hb'.trans hbb2⟩
          case measure => simp [intOf]; omega
    · obtain rfl : k = n := by omega
      have HE := Lib.hid (show atL cell day xs = out by rw [← HO.out, List.take_of_length_le (by omega)])
      go_wp2_with fail
      go_ret
      rw [HE.out]
      exact ⟨_, _, rfl, hown, hb⟩

set_option maxRecDepth 100000 in
set_option maxHeartbeats 1000000 in
theorem AreasAt_any (A1 A2 : Option Addr) (n1 n2 c1 c2 : Nat) (m : MapV) (A : Option Addr) (n c : Nat) (xs : List Area) (cell day : Int) (w : World) (hm : SeesMap w A1 n1 A2 n2 m) (hn' : n1 ≤ 1048576 ∧ n2 ≤ 1048576) (hx : SeesN areaSh w 0 A n xs) (hn : n ≤ 1048576) (hi : ∀ x ∈ xs, x.cnt ≤ 1048576) :
    Calls Try.prog 23 #[.agg #[.int .i64 m.width, .int .i64 m.height, .slice A1 n1 c1, .slice A2 n2 c2], .slice A n c, .int .i64 cell, .int .i64 day] w (GivesInts w (areasAt m xs cell day)) := by
  have hl := hx.count
  go_enter Try.func23, Try.ntmps23
  go_wp2_with fail
  have K0 : Below w.heap.size w (w.alloc (.cells #[.int .i64 m.width, .int .i64 m.height, .slice A1 n1 c1, .slice A2 n2 c2] 29)) := (Below.refl _ _).alloc (Nat.le_refl _) _
  have Bm0 : Blk (w.alloc (.cells #[.int .i64 m.width, .int .i64 m.height, .slice A1 n1 c1, .slice A2 n2 c2] 29)) w.heap.size 29 [.int .i64 m.width, .int .i64 m.height, .slice A1 n1 c1, .slice A2 n2 c2] := Blk.at_ rfl
  refine (AreAreas_any _ _ _ _ _ _ m _ _ _ xs _ (hm.next K0) hn' (hx.next K0) hn hi).mono ?_
  cases g1 : areasB m xs
  · rintro e w1 ⟨rfl, b1⟩
    go_wp2_with fail
    go_ret2
    rw [show areasAt m xs cell day = none by simp [areasAt, g1]]
    exact gives_nil (bel_then K0 b1)
  · rintro e w1 ⟨rfl, b1⟩
    have g0 := (areasB_at g1).1
    have hp := (mapB_size g0).1
    have K1 := bel_then K0 b1
    have Bm1 := Bm0.next b1
    have cm := Bm1.cell
    go_wp2_with fail
    refine (isCell_any _ _ _ _ _ _ m cell _ (hm.next K1) hn').mono ?_
    cases g2 : isCellB m cell
    · rintro e w2 ⟨rfl, b2⟩
      go_wp2_with fail
      go_ret2
      rw [show areasAt m xs cell day = none by simp [areasAt, g2]]
      exact gives_nil (bel_then K1 b2)
    · rintro e w2 ⟨rfl, b2⟩
      have K2 := bel_then K1 b2
      clear cm Bm1 Bm0
      cases g3 : inB day 0 364
      · go_wp2_with (go_at_call 69; refine (isYearDay_any _ _).mono ?_; rintro e w' ⟨rfl, rfl⟩)
        go_ret2
        rw [show areasAt m xs cell day = none by simp [areasAt, g3]]
        exact gives_nil K2
      · have HR := Lib.hid (show areasAt m xs cell day = some (atL cell day xs) by simp [areasAt, g1, g2, g3])
        clear K0 b1 K1 b2 g0 hp
        go_wp2_with (go_at_call 69; refine (isYearDay_any _ _).mono ?_; rintro e w' ⟨rfl, rfl⟩)
        have hown0 := own_base (own_empty w2 3 1) K2.size
        have hb0 : Below w.heap.size w (w2.alloc (.cells #[] 3)) := K2.alloc K2.size _
        go_loopw [10, 31] (fun v i wr => ∃ (k : Nat) (out : List Int) (A' : Option Addr) (c' : Nat), k ≤ n ∧ i = .int .i64 k ∧ v = .slice A' out.length c' ∧ wr.ownsRow w.heap.size 3 1 (.slice A' out.length c') out.length (ints out) ∧ out.length ≤ k ∧ Hid (atL cell day (xs.take k) = out) ∧ Below w.heap.size w wr) (fun _ i _ => n - (intOf i).toNat)
        case atStart => exact ⟨0, [], _, _, Nat.zero_le _, rfl, rfl, hown0, Nat.le_refl _, Lib.hid rfl, hb0⟩
        case round =>
          obtain ⟨k, out, A', c', hk, rfl, rfl, hown, hlo, HO, hb⟩ := hrel
          by_cases hlt : k < n
          · obtain ⟨b, off, B0, mc, cc0, rfl, hkx, x0, x1, x2, x3, hxi⟩ := SeesArea.elem (hx.next hb) hlt
            have hmb : mc ≤ 1048576 := by
              have h1 := hi xs[k] (List.getElem_mem hkx)
              have hmc := hxi.icount
              unfold Area.cnt at h1
              omega
            have hblt : b < wr.heap.size := World.block_lt_of_cell? wr _ x0
            have hN := atL_next (cell := cell) (day := day) hkx
            rw [HO.out] at hN
            go_wp2_with fail
            have K3 : Below w.heap.size w (wr.alloc (.cells #[.int .i64 xs[k].id, .slice B0 mc cc0, .int .i64 xs[k].first, .int .i64 xs[k].last] 62)) := hb.alloc hb.size _
            have Ba : Blk (wr.alloc (.cells #[.int .i64 xs[k].id, .slice B0 mc cc0, .int .i64 xs[k].first, .int .i64 xs[k].last] 62)) wr.heap.size 62 [.int .i64 xs[k].id, .slice B0 mc cc0, .int .i64 xs[k].first, .int .i64 xs[k].last] := Blk.at_ rfl
            refine (closes_any _ _ _ xs[k] cell day _ (hxi.next ((Below.refl wr.heap.size wr).alloc (Nat.le_refl _) _)) hmb).mono ?_
            cases g : closesB cell day xs[k]
            · rintro e w3 ⟨rfl, b3⟩
              rw [g] at hN
              have HN := Lib.hid (hN.trans (if_neg (by decide)))
              clear hN
              go_wp2_with fail
              go_roundw
              case rel => exact ⟨k + 1, out, _, _, by omega, by go_num, rfl, own_below (own_alloc hown _) b3, by omega, HN, bel_then K3 b3⟩
              case measure => simp [intOf]; omega
            · rintro e w3 ⟨rfl, b3⟩
              rw [g] at hN
              have HN := Lib.hid (hN.trans (if_pos rfl))
              have K4 := bel_then K3 b3
              have ca := (Ba.next b3).cell
              clear hN
              go_wp2_with (at_builtin; go_loud (refine wpList_pushNew rfl _ _ _ rfl Try.underlying22 info_int rfl (by decide) rfl (own_below (own_alloc hown _) b3) rfl (by simp) (by rfl) (by rfl) (by omega) (by decide) K4.size ?_); intro A2 c2 w2 hown2 ho2 hbb2 hat2)
              go_roundw
              case rel => exact ⟨k + 1, out ++ [xs[k].id], A2, c2, by omega, by go_num, by simp, by simpa [ints] using hown2, by simp; omega, HN, K4.trans hbb2⟩
              case measure => simp [intOf]; omega
          · obtain rfl : k = n := by omega
            have HE := Lib.hid (show atL cell day xs = out by rw [← HO.out, List.take_of_length_le (by omega)])
            go_wp2_with fail
            go_ret2
            rw [HR.out, HE.out]
            exact ⟨_, _, rfl, hown, hb⟩

set_option maxRecDepth 100000 in
set_option maxHeartbeats 1000000 in
theorem specAreasAt_any (A1 A2 : Option Addr) (n1 n2 c1 c2 : Nat) (m : MapV) (A : Option Addr) (n c : Nat) (xs : List Area) (cell day : Int) (w : World) (hm : SeesMap w A1 n1 A2 n2 m) (hn' : n1 ≤ 1048576 ∧ n2 ≤ 1048576) (hx : SeesN areaSh w 0 A n xs) (hn : n ≤ 1048576) (hi : ∀ x ∈ xs, x.cnt ≤ 1048576) :
    Calls Try.prog 22 #[.agg #[.int .i64 m.width, .int .i64 m.height, .slice A1 n1 c1, .slice A2 n2 c2], .slice A n c, .int .i64 cell, .int .i64 day] w (GivesInts w (areasAt m xs cell day)) := by
  have hl := hx.count
  go_enter Try.func22, Try.ntmps22
  go_wp2_with fail
  have K0 : Below w.heap.size w (w.alloc (.cells #[.int .i64 m.width, .int .i64 m.height, .slice A1 n1 c1, .slice A2 n2 c2] 29)) := (Below.refl _ _).alloc (Nat.le_refl _) _
  have Bm0 : Blk (w.alloc (.cells #[.int .i64 m.width, .int .i64 m.height, .slice A1 n1 c1, .slice A2 n2 c2] 29)) w.heap.size 29 [.int .i64 m.width, .int .i64 m.height, .slice A1 n1 c1, .slice A2 n2 c2] := Blk.at_ rfl
  refine (l24Good_any _ _ _ _ _ _ m _ _ _ xs _ (hm.next K0) hn' (hx.next K0) hn hi).mono ?_
  cases g1 : areasB m xs
  · rintro e w1 ⟨rfl, b1⟩
    go_wp2_with fail
    go_ret2
    rw [show areasAt m xs cell day = none by simp [areasAt, g1]]
    exact gives_empty _ (bel_then K0 b1)
  · rintro e w1 ⟨rfl, b1⟩
    have g0 := (areasB_at g1).1
    have hp := (mapB_size g0).1
    have K1 := bel_then K0 b1
    have Bm1 := Bm0.next b1
    have cm := Bm1.cell
    go_wp2_with fail
    refine (l2Cell_any _ _ _ _ _ _ m cell _ hp).mono ?_
    rw [isCellB_of g0]
    cases g2 : isCellB m cell
    · rintro e w2 ⟨rfl, b2⟩
      go_wp2_with fail
      go_ret2
      rw [show areasAt m xs cell day = none by simp [areasAt, g2]]
      exact gives_empty _ (bel_then K1 b2)
    · rintro e w2 ⟨rfl, b2⟩
      have K2 := bel_then K1 b2
      clear cm Bm1 Bm0
      cases g3 : inB day 0 364
      · go_wp2_with (go_at_call 71; refine (l24Day_any _ _).mono ?_; rintro e w' ⟨rfl, rfl⟩)
        go_ret2
        rw [show areasAt m xs cell day = none by simp [areasAt, g3]]
        exact gives_empty _ K2
      · have HR := Lib.hid (show areasAt m xs cell day = some (atL cell day xs) by simp [areasAt, g1, g2, g3])
        clear K0 b1 K1 b2 g0 hp
        go_wp2_with (go_at_call 71; refine (l24Day_any _ _).mono ?_; rintro e w' ⟨rfl, rfl⟩)
        refine (l24At_any _ _ _ xs cell day _ (hx.next K2) hn hi).mono ?_
        rintro e w3 ⟨A3, c3, rfl, o3, b3⟩
        have o4 := own_base o3 K2.size
        have K3 := bel_then K2 b3
        go_wp2_with fail
        go_ret2
        rw [HR.out]
        exact ⟨_, _, rfl, o4, K3⟩

end Go.Proofs.Ytljiflbaknakaaa
