/- The law's copies of entrants, and how many there are. -/
import Derived.Test.YtlhebjlibhpanaaDoorEntT
namespace Go.Proofs.YtlhebjlibhpanaaDoor
open Go.RowKit

theorem szEntrant_any (A : Option Addr) (n c : Nat) (x : Entrant) (left : Int) (w : World) (hn : n ≤ 9223372036854775807) (hl : 0 ≤ left) (hl' : left ≤ 1048576) :
    Calls Tryd.prog 33 #[.agg #[.int .i64 x.state, .int .i64 x.number, .int .i64 x.start, .int .i64 x.finish, .slice A n c], .int .i64 left] w fun e w' => ∃ l : Int, e = .returned (.int .i64 l) ∧ Below w.heap.size w w' ∧ (l = -1 ∨ 0 ≤ l ∧ l = left - n) := by
  go_enter Tryd.func33, Tryd.ntmps33
  go_wp2_with fail
  have K0 : Below w.heap.size w _ := (Below.refl w.heap.size w).alloc (Nat.le_refl _) (.cells #[.int .i64 x.state, .int .i64 x.number, .int .i64 x.start, .int .i64 x.finish, .slice A n c] 73)
  refine (szCard_any _ _ c x.card left _ hn hl hl').mono ?_
  rintro e w1 ⟨l1, rfl, b1, rfl | h1⟩
  · go_wp2_with fail
    go_ret
    exact ⟨_, rfl, bel_then K0 b1, .inl rfl⟩
  · go_wp2_with fail
    go_ret
    exact ⟨_, rfl, bel_then K0 b1, .inr (by omega)⟩
set_option maxRecDepth 100000 in
theorem szEntrantS_any (A : Option Addr) (n c : Nat) (xs : List Entrant) (left : Int) (w : World) (hx : SeesN entrantSh w 0 A n xs) (hk : ∀ x ∈ xs, x.cnt ≤ 9223372036854775807) (hn : n ≤ 9223372036854775807) (hl : 0 ≤ left) (hl' : left ≤ 1048576) :
    Calls Tryd.prog 23 #[.slice A n c, .int .i64 left] w fun e w' => ∃ l : Int, e = .returned (.int .i64 l) ∧ Below w.heap.size w w' ∧ (l = -1 ∨ 0 ≤ l ∧ l = left - n - wtN Entrant.cnt xs) := by
  have hc := hx.count
  by_cases hlt : left - n < 0
  · go_enter Tryd.func23, Tryd.ntmps23
    go_wp2_with fail
    go_ret
    exact ⟨_, rfl, Below.refl _ _, .inl rfl⟩
  · go_enter Tryd.func23, Tryd.ntmps23
    go_wp2_with fail
    go_loopw [1, 5] (fun q v wr => ∃ (k : Nat) (l : Int), k ≤ n ∧ q = .int .i64 l ∧ v = .int .i64 k ∧ 0 ≤ l ∧ Hid (l = left - n - wtN Entrant.cnt (xs.take k)) ∧ l ≤ left ∧ Below w.heap.size w wr) (fun _ v _ => n - (intOf v).toNat)
    case atStart => exact ⟨0, _, Nat.zero_le _, rfl, rfl, by omega, Lib.hid (by simp [wtN]), by omega, Below.refl _ _⟩
    case round =>
      obtain ⟨k, l, hk', rfl, rfl, hl0, ha, hll, hb⟩ := hrel
      by_cases hlk : k < n
      · obtain ⟨b, off, B0, m, cc0, rfl, hkx, c0, c1, c2, c3, c4, hxi⟩ := SeesEntrant.elem (hx.next hb) hlk
        have hm : m = xs[k].cnt := by
          have h2 := hxi.count (by decide) (fun _ => rfl)
          unfold Entrant.cnt
          omega
        have hkk := hk xs[k] (List.getElem_mem hkx)
        have HN := Lib.hid (wtN_next Entrant.cnt hkx)
        go_wp2_with fail
        refine (szEntrant_any _ _ cc0 xs[k] l _ (by omega) hl0 (by omega)).mono ?_
        rintro e w1 ⟨l1, rfl, b1, rfl | ⟨h1, h2⟩⟩
        · go_wp2_with fail
          go_ret
          exact ⟨_, rfl, bel_then hb b1, .inl rfl⟩
        · have HL := Lib.hid h2
          have hll1 : l1 ≤ left := by omega
          clear h2
          go_wp2_with fail
          go_roundw
          case rel => exact ⟨k + 1, l1, by omega, rfl, by go_num, h1, Lib.hid (by rw [HL.out, ha.out, HN.out]; omega), hll1, bel_then hb b1⟩
          case measure => simp [intOf]; omega
      · have ha' := Lib.hid (show l = left - n - wtN Entrant.cnt xs by rw [ha.out, List.take_of_length_le (by omega)])
        clear ha
        go_wp2_with fail
        go_ret
        exact ⟨_, rfl, hb, .inr ⟨hl0, ha'.out⟩⟩
set_option maxRecDepth 100000 in
theorem toEntrant_any (A : Option Addr) (n c lo : Nat) (x : Entrant) (w : World) (hx : Sees w lo 2 A n (x.punches.flatMap Punch.enc)) (hn : n ≤ 1048576) :
    Calls Tryd.prog 38 #[.agg #[.int .i64 x.state, .int .i64 x.number, .int .i64 x.start, .int .i64 x.finish, .slice A n c]] w fun e w' => ∃ B1, e = .returned (.agg #[.int .i64 x.state, .int .i64 x.number, .int .i64 x.start, .int .i64 x.finish, .slice B1 n n]) ∧ Mine w' (In (w.heap.size + 1) w'.heap.size) 80 2 B1 n n (x.punches.flatMap Punch.enc) ∧ Below w.heap.size w w' := by
  go_enter Tryd.func38, Tryd.ntmps38
  go_wp2_with fail
  have K0 : Below w.heap.size w _ := (((Below.refl w.heap.size w).alloc (Nat.le_refl _) (.cells #[.int .i64 x.state, .int .i64 x.number, .int .i64 x.start, .int .i64 x.finish, .slice A n c] 73)).alloc (by simp) (.cells #[.int .i64 0, .int .i64 0, .int .i64 0, .int .i64 0, .slice none 0 0] 56)).alloc (by simp; omega) (.cells #[.int .i64 x.state, .int .i64 0, .int .i64 0, .int .i64 0, .slice none 0 0] 56)
  refine (toCard_any _ _ c _ x.card _ (hx.next K0) hn).mono ?_
  rintro e w1 ⟨B1, rfl, M0, b1⟩
  dsimp only [Entrant.card] at M0 ⊢
  have K1 := bel_then K0 b1
  have z1 : w.heap.size + 1 + 1 + 1 ≤ w1.heap.size := by have := b1.size; simpa using this
  have R1 : Blk w1 (w.heap.size + 1) 56 [.int .i64 0, .int .i64 0, .int .i64 0, .int .i64 0, .slice none 0 0] := ((Blk.at_ (by simp)).alloc _).next b1
  have L1 : Blk w1 (w.heap.size + 1 + 1) 56 [.int .i64 x.state, .int .i64 0, .int .i64 0, .int .i64 0, .slice none 0 0] := (Blk.at_ (by simp)).next b1
  have P1 : Blk w1 w.heap.size 73 [.int .i64 x.state, .int .i64 x.number, .int .i64 x.start, .int .i64 x.finish, .slice A n c] := (((Blk.at_ rfl).alloc _).alloc _).next b1
  have p1 := P1.cell
  have l1 := L1.cell
  have lf1 := L1.frozen
  have r1 := R1.cell
  have rf1 := R1.frozen
  go_wp2_with fail
  have RF := (((((((((R1.far (p := ⟨w.heap.size + 1 + 1, 1, none⟩) (by simp) (.int .i64 x.number)).far (p := ⟨w.heap.size + 1 + 1, 2, none⟩) (by simp) (.int .i64 x.start)).far (p := ⟨w.heap.size + 1 + 1, 3, none⟩) (by simp) (.int .i64 x.finish)).far (p := ⟨w.heap.size + 1 + 1, 4, none⟩) (by simp) (.slice B1 n n)).set_ 0 (.int .i64 x.state)).set_ 1 (.int .i64 x.number)).set_ 2 (.int .i64 x.start)).set_ 3 (.int .i64 x.finish)).set_ 4 (.slice B1 n n))
  have O3 := ((((((((((Only.refl (fun b => b = w.heap.size + 1 ∨ b = w.heap.size + 1 + 1) w1).setCell (p := ⟨w.heap.size + 1 + 1, 1, none⟩) (.inr rfl) (.int .i64 x.number)).setCell (p := ⟨w.heap.size + 1 + 1, 2, none⟩) (.inr rfl) (.int .i64 x.start)).setCell (p := ⟨w.heap.size + 1 + 1, 3, none⟩) (.inr rfl) (.int .i64 x.finish)).setCell (p := ⟨w.heap.size + 1 + 1, 4, none⟩) (.inr rfl) (.slice B1 n n)).setCell (p := ⟨w.heap.size + 1, 0, none⟩) (.inl rfl) (.int .i64 x.state)).setCell (p := ⟨w.heap.size + 1, 1, none⟩) (.inl rfl) (.int .i64 x.number)).setCell (p := ⟨w.heap.size + 1, 2, none⟩) (.inl rfl) (.int .i64 x.start)).setCell (p := ⟨w.heap.size + 1, 3, none⟩) (.inl rfl) (.int .i64 x.finish)).setCell (p := ⟨w.heap.size + 1, 4, none⟩) (.inl rfl) (.slice B1 n n))
  have M1 := M0.only O3 (fun b h1 h2 => by have := h1.1; simp at this; rcases h2 with h2 | h2 <;> omega)
  have zF := O3.size
  refine bodyPost_ret (results_cell_row rfl _ _ (w.heap.size + 1) _ _ (0, 0) _ rfl RF Tryd.underlying56 rfl (by kernel_rfl)) rfl ⟨B1, rfl, M1.wide ?_, ?_⟩
  · intro b hb
    have h1 := hb.1
    have h2 := hb.2
    simp at h1
    exact ⟨by omega, by omega⟩
  · exact K1.trans (O3.below (fun k hk => by rcases hk with hk | hk <;> omega) (by omega))
set_option maxRecDepth 100000 in
set_option maxHeartbeats 1000000 in
theorem toEntrantS_any (A : Option Addr) (n c : Nat) (xs : List Entrant) (w : World) (hx : SeesN entrantSh w 0 A n xs) (hn : n ≤ 1048576) (hi : ∀ x ∈ xs, x.cnt ≤ 1048576) :
    Calls Tryd.prog 26 #[.slice A n c] w fun e w' => ∃ A', e = .returned (.slice A' n n) ∧ MineN entrantSh w' (In w.heap.size w'.heap.size) 56 80 A' n n xs ∧ Below w.heap.size w w' := by
  have hl := hx.count
  obtain ⟨zs, hzs, hmk⟩ := make_zeros (P := Tryd.prog) n Tryd.underlying31 info_impl_Entrant (by omega) (by omega)
  go_enter Tryd.func26, Tryd.ntmps26
  go_wp2_with fail
  have hB := Blk.new w 56 zs
  have hb0 : Below w.heap.size w (w.alloc (.cells zs.toArray 56)) := (Below.refl _ _).alloc (Nat.le_refl _) _
  clear hmk
  go_loopw [4] (fun v wr => ∃ (k : Nat) (cs : List Value) (rs : List (Hd Entrant)), k ≤ n ∧ v = .int .i64 k ∧ Blk wr w.heap.size 56 cs ∧ cs.length = n * 5 ∧ rs.map Hd.x = xs.take k ∧ cs.take (k * 5) = rs.flatMap entrantSh.enc ∧ Inners entrantSh wr (In (w.heap.size + 1) wr.heap.size) 80 rs ∧ Below w.heap.size w wr) (fun v _ => n - (intOf v).toNat)
  case atStart => exact ⟨0, zs, [], Nat.zero_le _, rfl, hB, hzs, rfl, by simp, Inners.nil _, hb0⟩
  case round =>
    obtain ⟨k, cs, rs, hk, rfl, hB, hcl, hrs, hcs, hin, hb⟩ := hrel
    by_cases hlt : k < n
    · obtain ⟨b, off, B0, m, cc0, rfl, hkx, c0, c1, c2, c3, c4, hxi⟩ := SeesEntrant.elem (hx.next hb) hlt
      have hm : m ≤ 1048576 := by
        have h1 := hi xs[k] (List.getElem_mem hkx)
        have h2 := hxi.count (by decide) (fun _ => rfl)
        unfold Entrant.cnt at h1
        omega
      go_wp2_with fail
      refine (toEntrant_any _ _ cc0 _ xs[k] _ hxi hm).mono ?_
      rintro e w1 ⟨B1, rfl, o1, hb1⟩
      have hB1 := hB.next hb1
      have hlt4 : k * 5 + 5 ≤ cs.length := by omega
      obtain ⟨v0, s0⟩ : ∃ u, w1.cell? ⟨w.heap.size, k * 5, none⟩ = some u := ⟨_, (hB1.cell _).trans (List.getElem?_eq_getElem (by omega))⟩
      obtain ⟨v1, s1⟩ : ∃ u, w1.cell? ⟨w.heap.size, k * 5 + 1, none⟩ = some u := ⟨_, (hB1.cell _).trans (List.getElem?_eq_getElem (by omega))⟩
      obtain ⟨v2, s2⟩ : ∃ u, w1.cell? ⟨w.heap.size, k * 5 + 2, none⟩ = some u := ⟨_, (hB1.cell _).trans (List.getElem?_eq_getElem (by omega))⟩
      obtain ⟨v3, s3⟩ : ∃ u, w1.cell? ⟨w.heap.size, k * 5 + 3, none⟩ = some u := ⟨_, (hB1.cell _).trans (List.getElem?_eq_getElem (by omega))⟩
      obtain ⟨v4, s4⟩ : ∃ u, w1.cell? ⟨w.heap.size, k * 5 + 4, none⟩ = some u := ⟨_, (hB1.cell _).trans (List.getElem?_eq_getElem (by omega))⟩
      have hf := hB1.frozen
      have hz1 := hb1.size
      have hzg := hB.lt
      go_wp2_with fail
      go_roundw
      case rel =>
        have hB2 := hB1.many (entrantSh.enc ⟨xs[k], B1, m, m⟩) (k * 5)
        have O2 := ((((((Only.refl (fun b => b = w.heap.size) w1).setCell (p := ⟨w.heap.size, k * 5, none⟩) rfl (.int .i64 xs[k].state)).setCell (p := ⟨w.heap.size, k * 5 + 1, none⟩) rfl (.int .i64 xs[k].number)).setCell (p := ⟨w.heap.size, k * 5 + 2, none⟩) rfl (.int .i64 xs[k].start)).setCell (p := ⟨w.heap.size, k * 5 + 3, none⟩) rfl (.int .i64 xs[k].finish)).setCell (p := ⟨w.heap.size, k * 5 + 4, none⟩) rfl (.slice B1 m m))
        have h3 := ((hin.next hb1).snoc o1 (fun b h1 h2 => by have := h1.2; have := h2.1; omega)).only O2 (fun b h1 h2 => by rcases h1 with h1 | h1 <;> (have := h1.1; omega))
        refine ⟨k + 1, _, rs ++ [⟨xs[k], B1, m, m⟩], by omega, by go_num, hB2, (setMany_length _ _ _).trans hcl, ?_, ?_, h3.wide ?_, bel_many (Nat.le_refl _) (entrantSh.enc ⟨xs[k], B1, m, m⟩) (bel_then hb hb1) (k * 5)⟩
        · rw [List.map_append, hrs, List.take_succ_eq_append_getElem hkx]; rfl
        · have := setMany_take (entrantSh.enc ⟨xs[k], B1, m, m⟩) cs (k * 5) (by rw [entrantSh.len]; exact hlt4)
          rw [entrantSh.len, hcs] at this
          rw [List.flatMap_append, Nat.succ_mul]
          exact this.trans (by simp)
        · intro b hb
          have e1 := O2.size
          rcases hb with hb | hb
          · exact ⟨hb.1, Nat.lt_of_lt_of_le hb.2 (Nat.le_trans hz1 e1)⟩
          · exact ⟨by have := hb.1; omega, Nat.lt_of_lt_of_le hb.2 e1⟩
      case measure => simp [intOf]; omega
    · obtain rfl : k = n := by omega
      go_wp2_with fail
      go_ret
      rw [List.take_of_length_le (by omega)] at hrs
      have hsz := hb.size
      have hlt := hB.lt
      exact ⟨_, rfl, ⟨rs, hrs, ⟨own_shut (Nat.zero_le _) hB hcl (Nat.le_refl _) (by simp only [maxLen]; omega) hcs, fun b hb => by simp only [OwnB, Value.ownBlock, Option.some.injEq] at hb; subst hb; exact ⟨Nat.le_refl _, hlt⟩⟩, hin.wide fun b hb => ⟨by have := hb.1; omega, hb.2⟩, fun r hr b h1 h2 => by
        have h3 := ((hin.each r hr).top b h1).1
        simp only [OwnB, Value.ownBlock, Option.some.injEq] at h2
        omega⟩, hb⟩

end Go.Proofs.YtlhebjlibhpanaaDoor
