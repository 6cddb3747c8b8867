/- Joined: StepZ, StepM, StepK. -/
import Derived.Test.YtkchdhmnomelkaaGreatStepAll
/- The law's copies of steps, and how many there are. -/
namespace Go.Proofs.YtkchdhmnomelkaaGreat
open Go.RowKit

theorem szDeskStep_any (A : Option Addr) (n c : Nat) (x : DeskStep) (left : Int) (w : World) (hn : n ≤ 9223372036854775807) (hl : 0 ≤ left) (hl' : left ≤ 1048576) :
    Calls Tryz.prog 6 #[.agg #[.int .i64 x.kind, .int .i64 x.number, .int .i64 x.cnumber, .int .i64 x.cstart, .int .i64 x.cfinish, .slice A n c], .int .i64 left] w fun e w' => ∃ l : Int, e = .returned (.int .i64 l) ∧ Below w.heap.size w w' ∧ (l = -1 ∨ 0 ≤ l ∧ l = left - n) := by
  go_enter Tryz.func6, Tryz.ntmps6
  go_wp2_with fail
  have K0 : Below w.heap.size w _ := (Below.refl w.heap.size w).alloc (Nat.le_refl _) (.cells #[.int .i64 x.kind, .int .i64 x.number, .int .i64 x.cnumber, .int .i64 x.cstart, .int .i64 x.cfinish, .slice A n c] 31)
  refine (szCard_any _ _ c x.card left _ hn hl hl').mono ?_
  rintro e w1 ⟨l1, rfl, b1, rfl | h1⟩
  · go_wp2_with fail
    go_ret
    exact ⟨_, rfl, bel_then K0 b1, .inl rfl⟩
  · go_wp2_with fail
    go_ret
    exact ⟨_, rfl, bel_then K0 b1, .inr (by omega)⟩
set_option maxRecDepth 100000 in
theorem szDeskStepS_any (A : Option Addr) (n c : Nat) (xs : List DeskStep) (left : Int) (w : World) (hx : SeesN deskStepSh w 0 A n xs) (hk : ∀ x ∈ xs, x.cnt ≤ 9223372036854775807) (hn : n ≤ 9223372036854775807) (hl : 0 ≤ left) (hl' : left ≤ 1048576) :
    Calls Tryz.prog 16 #[.slice A n c, .int .i64 left] w fun e w' => ∃ l : Int, e = .returned (.int .i64 l) ∧ Below w.heap.size w w' ∧ (l = -1 ∨ 0 ≤ l ∧ l = left - n - wtN DeskStep.cnt xs) := by
  have hc := hx.count
  by_cases hlt : left - n < 0
  · go_enter Tryz.func16, Tryz.ntmps16
    go_wp2_with fail
    go_ret
    exact ⟨_, rfl, Below.refl _ _, .inl rfl⟩
  · go_enter Tryz.func16, Tryz.ntmps16
    go_wp2_with fail
    go_loopw [1, 5] (fun q v wr => ∃ (k : Nat) (l : Int), k ≤ n ∧ q = .int .i64 l ∧ v = .int .i64 k ∧ 0 ≤ l ∧ Hid (l = left - n - wtN DeskStep.cnt (xs.take k)) ∧ l ≤ left ∧ Below w.heap.size w wr) (fun _ v _ => n - (intOf v).toNat)
    case atStart => exact ⟨0, _, Nat.zero_le _, rfl, rfl, by omega, Lib.hid (by simp [wtN]), by omega, Below.refl _ _⟩
    case round =>
      obtain ⟨k, l, hk', rfl, rfl, hl0, ha, hll, hb⟩ := hrel
      by_cases hlk : k < n
      · obtain ⟨b, off, B0, m, cc0, rfl, hkx, c0, c1, c2, c3, c4, c5, hxi⟩ := SeesDeskStep.elem (hx.next hb) hlk
        have hm : m = xs[k].cnt := by
          have h2 := hxi.count (by decide) (fun _ => rfl)
          unfold DeskStep.cnt
          omega
        have hkk := hk xs[k] (List.getElem_mem hkx)
        have HN := Lib.hid (wtN_next DeskStep.cnt hkx)
        go_wp2_with fail
        refine (szDeskStep_any _ _ cc0 xs[k] l _ (by omega) hl0 (by omega)).mono ?_
        rintro e w1 ⟨l1, rfl, b1, rfl | ⟨h1, h2⟩⟩
        · go_wp2_with fail
          go_ret
          exact ⟨_, rfl, bel_then hb b1, .inl rfl⟩
        · have HL := Lib.hid h2
          have hll1 : l1 ≤ left := by omega
          clear h2
          go_wp2_with fail
          go_roundw
          case rel => exact ⟨k + 1, l1, by omega, rfl, by go_num, h1, Lib.hid (by rw [HL.out, ha.out, HN.out]; omega), hll1, bel_then hb b1⟩
          case measure => simp [intOf]; omega
      · have ha' := Lib.hid (show l = left - n - wtN DeskStep.cnt xs by rw [ha.out, List.take_of_length_le (by omega)])
        clear ha
        go_wp2_with fail
        go_ret
        exact ⟨_, rfl, hb, .inr ⟨hl0, ha'.out⟩⟩
set_option maxRecDepth 100000 in
theorem toDeskStep_any (A : Option Addr) (n c lo : Nat) (x : DeskStep) (w : World) (hx : Sees w lo 2 A n (x.punches.flatMap Punch.enc)) (hn : n ≤ 1048576) :
    Calls Tryz.prog 9 #[.agg #[.int .i64 x.kind, .int .i64 x.number, .int .i64 x.cnumber, .int .i64 x.cstart, .int .i64 x.cfinish, .slice A n c]] w fun e w' => ∃ B1, e = .returned (.agg #[.int .i64 x.kind, .int .i64 x.number, .int .i64 x.cnumber, .int .i64 x.cstart, .int .i64 x.cfinish, .slice B1 n n]) ∧ Mine w' (In (w.heap.size + 1) w'.heap.size) 106 2 B1 n n (x.punches.flatMap Punch.enc) ∧ Below w.heap.size w w' := by
  go_enter Tryz.func9, Tryz.ntmps9
  go_wp2_with fail
  have K0 : Below w.heap.size w _ := (((Below.refl w.heap.size w).alloc (Nat.le_refl _) (.cells #[.int .i64 x.kind, .int .i64 x.number, .int .i64 x.cnumber, .int .i64 x.cstart, .int .i64 x.cfinish, .slice A n c] 31)).alloc (by simp) (.cells #[.int .i64 0, .int .i64 0, .int .i64 0, .int .i64 0, .int .i64 0, .slice none 0 0] 45)).alloc (by simp; omega) (.cells #[.int .i64 x.kind, .int .i64 x.number, .int .i64 0, .int .i64 0, .int .i64 0, .slice none 0 0] 45)
  refine (toCard_any _ _ c _ x.card _ (hx.next K0) hn).mono ?_
  rintro e w1 ⟨B1, rfl, M0, b1⟩
  dsimp only [DeskStep.card] at M0 ⊢
  have K1 := bel_then K0 b1
  have z1 : w.heap.size + 1 + 1 + 1 ≤ w1.heap.size := by have := b1.size; simpa using this
  have R1 : Blk w1 (w.heap.size + 1) 45 [.int .i64 0, .int .i64 0, .int .i64 0, .int .i64 0, .int .i64 0, .slice none 0 0] := ((Blk.at_ (by simp)).alloc _).next b1
  have L1 : Blk w1 (w.heap.size + 1 + 1) 45 [.int .i64 x.kind, .int .i64 x.number, .int .i64 0, .int .i64 0, .int .i64 0, .slice none 0 0] := (Blk.at_ (by simp)).next b1
  have P1 : Blk w1 w.heap.size 31 [.int .i64 x.kind, .int .i64 x.number, .int .i64 x.cnumber, .int .i64 x.cstart, .int .i64 x.cfinish, .slice A n c] := (((Blk.at_ rfl).alloc _).alloc _).next b1
  have p1 := P1.cell
  have l1 := L1.cell
  have lf1 := L1.frozen
  have r1 := R1.cell
  have rf1 := R1.frozen
  go_wp2_with fail
  have RF := ((((((((((R1.far (p := ⟨w.heap.size + 1 + 1, 2, none⟩) (by simp) (.int .i64 x.cnumber)).far (p := ⟨w.heap.size + 1 + 1, 3, none⟩) (by simp) (.int .i64 x.cstart)).far (p := ⟨w.heap.size + 1 + 1, 4, none⟩) (by simp) (.int .i64 x.cfinish)).far (p := ⟨w.heap.size + 1 + 1, 5, none⟩) (by simp) (.slice B1 n n)).set_ 0 (.int .i64 x.kind)).set_ 1 (.int .i64 x.number)).set_ 2 (.int .i64 x.cnumber)).set_ 3 (.int .i64 x.cstart)).set_ 4 (.int .i64 x.cfinish)).set_ 5 (.slice B1 n n))
  have O3 := (((((((((((Only.refl (fun b => b = w.heap.size + 1 ∨ b = w.heap.size + 1 + 1) w1).setCell (p := ⟨w.heap.size + 1 + 1, 2, none⟩) (.inr rfl) (.int .i64 x.cnumber)).setCell (p := ⟨w.heap.size + 1 + 1, 3, none⟩) (.inr rfl) (.int .i64 x.cstart)).setCell (p := ⟨w.heap.size + 1 + 1, 4, none⟩) (.inr rfl) (.int .i64 x.cfinish)).setCell (p := ⟨w.heap.size + 1 + 1, 5, none⟩) (.inr rfl) (.slice B1 n n)).setCell (p := ⟨w.heap.size + 1, 0, none⟩) (.inl rfl) (.int .i64 x.kind)).setCell (p := ⟨w.heap.size + 1, 1, none⟩) (.inl rfl) (.int .i64 x.number)).setCell (p := ⟨w.heap.size + 1, 2, none⟩) (.inl rfl) (.int .i64 x.cnumber)).setCell (p := ⟨w.heap.size + 1, 3, none⟩) (.inl rfl) (.int .i64 x.cstart)).setCell (p := ⟨w.heap.size + 1, 4, none⟩) (.inl rfl) (.int .i64 x.cfinish)).setCell (p := ⟨w.heap.size + 1, 5, none⟩) (.inl rfl) (.slice B1 n n))
  have M1 := M0.only O3 (fun b h1 h2 => by have := h1.1; simp at this; rcases h2 with h2 | h2 <;> omega)
  have zF := O3.size
  refine bodyPost_ret (results_cell_row rfl _ _ (w.heap.size + 1) _ _ (0, 0) _ rfl RF Tryz.underlying45 rfl (by kernel_rfl)) rfl ⟨B1, rfl, M1.wide ?_, ?_⟩
  · intro b hb
    have h1 := hb.1
    have h2 := hb.2
    simp at h1
    exact ⟨by omega, by omega⟩
  · exact K1.trans (O3.below (fun k hk => by rcases hk with hk | hk <;> omega) (by omega))
set_option maxRecDepth 100000 in
set_option maxHeartbeats 1000000 in
theorem toDeskStepS_any (A : Option Addr) (n c : Nat) (xs : List DeskStep) (w : World) (hx : SeesN deskStepSh w 0 A n xs) (hn : n ≤ 1048576) (hi : ∀ x ∈ xs, x.cnt ≤ 1048576) :
    Calls Tryz.prog 18 #[.slice A n c] w fun e w' => ∃ A', e = .returned (.slice A' n n) ∧ MineN deskStepSh w' (In w.heap.size w'.heap.size) 45 106 A' n n xs ∧ Below w.heap.size w w' := by
  have hl := hx.count
  obtain ⟨zs, hzs, hmk⟩ := make_zeros (P := Tryz.prog) n Tryz.underlying56 info_impl_DeskStep (by omega) (by omega)
  go_enter Tryz.func18, Tryz.ntmps18
  go_wp2_with fail
  have hB := Blk.new w 45 zs
  have hb0 : Below w.heap.size w (w.alloc (.cells zs.toArray 45)) := (Below.refl _ _).alloc (Nat.le_refl _) _
  clear hmk
  go_loopw [4] (fun v wr => ∃ (k : Nat) (cs : List Value) (rs : List (Hd DeskStep)), k ≤ n ∧ v = .int .i64 k ∧ Blk wr w.heap.size 45 cs ∧ cs.length = n * 6 ∧ rs.map Hd.x = xs.take k ∧ cs.take (k * 6) = rs.flatMap deskStepSh.enc ∧ Inners deskStepSh wr (In (w.heap.size + 1) wr.heap.size) 106 rs ∧ Below w.heap.size w wr) (fun v _ => n - (intOf v).toNat)
  case atStart => exact ⟨0, zs, [], Nat.zero_le _, rfl, hB, hzs, rfl, by simp, Inners.nil _, hb0⟩
  case round =>
    obtain ⟨k, cs, rs, hk, rfl, hB, hcl, hrs, hcs, hin, hb⟩ := hrel
    by_cases hlt : k < n
    · obtain ⟨b, off, B0, m, cc0, rfl, hkx, c0, c1, c2, c3, c4, c5, hxi⟩ := SeesDeskStep.elem (hx.next hb) hlt
      have hm : m ≤ 1048576 := by
        have h1 := hi xs[k] (List.getElem_mem hkx)
        have h2 := hxi.count (by decide) (fun _ => rfl)
        unfold DeskStep.cnt at h1
        omega
      go_wp2_with fail
      refine (toDeskStep_any _ _ cc0 _ xs[k] _ hxi hm).mono ?_
      rintro e w1 ⟨B1, rfl, o1, hb1⟩
      have hB1 := hB.next hb1
      have hlt4 : k * 6 + 6 ≤ cs.length := by omega
      obtain ⟨v0, s0⟩ : ∃ u, w1.cell? ⟨w.heap.size, k * 6, none⟩ = some u := ⟨_, (hB1.cell _).trans (List.getElem?_eq_getElem (by omega))⟩
      obtain ⟨v1, s1⟩ : ∃ u, w1.cell? ⟨w.heap.size, k * 6 + 1, none⟩ = some u := ⟨_, (hB1.cell _).trans (List.getElem?_eq_getElem (by omega))⟩
      obtain ⟨v2, s2⟩ : ∃ u, w1.cell? ⟨w.heap.size, k * 6 + 2, none⟩ = some u := ⟨_, (hB1.cell _).trans (List.getElem?_eq_getElem (by omega))⟩
      obtain ⟨v3, s3⟩ : ∃ u, w1.cell? ⟨w.heap.size, k * 6 + 3, none⟩ = some u := ⟨_, (hB1.cell _).trans (List.getElem?_eq_getElem (by omega))⟩
      obtain ⟨v4, s4⟩ : ∃ u, w1.cell? ⟨w.heap.size, k * 6 + 4, none⟩ = some u := ⟨_, (hB1.cell _).trans (List.getElem?_eq_getElem (by omega))⟩
      obtain ⟨v5, s5⟩ : ∃ u, w1.cell? ⟨w.heap.size, k * 6 + 5, none⟩ = some u := ⟨_, (hB1.cell _).trans (List.getElem?_eq_getElem (by omega))⟩
      have hf := hB1.frozen
      have hz1 := hb1.size
      have hzg := hB.lt
      go_wp2_with fail
      go_roundw
      case rel =>
        have hB2 := hB1.many (deskStepSh.enc ⟨xs[k], B1, m, m⟩) (k * 6)
        have O2 := (((((((Only.refl (fun b => b = w.heap.size) w1).setCell (p := ⟨w.heap.size, k * 6, none⟩) rfl (.int .i64 xs[k].kind)).setCell (p := ⟨w.heap.size, k * 6 + 1, none⟩) rfl (.int .i64 xs[k].number)).setCell (p := ⟨w.heap.size, k * 6 + 2, none⟩) rfl (.int .i64 xs[k].cnumber)).setCell (p := ⟨w.heap.size, k * 6 + 3, none⟩) rfl (.int .i64 xs[k].cstart)).setCell (p := ⟨w.heap.size, k * 6 + 4, none⟩) rfl (.int .i64 xs[k].cfinish)).setCell (p := ⟨w.heap.size, k * 6 + 5, none⟩) rfl (.slice B1 m m))
        have h3 := ((hin.next hb1).snoc o1 (fun b h1 h2 => by have := h1.2; have := h2.1; omega)).only O2 (fun b h1 h2 => by rcases h1 with h1 | h1 <;> (have := h1.1; omega))
        refine ⟨k + 1, _, rs ++ [⟨xs[k], B1, m, m⟩], by omega, by go_num, hB2, (setMany_length _ _ _).trans hcl, ?_, ?_, h3.wide ?_, bel_many (Nat.le_refl _) (deskStepSh.enc ⟨xs[k], B1, m, m⟩) (bel_then hb hb1) (k * 6)⟩
        · rw [List.map_append, hrs, List.take_succ_eq_append_getElem hkx]; rfl
        · have := setMany_take (deskStepSh.enc ⟨xs[k], B1, m, m⟩) cs (k * 6) (by rw [deskStepSh.len]; exact hlt4)
          rw [deskStepSh.len, hcs] at this
          rw [List.flatMap_append, Nat.succ_mul]
          exact this.trans (by simp)
        · intro b hb
          have e1 := O2.size
          rcases hb with hb | hb
          · exact ⟨hb.1, Nat.lt_of_lt_of_le hb.2 (Nat.le_trans hz1 e1)⟩
          · exact ⟨by have := hb.1; omega, Nat.lt_of_lt_of_le hb.2 e1⟩
      case measure => simp [intOf]; omega
    · obtain rfl : k = n := by omega
      go_wp2_with fail
      go_ret
      rw [List.take_of_length_le (by omega)] at hrs
      have hsz := hb.size
      have hlt := hB.lt
      exact ⟨_, rfl, ⟨rs, hrs, ⟨own_shut (Nat.zero_le _) hB hcl (Nat.le_refl _) (by simp only [maxLen]; omega) hcs, fun b hb => by simp only [OwnB, Value.ownBlock, Option.some.injEq] at hb; subst hb; exact ⟨Nat.le_refl _, hlt⟩⟩, hin.wide fun b hb => ⟨by have := hb.1; omega, hb.2⟩, fun r hr b h1 h2 => by
        have h3 := ((hin.each r hr).top b h1).1
        simp only [OwnB, Value.ownBlock, Option.some.injEq] at h2
        omega⟩, hb⟩

end Go.Proofs.YtkchdhmnomelkaaGreat

/- The law's marks of steps. -/
namespace Go.Proofs.YtkchdhmnomelkaaGreat
open Go.RowKit

set_option maxRecDepth 100000 in
set_option maxHeartbeats 8000000 in
theorem markDeskStepS_any (S : Nat → Prop) (n c : Nat) (A : Option Addr) (xs : List DeskStep) (k0 : Int) (w : World) (hM : MineN deskStepSh w S 45 106 A n c xs) (h0 : 0 ≤ k0) (h1 : k0 + wtN DeskStep.wt xs ≤ 1000000000) (hn : n ≤ 1048576) :
    Calls Tryz.prog 21 #[.slice A n c, .int .i64 k0] w fun e w' => e = .returned (.int .i64 (k0 + wtN DeskStep.wt xs)) ∧ MineN deskStepSh w' S 45 106 A n c (marksN DeskStep.mark DeskStep.wt k0 xs) ∧ Only S w w' := by
  have hl := hM.count
  obtain ⟨rs0, hrs0, hM⟩ := hM
  rcases own_open hM.outer.own with ⟨rfl, rfl, rfl, hxs⟩ | ⟨g, cur, rfl, hg, hB, hcl, hnc, hcm, htk⟩
  · have hx0 : xs = [] := List.length_eq_zero_iff.1 hl
    subst hx0
    go_enter Tryz.func21, Tryz.ntmps21
    go_wp2_with fail
    refine wp_loop_rounds 1 ?_
    rw [rounds_succ]
    go_wp2_with fail
    go_ret
    exact ⟨by simp [wtN], MineN.nil _ _ _ _, Only.refl _ _⟩
  · have hS : S g := hM.outer.top g rfl
    have hag : ∀ r ∈ rs0, ¬ OwnB r.A g := fun r hr hb => hM.apart r hr g hb rfl
    have hl0 : rs0.length = n := by rw [← hl, ← hrs0, List.length_map]
    have hin0 := hM.inners
    have hcl' : n * 6 ≤ cur.length := by rw [hcl]; exact Nat.mul_le_mul_right _ hnc
    clear hM
    go_enter Tryz.func21, Tryz.ntmps21
    go_wp2_with fail
    go_loopw [1, 5] (fun q v wr => ∃ (k : Nat) (cs : List Value) (rs : List (Hd DeskStep)), k ≤ n ∧ q = .int .i64 (k0 + wtN DeskStep.wt (xs.take k)) ∧ v = .int .i64 k ∧ Blk wr g 45 cs ∧ cs.length = c * 6 ∧ Hid (rs.map Hd.x = marksN DeskStep.mark DeskStep.wt k0 (xs.take k) ++ xs.drop k) ∧ rs.length = n ∧ cs.take (n * 6) = rs.flatMap deskStepSh.enc ∧ Inners deskStepSh wr S 106 rs ∧ (∀ r ∈ rs, ¬ OwnB r.A g) ∧ Only S w wr) (fun _ v _ => n - (intOf v).toNat)
    case atStart => exact ⟨0, _, rs0, Nat.zero_le _, by simp [wtN], rfl, hB, hcl, Lib.hid (by simpa [marksN] using hrs0), hl0, htk, hin0, hag, Only.refl _ _⟩
    case round =>
      obtain ⟨k, cs, rs, hk, rfl, rfl, hB, hcl, HR, hrl, hcs, hin, hag, ho⟩ := hrel
      by_cases hlt : k < n
      · have hkx : k < xs.length := by omega
        have hkr : k < rs.length := by omega
        have hrk : rs[k].x = xs[k] := by
          have h2 : (rs.map Hd.x)[k]'(by simpa using hkr) = xs[k] := by
            simp only [HR.out]
            have hlm : (marksN DeskStep.mark DeskStep.wt k0 (xs.take k)).length = k := by rw [marksN_length, List.length_take]; omega
            rw [List.getElem_append_right (by omega)]
            simp [hlm]
          simpa using h2
        have hmi := (hin.each rs[k] (List.getElem_mem hkr))
        rw [hrk] at hmi
        have hagk := hag rs[k] (List.getElem_mem hkr)
        have hsl := hB.cell (k * 6 + 5)
        have hsl2 : cs[k * 6 + 5]? = some (.slice rs[k].A rs[k].n rs[k].c) := by
          have h2 := heads_get (sh := deskStepSh) rs k 5 hkr (by decide)
          rw [show (deskStepSh.enc rs[k])[5]? = some (Value.slice rs[k].A rs[k].n rs[k].c) from rfl, ← hcs, List.getElem?_take, if_pos (by show k * 6 + 5 < n * 6; omega)] at h2
          exact h2
        rw [hsl2] at hsl
        have hcnt := hmi.sees.count (by decide) (fun _ => rfl)
        have hwa := wtN_at DeskStep.wt hkx
        have hwn := Lib.hid (wtN_next DeskStep.wt hkx)
        have hw1 : DeskStep.wt xs[k] = rs[k].n * 2 + 5 := by unfold DeskStep.wt; rw [hcnt]
        have hlt4 : k * 6 + 6 ≤ cs.length := by rw [hcl]; omega
        have HRk := Lib.hid (show rs.set k ⟨DeskStep.mark (k0 + wtN DeskStep.wt (xs.take k)) xs[k], rs[k].A, rs[k].n, rs[k].c⟩ = rs.set k ⟨DeskStep.mark (k0 + wtN DeskStep.wt (xs.take k)) xs[k], rs[k].A, rs[k].n, rs[k].c⟩ from rfl)
        have hfz := hB.frozen
        generalize hK : k0 + (wtN DeskStep.wt (xs.take k) : Int) = K at *
        generalize hm : rs[k].n = m at *
        generalize hrA : rs[k].A = Ak at *
        generalize hrc : rs[k].c = ck at *
        obtain ⟨v0, s0⟩ : ∃ u, wr.cell? ⟨g, k * 6, none⟩ = some u := ⟨_, (hB.cell _).trans (List.getElem?_eq_getElem (by omega))⟩
        obtain ⟨v1, s1⟩ : ∃ u, wr.cell? ⟨g, k * 6 + 1, none⟩ = some u := ⟨_, (hB.cell _).trans (List.getElem?_eq_getElem (by omega))⟩
        obtain ⟨v2, s2⟩ : ∃ u, wr.cell? ⟨g, k * 6 + 2, none⟩ = some u := ⟨_, (hB.cell _).trans (List.getElem?_eq_getElem (by omega))⟩
        obtain ⟨v3, s3⟩ : ∃ u, wr.cell? ⟨g, k * 6 + 3, none⟩ = some u := ⟨_, (hB.cell _).trans (List.getElem?_eq_getElem (by omega))⟩
        obtain ⟨v4, s4⟩ : ∃ u, wr.cell? ⟨g, k * 6 + 4, none⟩ = some u := ⟨_, (hB.cell _).trans (List.getElem?_eq_getElem (by omega))⟩
        have hK1 := Lib.hid hK
        have HA := Lib.hid hrA
        have HM := Lib.hid hm
        have HC := Lib.hid hrc
        have HX := Lib.hid hrk
        have H2 := Lib.hid hsl2
        have HCN := Lib.hid hcnt
        have hb1 : 0 ≤ K ∧ K ≤ 1000000000 - (m * 2 + 5) := by omega
        have hm2 : m * 2 ≤ 1000000000 := by omega
        clear hK hrA hm hrc hrk hsl2 hcnt
        go_wp2_with fail
        have B1 := (((((hB.set_ (k * 6) (.int .i64 (K))).set_ (k * 6 + 1) (.int .i64 (K + 1))).set_ (k * 6 + 2) (.int .i64 (K + 1 + 1))).set_ (k * 6 + 3) (.int .i64 (K + 1 + 1 + 1))).set_ (k * 6 + 4) (.int .i64 (K + 1 + 1 + 1 + 1)))
        have O1 := (((((ho.setCell (p := ⟨g, k * 6, none⟩) hS (.int .i64 (K))).setCell (p := ⟨g, k * 6 + 1, none⟩) hS (.int .i64 (K + 1))).setCell (p := ⟨g, k * 6 + 2, none⟩) hS (.int .i64 (K + 1 + 1))).setCell (p := ⟨g, k * 6 + 3, none⟩) hS (.int .i64 (K + 1 + 1 + 1))).setCell (p := ⟨g, k * 6 + 4, none⟩) hS (.int .i64 (K + 1 + 1 + 1 + 1)))
        refine (markPunchS_any _ _ _ _ _ _ (K + 1 + 1 + 1 + 1 + 1) _ (hmi.exact_.only (T := fun b => b = g) (((((((Only.refl (fun b => b = g) wr).setCell (p := ⟨g, k * 6, none⟩) rfl (.int .i64 (K))).setCell (p := ⟨g, k * 6 + 1, none⟩) rfl (.int .i64 (K + 1))).setCell (p := ⟨g, k * 6 + 2, none⟩) rfl (.int .i64 (K + 1 + 1))).setCell (p := ⟨g, k * 6 + 3, none⟩) rfl (.int .i64 (K + 1 + 1 + 1))).setCell (p := ⟨g, k * 6 + 4, none⟩) rfl (.int .i64 (K + 1 + 1 + 1 + 1)))) (fun b h2 h3 => hagk (h3 ▸ h2))) (by omega) (by omega) (by omega)).mono ?_
        rintro e w1 ⟨rfl, M1, q1⟩
        have B2 := B1.only q1 hagk
        have O2 := O1.trans (q1.mono hmi.top)
        have hfz2 := B2.frozen

        go_wp2_with fail
        have e1 := HA.out
        have e2 := HM.out
        have e3 := HC.out
        have e4 := hK1.out
        subst e1 e2 e3 e4
        have hkl : k * 6 + 6 ≤ cs.length := hlt4
        go_roundw
        case rel =>
          have hin1 := hin.onlyA (T := fun b => b = g) (((((((Only.refl (fun b => b = g) wr).setCell (p := ⟨g, k * 6, none⟩) rfl (.int .i64 (k0 + ↑(wtN DeskStep.wt (xs.take k))))).setCell (p := ⟨g, k * 6 + 1, none⟩) rfl (.int .i64 (k0 + ↑(wtN DeskStep.wt (xs.take k)) + 1))).setCell (p := ⟨g, k * 6 + 2, none⟩) rfl (.int .i64 (k0 + ↑(wtN DeskStep.wt (xs.take k)) + 1 + 1))).setCell (p := ⟨g, k * 6 + 3, none⟩) rfl (.int .i64 (k0 + ↑(wtN DeskStep.wt (xs.take k)) + 1 + 1 + 1))).setCell (p := ⟨g, k * 6 + 4, none⟩) rfl (.int .i64 (k0 + ↑(wtN DeskStep.wt (xs.take k)) + 1 + 1 + 1 + 1)))) (fun r hr b h2 h3 => hag r hr (h3 ▸ h2))
          have hin2 := hin1.set hkr (DeskStep.mark (k0 + wtN DeskStep.wt (xs.take k)) xs[k]) q1 (by show Mine _ _ _ _ _ _ _ ((marksOf Punch.mark 2 (k0 + ↑(wtN DeskStep.wt (xs.take k)) + 1 + 1 + 1 + 1 + 1) xs[k].punches.length).flatMap Punch.enc); rw [HCN.out]; exact M1)
          have hag2 := heads_apart (y := DeskStep.mark (k0 + wtN DeskStep.wt (xs.take k)) xs[k]) hkr hag
          have hin3 := hin2.onlyA (T := fun b => b = g) ((Only.refl (fun b => b = g) w1)) (fun r hr b h2 h3 => hag2 r hr (h3 ▸ h2))
          have B3 := B2
          have O3 := O2
          refine ⟨k + 1, _, _, by omega, ?_, by go_num, B3, ?_, Lib.hid (heads_marks hkr hkx HR.out), ?_, ?_, hin3, hag2, O3⟩
          rotate_left
          · simp only [List.length_set]; exact hcl
          · rw [List.length_set]; exact hrl
          rotate_left
          · have e2 := hwn.out
            congr 1
            omega
          · rw [← hrl]
            refine heads_set (sh := deskStepSh) hkr _ (by rw [hrl]; exact hcs) (fun j hj => ?_) (fun j hj => ?_)
            · have e5 := H2.out
              have e6 := HCN.out
              match j, hj with
              | 0, _ => rw [show k * deskStepSh.s + 0 = k * 6 from rfl, List.getElem?_set_ne (by omega), List.getElem?_set_ne (by omega), List.getElem?_set_ne (by omega), List.getElem?_set_ne (by omega), List.getElem?_set_self (by first | omega | (simp only [List.length_set]; omega))]; rfl
              | 1, _ => rw [show k * deskStepSh.s + 1 = k * 6 + 1 from rfl, List.getElem?_set_ne (by omega), List.getElem?_set_ne (by omega), List.getElem?_set_ne (by omega), List.getElem?_set_self (by first | omega | (simp only [List.length_set]; omega))]; rfl
              | 2, _ => rw [show k * deskStepSh.s + 2 = k * 6 + 2 from rfl, List.getElem?_set_ne (by omega), List.getElem?_set_ne (by omega), List.getElem?_set_self (by first | omega | (simp only [List.length_set]; omega))]; rfl
              | 3, _ => rw [show k * deskStepSh.s + 3 = k * 6 + 3 from rfl, List.getElem?_set_ne (by omega), List.getElem?_set_self (by first | omega | (simp only [List.length_set]; omega))]; rfl
              | 4, _ => rw [show k * deskStepSh.s + 4 = k * 6 + 4 from rfl, List.getElem?_set_self (by first | omega | (simp only [List.length_set]; omega))]; rfl
              | 5, _ => rw [show k * deskStepSh.s + 5 = k * 6 + 5 from rfl, List.getElem?_set_ne (by omega), List.getElem?_set_ne (by omega), List.getElem?_set_ne (by omega), List.getElem?_set_ne (by omega), List.getElem?_set_ne (by omega)]; exact e5
            · have hj' : ¬ (k * 6 ≤ j ∧ j < k * 6 + 6) := hj
              rw [List.getElem?_set_ne (by omega), List.getElem?_set_ne (by omega), List.getElem?_set_ne (by omega), List.getElem?_set_ne (by omega), List.getElem?_set_ne (by omega)]
        case measure => simp [intOf]; omega
      · obtain rfl : k = n := by omega
        have e1 : xs.take k = xs := List.take_of_length_le (by omega)
        have e2 : xs.drop k = [] := List.drop_eq_nil_of_le (by omega)
        rw [e1, e2, List.append_nil] at HR
        rw [e1]
        go_wp2_with fail
        go_ret
        exact ⟨rfl, ⟨rs, HR.out, ⟨own_shut hg hB hcl hnc hcm hcs, fun b hb => by simp only [OwnB, Value.ownBlock, Option.some.injEq] at hb; subst hb; exact hS⟩, hin, fun r hr b h2 h3 => by simp only [OwnB, Value.ownBlock, Option.some.injEq] at h3; subst h3; exact hag r hr h2⟩, ho⟩

end Go.Proofs.YtkchdhmnomelkaaGreat

/- The law's mark of one step. -/
namespace Go.Proofs.YtkchdhmnomelkaaGreat
open Go.RowKit

theorem markCard_any (S : Nat → Prop) (A : Option Addr) (n c : Nat) (x : Card) (k0 : Int) (w : World) (h : Mine w S 106 2 A n c (x.punches.flatMap Punch.enc)) (h0 : 0 ≤ k0) (h1 : k0 ≤ 1000000000) (hn : n ≤ 1048576) :
    Calls Tryz.prog 42 #[.agg #[.int .i64 x.number, .int .i64 x.start, .int .i64 x.finish, .slice A n c], .int .i64 k0] w fun e w' => e = .returned (.int .i64 (k0 + n * 2)) ∧ Mine w' S 106 2 A n c ((marksOf Punch.mark 2 k0 n).flatMap Punch.enc) ∧ Only S w w' := by
  go_enter Tryz.func42, Tryz.ntmps42
  go_wp2_with fail
  have K0 : Below w.heap.size w (w.alloc (.cells #[.int .i64 x.number, .int .i64 x.start, .int .i64 x.finish, .slice A n c] 43)) := (Below.refl _ _).alloc (Nat.le_refl _) _
  refine (markPunchS_any _ _ _ _ _ x.punches _ _ (h.next K0) h0 (by omega) (by omega)).mono ?_
  rintro e w1 ⟨rfl, M1, q1⟩
  go_wp2_with fail
  go_ret
  exact ⟨rfl, M1, (Only.of_below K0).trans q1⟩
theorem markDeskStep_any (S : Nat → Prop) (A : Option Addr) (n c : Nat) (x : DeskStep) (k0 : Int) (w : World) (h : Mine w S 106 2 A n c (x.punches.flatMap Punch.enc)) (h0 : 0 ≤ k0) (h1 : k0 ≤ 1000000000) (hn : n ≤ 1048576) :
    Calls Tryz.prog 14 #[.agg #[.int .i64 x.kind, .int .i64 x.number, .int .i64 x.cnumber, .int .i64 x.cstart, .int .i64 x.cfinish, .slice A n c], .int .i64 k0] w fun e w' => e = .returned (.int .i64 (k0 + n * 2)) ∧ Mine w' S 106 2 A n c ((marksOf Punch.mark 2 k0 n).flatMap Punch.enc) ∧ Only S w w' := by
  go_enter Tryz.func14, Tryz.ntmps14
  go_wp2_with fail
  have K0 : Below w.heap.size w (w.alloc (.cells #[.int .i64 x.kind, .int .i64 x.number, .int .i64 x.cnumber, .int .i64 x.cstart, .int .i64 x.cfinish, .slice A n c] 45)) := (Below.refl _ _).alloc (Nat.le_refl _) _
  refine (markCard_any _ _ _ _ x.card _ _ (h.next K0) h0 h1 hn).mono ?_
  rintro e w1 ⟨rfl, M1, q1⟩
  go_wp2_with fail
  go_ret
  exact ⟨rfl, M1, (Only.of_below K0).trans q1⟩

end Go.Proofs.YtkchdhmnomelkaaGreat
