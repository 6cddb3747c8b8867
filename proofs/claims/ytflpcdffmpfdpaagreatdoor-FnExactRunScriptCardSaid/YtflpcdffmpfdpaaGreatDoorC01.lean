/- Joined texts of this proof: EntZ, ConZ, LawExecuteCommand. -/
import Derived.Test.YtflpcdffmpfdpaaGreatDoorB02
import Derived.Test.YtflpcdffmpfdpaaGreatDoorB31
import Derived.Test.YtflpcdffmpfdpaaGreatDoorX01
set_option maxRecDepth 100000
set_option maxHeartbeats 8000000
namespace Go.Proofs.YtflpcdffmpfdpaaGreatDoor
open Go.RowKit
theorem jr9 (A : Option Addr) (n c : Nat) (x : Entrant) (left : Int) (w : World) (hn : n ≤ 9223372036854775807) (hl : 0 ≤ left) (hl' : left ≤ 1048576) :
    Calls Tryz.prog 117 #[.agg #[x.state, x.number, x.start, x.finish, .slice A n c], .int .i64 left] w fun e w' => ∃ l : Int, e = .returned (.int .i64 l) ∧ Below w.heap.size w w' ∧ (l = -1 ∨ 0 ≤ l ∧ l = left - n) := by
  go_enter Tryz.func117, Tryz.ntmps117
  go_wp2_with fail
  have K0 : Below w.heap.size w _ := (Below.refl w.heap.size w).alloc (Nat.le_refl _) (.cells #[x.state, x.number, x.start, x.finish, .slice A n c] 156)
  refine (jsy _ _ c x.card left _ hn hl hl').mono ?_
  rintro e w1 ⟨l1, rfl, b1, rfl | h1⟩
  · go_wp2_with fail
    go_ret
    exact ⟨_, rfl, jaa K0 b1, .inl rfl⟩
  · go_wp2_with fail
    go_ret
    exact ⟨_, rfl, jaa K0 b1, .inr (by omega)⟩
theorem jrw (A : Option Addr) (n c : Nat) (xs : List Entrant) (left : Int) (w : World) (hx : SeesN entrantSh w 0 A n xs) (hk : ∀ x ∈ xs, x.cnt ≤ 9223372036854775807) (hn : n ≤ 9223372036854775807) (hl : 0 ≤ left) (hl' : left ≤ 1048576) :
    Calls Tryz.prog 76 #[.slice A n c, .int .i64 left] w fun e w' => ∃ l : Int, e = .returned (.int .i64 l) ∧ Below w.heap.size w w' ∧ (l = -1 ∨ 0 ≤ l ∧ l = left - n - wtN Entrant.cnt xs) := by
  have hc := hx.count
  by_cases hlt : left - n < 0
  · go_enter Tryz.func76, Tryz.ntmps76
    go_wp2_with fail
    go_ret
    exact ⟨_, rfl, Below.refl _ _, .inl rfl⟩
  · go_enter Tryz.func76, Tryz.ntmps76
    go_wp2_with fail
    go_loopw [1, 5] (fun q v wr => ∃ (k : Nat) (l : Int), k ≤ n ∧ q = .int .i64 l ∧ v = .int .i64 k ∧ 0 ≤ l ∧ Hid (l = left - n - wtN Entrant.cnt (xs.take k)) ∧ l ≤ left ∧ Below w.heap.size w wr) (fun _ v _ => n - (intOf v).toNat)
    case atStart => exact ⟨0, _, Nat.zero_le _, rfl, rfl, by omega, Lib.hid (by simp [wtN]), by omega, Below.refl _ _⟩
    case round =>
      obtain ⟨k, l, hk', rfl, rfl, hl0, ha, hll, hb⟩ := hrel
      by_cases hlk : k < n
      · obtain ⟨b, off, B0, m, cc0, rfl, hkx, c0, c1, c2, c3, c4, hxi⟩ := SeesEntrant.elem (hx.next hb) hlk
        have hm : m = xs[k].cnt := by
          have h2 := hxi.count (by decide) (fun _ => rfl)
          unfold Entrant.cnt
          omega
        have hkk := hk xs[k] (List.getElem_mem hkx)
        have HN := Lib.hid (jsc Entrant.cnt hkx)
        go_wp2_with fail
        refine (jr9 _ _ cc0 xs[k] l _ (by omega) hl0 (by omega)).mono ?_
        rintro e w1 ⟨l1, rfl, b1, rfl | ⟨h1, h2⟩⟩
        · go_wp2_with fail
          go_ret
          exact ⟨_, rfl, jaa hb b1, .inl rfl⟩
        · have HL := Lib.hid h2
          have hll1 : l1 ≤ left := by omega
          clear h2
          go_wp2_with fail
          go_roundw
          case rel => exact ⟨k + 1, l1, by omega, rfl, by go_num, h1, Lib.hid (by rw [HL.out, ha.out, HN.out]; omega), hll1, jaa hb b1⟩
          case measure => simp [intOf]; omega
      · have ha' := Lib.hid (show l = left - n - wtN Entrant.cnt xs by rw [ha.out, List.take_of_length_le (by omega)])
        clear ha
        go_wp2_with fail
        go_ret
        exact ⟨_, rfl, hb, .inr ⟨hl0, ha'.out⟩⟩
theorem jsb (A : Option Addr) (n c lo : Nat) (x : Entrant) (w : World) (hx : Sees w lo 2 A n (x.punches.flatMap Punch.enc)) (hn : n ≤ 1048576) :
    Calls Tryz.prog 130 #[.agg #[x.state, x.number, x.start, x.finish, .slice A n c]] w fun e w' => ∃ B1, e = .returned (.agg #[x.state, x.number, x.start, x.finish, .slice B1 n n]) ∧ Mine w' (In (w.heap.size + 1) w'.heap.size) 188 2 B1 n n (x.punches.flatMap Punch.enc) ∧ Below w.heap.size w w' := by
  go_enter Tryz.func130, Tryz.ntmps130
  go_wp2_with fail
  have K0 : Below w.heap.size w _ := (((Below.refl w.heap.size w).alloc (Nat.le_refl _) (.cells #[x.state, x.number, x.start, x.finish, .slice A n c] 156)).alloc (by simp) (.cells #[.int .i64 0, .int .i64 0, .int .i64 0, .int .i64 0, .slice none 0 0] 108)).alloc (by simp; omega) (.cells #[x.state, .int .i64 0, .int .i64 0, .int .i64 0, .slice none 0 0] 108)
  refine (js0 _ _ c _ x.card _ (hx.next K0) hn).mono ?_
  rintro e w1 ⟨B1, rfl, M0, b1⟩
  dsimp only [Entrant.card] at M0 ⊢
  have K1 := jaa K0 b1
  have z1 : w.heap.size + 1 + 1 + 1 ≤ w1.heap.size := by have := b1.size; simpa using this
  have R1 : Blk w1 (w.heap.size + 1) 108 [.int .i64 0, .int .i64 0, .int .i64 0, .int .i64 0, .slice none 0 0] := ((Blk.at_ (by simp)).alloc _).next b1
  have L1 : Blk w1 (w.heap.size + 1 + 1) 108 [.int .i64 x.state, .int .i64 0, .int .i64 0, .int .i64 0, .slice none 0 0] := (Blk.at_ (by simp)).next b1
  have P1 : Blk w1 w.heap.size 156 [.int .i64 x.state, .int .i64 x.number, .int .i64 x.start, .int .i64 x.finish, .slice A n c] := (((Blk.at_ rfl).alloc _).alloc _).next b1
  have p1 := P1.cell
  have l1 := L1.cell
  have lf1 := L1.frozen
  have r1 := R1.cell
  have rf1 := R1.frozen
  go_wp2_with fail
  have RF := (((((((((R1.far (p := ⟨w.heap.size + 1 + 1, 1, none⟩) (by simp) (.int .i64 x.number)).far (p := ⟨w.heap.size + 1 + 1, 2, none⟩) (by simp) (.int .i64 x.start)).far (p := ⟨w.heap.size + 1 + 1, 3, none⟩) (by simp) (.int .i64 x.finish)).far (p := ⟨w.heap.size + 1 + 1, 4, none⟩) (by simp) (.slice B1 n n)).set_ 0 (.int .i64 x.state)).set_ 1 (.int .i64 x.number)).set_ 2 (.int .i64 x.start)).set_ 3 (.int .i64 x.finish)).set_ 4 (.slice B1 n n))
  have O3 := ((((((((((Only.refl (fun b => b = w.heap.size + 1 ∨ b = w.heap.size + 1 + 1) w1).setCell (p := ⟨w.heap.size + 1 + 1, 1, none⟩) (.inr rfl) (.int .i64 x.number)).setCell (p := ⟨w.heap.size + 1 + 1, 2, none⟩) (.inr rfl) (.int .i64 x.start)).setCell (p := ⟨w.heap.size + 1 + 1, 3, none⟩) (.inr rfl) (.int .i64 x.finish)).setCell (p := ⟨w.heap.size + 1 + 1, 4, none⟩) (.inr rfl) (.slice B1 n n)).setCell (p := ⟨w.heap.size + 1, 0, none⟩) (.inl rfl) (.int .i64 x.state)).setCell (p := ⟨w.heap.size + 1, 1, none⟩) (.inl rfl) (.int .i64 x.number)).setCell (p := ⟨w.heap.size + 1, 2, none⟩) (.inl rfl) (.int .i64 x.start)).setCell (p := ⟨w.heap.size + 1, 3, none⟩) (.inl rfl) (.int .i64 x.finish)).setCell (p := ⟨w.heap.size + 1, 4, none⟩) (.inl rfl) (.slice B1 n n))
  have M1 := M0.only O3 (fun b h1 h2 => by have := h1.1; simp at this; rcases h2 with h2 | h2 <;> omega)
  have zF := O3.size
  refine bodyPost_ret (results_cell_row rfl _ _ (w.heap.size + 1) _ _ (0, 0) _ rfl RF Tryz.underlying108 rfl (by kernel_rfl)) rfl ⟨B1, rfl, M1.wide ?_, ?_⟩
  · intro b hb
    have h1 := hb.1
    have h2 := hb.2
    simp at h1
    exact ⟨by omega, by omega⟩
  · exact K1.trans (O3.below (fun k hk => by rcases hk with hk | hk <;> omega) (by omega))
theorem jrx (A : Option Addr) (n c : Nat) (xs : List Entrant) (w : World) (hx : SeesN entrantSh w 0 A n xs) (hn : n ≤ 1048576) (hi : ∀ x ∈ xs, x.cnt ≤ 1048576) :
    Calls Tryz.prog 89 #[.slice A n c] w fun e w' => ∃ A', e = .returned (.slice A' n n) ∧ MineN entrantSh w' (In w.heap.size w'.heap.size) 108 188 A' n n xs ∧ Below w.heap.size w w' := by
  have hl := hx.count
  obtain ⟨zs, hzs, hmk⟩ := jry (P := Tryz.prog) n Tryz.underlying30 jbd (by omega) (by omega)
  go_enter Tryz.func89, Tryz.ntmps89
  go_wp2_with fail
  have hB := Blk.new w 108 zs
  have hb0 := nB w (.cells zs.toArray 108)
  clear hmk
  go_loopw [4] (fun v wr => ∃ (k : Nat) (cs : List Value) (rs : List (Hd Entrant)), k ≤ n ∧ v = .int .i64 k ∧ Blk wr w.heap.size 108 cs ∧ cs.length = n * 5 ∧ rs.map Hd.x = xs.take k ∧ cs.take (k * 5) = rs.flatMap entrantSh.enc ∧ Inners entrantSh wr (In (w.heap.size + 1) wr.heap.size) 188 rs ∧ Below w.heap.size w wr) (fun v _ => n - (intOf v).toNat)
  case atStart => exact ⟨0, zs, [], Nat.zero_le _, rfl, hB, hzs, rfl, by simp, Inners.nil _, hb0⟩
  case round =>
    obtain ⟨k, cs, rs, hk, rfl, hB, hcl, hrs, hcs, hin, hb⟩ := hrel
    by_cases hlt : k < n
    · obtain ⟨b, off, B0, m, cc0, rfl, hkx, c0, c1, c2, c3, c4, hxi⟩ := SeesEntrant.elem (hx.next hb) hlt
      have hm : m ≤ 1048576 := by
        have h1 := hi xs[k] (List.getElem_mem hkx)
        have h2 := hxi.count (by decide) (fun _ => rfl)
        unfold Entrant.cnt at h1
        omega
      go_wp2_with fail
      refine (jsb _ _ cc0 _ xs[k] _ hxi hm).mono ?_
      rintro e w1 ⟨B1, rfl, o1, hb1⟩
      have hB1 := hB.next hb1
      have hlt4 : k * 5 + 5 ≤ cs.length := by omega
      obtain ⟨v0, s0⟩ : ∃ u, w1.cell? ⟨w.heap.size, k * 5, none⟩ = some u := ⟨_, (hB1.cell _).trans (List.getElem?_eq_getElem (by omega))⟩
      obtain ⟨v1, s1⟩ : ∃ u, w1.cell? ⟨w.heap.size, k * 5 + 1, none⟩ = some u := ⟨_, (hB1.cell _).trans (List.getElem?_eq_getElem (by omega))⟩
      obtain ⟨v2, s2⟩ : ∃ u, w1.cell? ⟨w.heap.size, k * 5 + 2, none⟩ = some u := ⟨_, (hB1.cell _).trans (List.getElem?_eq_getElem (by omega))⟩
      obtain ⟨v3, s3⟩ : ∃ u, w1.cell? ⟨w.heap.size, k * 5 + 3, none⟩ = some u := ⟨_, (hB1.cell _).trans (List.getElem?_eq_getElem (by omega))⟩
      obtain ⟨v4, s4⟩ : ∃ u, w1.cell? ⟨w.heap.size, k * 5 + 4, none⟩ = some u := ⟨_, (hB1.cell _).trans (List.getElem?_eq_getElem (by omega))⟩
      have hf := hB1.frozen
      have hz1 := hb1.size
      have hzg := hB.lt
      go_wp2_with fail
      go_roundw
      case rel =>
        have hB2 := hB1.many (entrantSh.enc ⟨xs[k], B1, m, m⟩) (k * 5)
        have O2 := ((((((Only.refl (fun b => b = w.heap.size) w1).setCell (p := ⟨w.heap.size, k * 5, none⟩) rfl (.int .i64 xs[k].state)).setCell (p := ⟨w.heap.size, k * 5 + 1, none⟩) rfl (.int .i64 xs[k].number)).setCell (p := ⟨w.heap.size, k * 5 + 2, none⟩) rfl (.int .i64 xs[k].start)).setCell (p := ⟨w.heap.size, k * 5 + 3, none⟩) rfl (.int .i64 xs[k].finish)).setCell (p := ⟨w.heap.size, k * 5 + 4, none⟩) rfl (.slice B1 m m))
        have h3 := ((hin.next hb1).snoc o1 (fun b h1 h2 => by have := h1.2; have := h2.1; omega)).only O2 (fun b h1 h2 => by rcases h1 with h1 | h1 <;> (have := h1.1; omega))
        refine ⟨k + 1, _, rs ++ [⟨xs[k], B1, m, m⟩], by omega, by go_num, hB2, (jfg _ _ _).trans hcl, ?_, ?_, h3.wide ?_, jr1 (Nat.le_refl _) (entrantSh.enc ⟨xs[k], B1, m, m⟩) (jaa hb hb1) (k * 5)⟩
        · rw [List.map_append, hrs, List.take_succ_eq_append_getElem hkx]; rfl
        · have := jsi (entrantSh.enc ⟨xs[k], B1, m, m⟩) cs (k * 5) (by rw [entrantSh.len]; exact hlt4)
          rw [entrantSh.len, hcs] at this
          rw [List.flatMap_append, Nat.succ_mul]
          exact this.trans (by simp)
        · intro b hb
          have e1 := O2.size
          rcases hb with hb | hb
          · exact ⟨hb.1, Nat.lt_of_lt_of_le hb.2 (Nat.le_trans hz1 e1)⟩
          · exact ⟨by have := hb.1; omega, Nat.lt_of_lt_of_le hb.2 e1⟩
      case measure => simp [intOf]; omega
    · obtain rfl : k = n := by omega
      go_wp2_with fail
      go_ret
      rw [List.take_of_length_le (by omega)] at hrs
      have hsz := hb.size
      have hlt := hB.lt
      exact ⟨_, rfl, ⟨rs, hrs, ⟨jci (Nat.zero_le _) hB hcl (Nat.le_refl _) (by simp only [maxLen]; omega) hcs, fun b hb => by simp only [jaj, Value.ownBlock, Option.some.injEq] at hb; subst hb; exact ⟨Nat.le_refl _, hlt⟩⟩, hin.wide fun b hb => ⟨by have := hb.1; omega, hb.2⟩, fun r hr b h1 h2 => by
        have h3 := ((hin.each r hr).top b h1).1
        simp only [jaj, Value.ownBlock, Option.some.injEq] at h2
        omega⟩, hb⟩
theorem jsz (t : Int) (b : Bool) (A : Option Addr) (n c : Nat) (xs : List Entrant) (left : Int) (w : World) (hx : SeesN entrantSh w 0 A n xs) (hk : ∀ x ∈ xs, x.cnt ≤ 9223372036854775807) (hn : n ≤ 9223372036854775807) (hl : 0 ≤ left) (hl' : left ≤ 1048576) :
    Calls Tryz.prog 40 #[.agg #[t, b, .slice A n c], .int .i64 left] w fun e w' => ∃ q : Int, e = .returned (.int .i64 q) ∧ Below w.heap.size w w' ∧ (q = -1 ∨ 0 ≤ q ∧ q = left - n - wtN Entrant.cnt xs) := by
  go_enter Tryz.func40, Tryz.ntmps40
  go_wp2_with fail
  have K0 : Below w.heap.size w _ := (Below.refl w.heap.size w).alloc (Nat.le_refl _) (.cells #[t, b, .slice A n c] 24)
  refine (jrw A n c xs left _ (hx.next K0) hk hn hl hl').mono ?_
  rintro e w1 ⟨q, rfl, b1, rfl | ⟨h1, h2⟩⟩
  · go_wp2_with fail
    go_ret
    exact ⟨_, rfl, jaa K0 b1, .inl rfl⟩
  · have H2 := Lib.hid h2
    clear h2
    go_wp2_with fail
    go_ret
    exact ⟨_, rfl, jaa K0 b1, .inr ⟨h1, H2.out⟩⟩
theorem jr8 (t : Int) (b : Bool) (l : Log) (A : Option Addr) (n c : Nat) (xs : List Entrant) (left : Int) (w : World) (hx : SeesN entrantSh w 0 A n xs) (hk : ∀ x ∈ xs, x.cnt ≤ 9223372036854775807) (hn : n ≤ 9223372036854775807) (hu : l.upto 9223372036854775807) (hl : 0 ≤ left) (hl' : left ≤ 1048576) :
    Calls Tryz.prog 9 #[.agg #[t, b, .slice A n c, l.durable, l.pending, l.count], .int .i64 left] w fun e w' => ∃ q : Int, e = .returned (.int .i64 q) ∧ Below w.heap.size w w' ∧ (q = -1 ∨ 0 ≤ q ∧ n ≤ 1048576 ∧ wtN Entrant.cnt xs ≤ 1048576 ∧ l.upto 1048576) := by
  go_enter Tryz.func9, Tryz.ntmps9
  go_wp2_with fail
  have K0 := nB w (.cells #[t, b, .slice A n c, l.durable, l.pending, l.count] 28)
  have B0 := nP w [t, b, .slice A n c, l.durable, l.pending, l.count] 28
  refine (jsz t b A n c xs left _ (hx.next K0) hk hn hl hl').mono ?_
  rintro e w1 ⟨q, rfl, b1, rfl | ⟨h1, h2⟩⟩
  · go_wp2_with fail
    go_ret
    exact ⟨_, rfl, jaa K0 b1, .inl rfl⟩
  · have hq : q ≤ 1048576 := by omega
    have H2 := Lib.hid (show n ≤ 1048576 ∧ wtN Entrant.cnt xs ≤ 1048576 by omega)
    clear h2
    have K1 := jaa K0 b1
    replace B0 := B0.next b1
    have cm := B0.cell
    go_wp2_with fail
    refine (jta l q w1 hu h1 hq).mono ?_
    rintro e w2 ⟨p, rfl, b2, rfl | ⟨h3, h4, h5⟩⟩
    · go_wp2_with fail
      go_ret
      exact ⟨_, rfl, jaa K1 b2, .inl rfl⟩
    · have H5 := Lib.hid h5
      clear h5
      go_wp2_with fail
      go_ret
      exact ⟨_, rfl, jaa K1 b2, .inr ⟨h3, H2.out.1, H2.out.2, H5.out⟩⟩
theorem js1 (t : Int) (b : Bool) (A : Option Addr) (n c : Nat) (xs : List Entrant) (w : World) (hx : SeesN entrantSh w 0 A n xs) (hn : n ≤ 1048576) (hi : ∀ x ∈ xs, x.cnt ≤ 1048576) :
    Calls Tryz.prog 46 #[.agg #[t, b, .slice A n c]] w fun e w' => ∃ A1, e = .returned (.agg #[t, b, .slice A1 n n]) ∧ MineN entrantSh w' (In (w.heap.size + 1) w'.heap.size) 108 188 A1 n n xs ∧ Below w.heap.size w w' := by
  go_enter Tryz.func46, Tryz.ntmps46
  go_wp2_with fail
  have K0 : Below w.heap.size w _ := (((Below.refl w.heap.size w).alloc (Nat.le_refl _) (.cells #[t, b, .slice A n c] 24)).alloc (by simp) (.cells #[.int .i64 0, false, .slice none 0 0] 32)).alloc (by simp; omega) (.cells #[t, b, .slice none 0 0] 32)
  refine (jrx A n c xs _ (hx.next K0) hn hi).mono ?_
  rintro e w1 ⟨A1, rfl, M0, b1⟩
  have K1 := jaa K0 b1
  have z1 : w.heap.size + 1 + 1 + 1 ≤ w1.heap.size := by have := b1.size; simpa using this
  have R1 : Blk w1 (w.heap.size + 1) 32 [.int .i64 0, .bool false, .slice none 0 0] := ((Blk.at_ (by simp)).alloc _).next b1
  have L1 : Blk w1 (w.heap.size + 1 + 1) 32 [.int .i64 t, .bool b, .slice none 0 0] := (Blk.at_ (by simp)).next b1
  have P1 : Blk w1 w.heap.size 24 [.int .i64 t, .bool b, .slice A n c] := (((Blk.at_ rfl).alloc _).alloc _).next b1
  have p1 := P1.cell
  have l1 := L1.cell
  have lf1 := L1.frozen
  have r1 := R1.cell
  have rf1 := R1.frozen
  go_wp2_with fail
  have RF := ((((R1.far (p := ⟨w.heap.size + 1 + 1, 2, none⟩) (by simp) (.slice A1 n n)).set_ 0 (.int .i64 t)).set_ 1 (.bool b)).set_ 2 (.slice A1 n n))
  have O3 := (((((Only.refl (fun b => b = w.heap.size + 1 ∨ b = w.heap.size + 1 + 1) w1).setCell (p := ⟨w.heap.size + 1 + 1, 2, none⟩) (.inr rfl) (.slice A1 n n)).setCell (p := ⟨w.heap.size + 1, 0, none⟩) (.inl rfl) (.int .i64 t)).setCell (p := ⟨w.heap.size + 1, 1, none⟩) (.inl rfl) (.bool b)).setCell (p := ⟨w.heap.size + 1, 2, none⟩) (.inl rfl) (.slice A1 n n))
  have M1 := M0.only O3 (fun b h1 h2 => by have := h1.1; simp at this; rcases h2 with h2 | h2 <;> omega)
  have zF := O3.size
  refine bodyPost_ret (results_cell_row rfl _ _ (w.heap.size + 1) _ _ (0, 0) _ rfl RF Tryz.underlying32 rfl (by kernel_rfl)) rfl ⟨A1, rfl, M1.wide ?_, ?_⟩
  · intro b hb
    have h1 := hb.1
    have h2 := hb.2
    simp at h1
    exact ⟨by omega, by omega⟩
  · exact K1.trans (O3.below (fun k hk => by rcases hk with hk | hk <;> omega) (by omega))
theorem jq3 (t : Int) (b : Bool) (l : Log) (A : Option Addr) (n c : Nat) (xs : List Entrant) (w : World) (hx : SeesN entrantSh w 0 A n xs) (hn : n ≤ 1048576) (hi : ∀ x ∈ xs, x.cnt ≤ 1048576) :
    Calls Tryz.prog 11 #[.agg #[t, b, .slice A n c, l.durable, l.pending, l.count]] w fun e w' => ∃ A1, e = .returned (.agg #[t, b, .slice A1 n n, l.durable, l.pending, l.count]) ∧ MineN entrantSh w' (In (w.heap.size + 1) w'.heap.size) 108 188 A1 n n xs ∧ Below w.heap.size w w' := by
  go_enter Tryz.func11, Tryz.ntmps11
  go_wp2_with fail
  have K0 : Below w.heap.size w _ := (((Below.refl w.heap.size w).alloc (Nat.le_refl _) (.cells #[t, b, .slice A n c, l.durable, l.pending, l.count] 28)).alloc (by simp) (.cells #[.int .i64 0, false, .slice none 0 0, .string ⟨#[]⟩, .string ⟨#[]⟩, .int .i64 0] 35)).alloc (by simp; omega) (.cells #[.int .i64 0, false, .slice none 0 0, .string ⟨#[]⟩, .string ⟨#[]⟩, .int .i64 0] 35)
  refine (js1 t b A n c xs _ (hx.next K0) hn hi).mono ?_
  rintro e w1 ⟨A1, rfl, M0, b1⟩
  have K1 := jaa K0 b1
  have z1 : w.heap.size + 1 + 1 + 1 ≤ w1.heap.size := by have := b1.size; simpa using this
  have R1 : Blk w1 (w.heap.size + 1) 35 [.int .i64 0, .bool false, .slice none 0 0, .string ⟨#[]⟩, .string ⟨#[]⟩, .int .i64 0] := ((Blk.at_ (by simp)).alloc _).next b1
  have L1 : Blk w1 (w.heap.size + 1 + 1) 35 [.int .i64 0, .bool false, .slice none 0 0, .string ⟨#[]⟩, .string ⟨#[]⟩, .int .i64 0] := (Blk.at_ (by simp)).next b1
  have P1 : Blk w1 w.heap.size 28 [.int .i64 t, .bool b, .slice A n c, .string l.durable, .string l.pending, .int .i64 l.count] := (((Blk.at_ rfl).alloc _).alloc _).next b1
  replace M0 := M0.wide (T := In (w.heap.size + 1 + 1 + 1) w1.heap.size) (fun b hb => by have h1 := hb.1; have h2 := hb.2; simp at h1; exact ⟨by omega, h2⟩)
  have p1 := P1.cell
  have l1 := L1.cell
  have lf1 := L1.frozen
  clear K0 b1
  go_wp2_with fail
  have O2 := ((((Only.refl (fun b => b = w.heap.size + 1 + 1) w1).setCell (p := ⟨w.heap.size + 1 + 1, 0, none⟩) rfl (.int .i64 t)).setCell (p := ⟨w.heap.size + 1 + 1, 1, none⟩) rfl (.bool b)).setCell (p := ⟨w.heap.size + 1 + 1, 2, none⟩) rfl (.slice A1 n n))
  have L2 := (((L1.set_ 0 (.int .i64 t)).set_ 1 (.bool b)).set_ 2 (.slice A1 n n))
  have R2 := R1.only O2 (fun (h : _ = _) => by omega)
  have P2 := P1.only O2 (fun (h : _ = _) => by omega)
  have M2 := M0.only O2 (fun b h1 (h2 : b = _) => by have := h1.1; omega)
  have K2 := K1.trans (O2.below (fun k (hk : k = w.heap.size + 1 + 1) => by omega) (by omega))
  have z2 := O2.size
  clear O2 L1 R1 P1 M0 K1 p1 l1 lf1
  generalize ((w1.setCell _ _).setCell _ _).setCell _ _ = w2 at *
  refine (jtb l.durable l.pending l.count w2).mono ?_
  rintro e w3 ⟨rfl, b2⟩
  have z3 := b2.size
  replace K2 := jaa K2 b2
  replace L2 := L2.next b2
  replace R2 := R2.next b2
  replace M2 := M2.next b2
  replace P2 := P2.next b2
  have p1 := P2.cell
  have l1 := L2.cell
  have lf1 := L2.frozen
  have r1 := R2.cell
  have rf1 := R2.frozen
  clear b2
  go_wp2_with fail
  have RF := (((((((((R2.far (p := ⟨w.heap.size + 1 + 1, 3, none⟩) (by simp) (.string l.durable)).far (p := ⟨w.heap.size + 1 + 1, 4, none⟩) (by simp) (.string l.pending)).far (p := ⟨w.heap.size + 1 + 1, 5, none⟩) (by simp) (.int .i64 l.count)).set_ 0 (.int .i64 t)).set_ 1 (.bool b)).set_ 2 (.slice A1 n n)).set_ 3 (.string l.durable)).set_ 4 (.string l.pending)).set_ 5 (.int .i64 l.count))
  have O3 := ((((((((((Only.refl (fun b => b = w.heap.size + 1 ∨ b = w.heap.size + 1 + 1) w3).setCell (p := ⟨w.heap.size + 1 + 1, 3, none⟩) (.inr rfl) (.string l.durable)).setCell (p := ⟨w.heap.size + 1 + 1, 4, none⟩) (.inr rfl) (.string l.pending)).setCell (p := ⟨w.heap.size + 1 + 1, 5, none⟩) (.inr rfl) (.int .i64 l.count)).setCell (p := ⟨w.heap.size + 1, 0, none⟩) (.inl rfl) (.int .i64 t)).setCell (p := ⟨w.heap.size + 1, 1, none⟩) (.inl rfl) (.bool b)).setCell (p := ⟨w.heap.size + 1, 2, none⟩) (.inl rfl) (.slice A1 n n)).setCell (p := ⟨w.heap.size + 1, 3, none⟩) (.inl rfl) (.string l.durable)).setCell (p := ⟨w.heap.size + 1, 4, none⟩) (.inl rfl) (.string l.pending)).setCell (p := ⟨w.heap.size + 1, 5, none⟩) (.inl rfl) (.int .i64 l.count))
  have M1 := M2.only O3 (fun b h1 h2 => by have := h1.1; rcases h2 with h2 | h2 <;> omega)
  have zF := O3.size
  refine bodyPost_ret (results_cell_row rfl _ _ (w.heap.size + 1) _ _ (0, 0) _ rfl RF Tryz.underlying35 rfl (by kernel_rfl)) rfl ⟨A1, rfl, M1.wide ?_, ?_⟩
  · intro b hb
    have h1 := hb.1
    have h2 := hb.2
    exact ⟨by omega, by omega⟩
  · exact K2.trans (O3.below (fun k hk => by rcases hk with hk | hk <;> omega) (by omega))
theorem jtd : ∀ xs : List Entrant, wtN Entrant.wt xs = 2 * wtN Entrant.cnt xs + 4 * xs.length
  | [] => rfl
  | x :: r => by
    show Entrant.wt x + wtN Entrant.wt r = 2 * (Entrant.cnt x + wtN Entrant.cnt r) + 4 * (r.length + 1)
    rw [jtd r]
    show x.punches.length * 2 + 4 + _ = 2 * (x.punches.length + _) + _
    omega
theorem jtk : ∀ (m : Nat) (xs : List Entrant), (∀ x ∈ xs, x.cnt ≤ m) → wtN Entrant.cnt xs ≤ m * xs.length
  | _, [], _ => Nat.zero_le _
  | m, x :: r, h => by
    show Entrant.cnt x + wtN Entrant.cnt r ≤ m * (r.length + 1)
    have h1 := h x List.mem_cons_self
    have h2 := jtk m r (fun y hy => h y (List.mem_cons_of_mem _ hy))
    rw [Nat.mul_add, Nat.mul_one]
    omega
theorem jrb {r : RaceV} (h : ja0 r = true) : r.field.length ≤ 1048576 ∧ (∀ x ∈ r.field, x.cnt ≤ 1048576) ∧ wtN Entrant.wt r.field ≤ 100000000 := by
  have h8 := (jfx h).2
  have hc := jtk 12 r.field (fun x hx => (jco h x hx).1)
  have hw := jtd r.field
  have hm : 12 * r.field.length ≤ 12 * 8 := Nat.mul_le_mul_left 12 h8
  exact ⟨by omega, jb2 h, by omega⟩
theorem jtf {r : RaceV} {l : Log} {line : ByteArray} : (exM r l line).race = r ∨ ja0 (exM r l line).race = true := by
  unfold exM
  by_cases h1 : (ja0 r && ja9 l) = false
  · rw [if_pos h1]
    exact Or.inl rfl
  rw [if_neg h1]
  by_cases h2 : jgb ⟨line, ⟨#[]⟩⟩ = false
  · rw [if_pos h2]
    exact Or.inl rfl
  rw [if_neg h2]
  by_cases h3 : l.count = 60
  · rw [if_pos h3]
    exact Or.inl rfl
  rw [if_neg h3]
  refine Or.inr (jox ?_)
  cases hg : ja0 r with
  | true => rfl
  | false => exact absurd (by rw [hg]; rfl) h1
end Go.Proofs.YtflpcdffmpfdpaaGreatDoor
