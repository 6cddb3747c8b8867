/- Joined texts of this proof: EntZ, ConZ, LawExecuteCommand. -/
import Derived.Test.YtflpcdffmpfdpaaGreatDoorB02
import Derived.Test.YtflpcdffmpfdpaaGreatDoorB31
import Derived.Test.YtflpcdffmpfdpaaGreatDoorT01
import Derived.Test.YtflpcdffmpfdpaaGreatDoorT02
set_option maxRecDepth 100000
set_option maxHeartbeats 8000000
namespace Go.Proofs.YtflpcdffmpfdpaaGreatDoor
open Go.RowKit
theorem jrt (A : Option Addr) (n c : Nat) (x : Entrant) (left : Int) (w : World) (hn : n ≤ 9223372036854775807) (hl : 0 ≤ left) (hl' : left ≤ 1048576) :
  Calls Tryz.prog 117 #[.agg #[x.state, x.number, x.start, x.finish, .slice A n c], .int .i64 left] w fun e w' => ∃ l : Int, e = .returned (.int .i64 l) ∧ Below w.heap.size w w' ∧ (l = -1 ∨ 0 ≤ l ∧ l = left - n) := by
 go_enter Tryz.func117, Tryz.ntmps117
 go_wp2_with fail
 have K0 : Below w.heap.size w _ := (Below.refl w.heap.size w).alloc (Nat.le_refl _) (.cells #[x.state, x.number, x.start, x.finish, .slice A n c] 156)
 refine (jsg _ _ c x.card left _ hn hl hl').mono ?_
 rintro e w1 ⟨l1, rfl, b1, rfl | h1⟩
 ·go_wp2_with fail
  go_ret
  exact ⟨_, rfl, jaa K0 b1, .inl rfl⟩
 ·go_wp2_with fail
  go_ret
  exact ⟨_, rfl, jaa K0 b1, .inr (by omega)⟩
theorem jrk (A : Option Addr) (n c : Nat) (xs : List Entrant) (left : Int) (w : World) (hx : SeesN entrantSh w 0 A n xs) (hk : ∀ x ∈ xs, x.cnt ≤ 9223372036854775807) (hn : n ≤ 9223372036854775807) (hl : 0 ≤ left) (hl' : left ≤ 1048576) :
  Calls Tryz.prog 76 #[.slice A n c, .int .i64 left] w fun e w' => ∃ l : Int, e = .returned (.int .i64 l) ∧ Below w.heap.size w w' ∧ (l = -1 ∨ 0 ≤ l ∧ l = left - n - wtN Entrant.cnt xs) := by
 have hc := hx.count
 by_cases hlt : left - n < 0
 ·go_enter Tryz.func76, Tryz.ntmps76
  go_wp2_with fail
  go_ret
  exact ⟨_, rfl, Below.refl _ _, .inl rfl⟩
 ·go_enter Tryz.func76, Tryz.ntmps76
  go_wp2_with fail
  go_loopw [1, 5] (fun q v wr => ∃ (k : Nat) (l : Int), k ≤ n ∧ q = .int .i64 l ∧ v = .int .i64 k ∧ 0 ≤ l ∧ Hid (l = left - n - wtN Entrant.cnt (xs.take k)) ∧ l ≤ left ∧ Below w.heap.size w wr) (fun _ v _ => n - (intOf v).toNat)
  case atStart => exact ⟨0, _, Nat.zero_le _, rfl, rfl, by omega, Lib.hid (by simp [wtN]), by omega, Below.refl _ _⟩
  case round =>
   obtain ⟨k, l, hk', rfl, rfl, hl0, ha, hll, hb⟩ := hrel
   by_cases hlk : k < n
   ·obtain ⟨b, off, B0, m, cc0, rfl, hkx, c0, c1, c2, c3, c4, hxi⟩ := SeesEntrant.elem (hx.next hb) hlk
    have hm : m = xs[k].cnt := by
     have h2 := hxi.count (by decide) (fun _ => rfl)
     unfold Entrant.cnt
     omega
    have hkk := hk xs[k] (List.getElem_mem hkx)
    have HN := Lib.hid (jrb Entrant.cnt hkx)
    go_wp2_with fail
    refine (jrt _ _ cc0 xs[k] l _ (by omega) hl0 (by omega)).mono ?_
    rintro e w1 ⟨l1, rfl, b1, rfl | ⟨h1, h2⟩⟩
    ·go_wp2_with fail
     go_ret
     exact ⟨_, rfl, jaa hb b1, .inl rfl⟩
    ·have HL := Lib.hid h2
     have hll1 : l1 ≤ left := by omega
     clear h2
     go_wp2_with fail
     go_roundw
     case rel => exact ⟨k + 1, l1, by omega, rfl, by go_num, h1, Lib.hid (by rw [HL.out, ha.out, HN.out]; omega), hll1, jaa hb b1⟩
     case measure => simp [intOf]; omega
   ·have ha' := Lib.hid (show l = left - n - wtN Entrant.cnt xs by rw [ha.out, List.take_of_length_le (by omega)])
    clear ha
    go_wp2_with fail
    go_ret
    exact ⟨_, rfl, hb, .inr ⟨hl0, ha'.out⟩⟩
theorem jrv (A : Option Addr) (n c lo : Nat) (x : Entrant) (w : World) (hx : Sees w lo 2 A n (x.punches.flatMap Punch.enc)) (hn : n ≤ 1048576) :
  Calls Tryz.prog 130 #[.agg #[x.state, x.number, x.start, x.finish, .slice A n c]] w fun e w' => ∃ B1, e = .returned (.agg #[x.state, x.number, x.start, x.finish, .slice B1 n n]) ∧ Mine w' (In (w.heap.size + 1) w'.heap.size) 188 2 B1 n n (x.punches.flatMap Punch.enc) ∧ Below w.heap.size w w' := by
 go_enter Tryz.func130, Tryz.ntmps130
 go_wp2_with fail
 have K0 : Below w.heap.size w _ := (((Below.refl w.heap.size w).alloc (Nat.le_refl _) (.cells #[x.state, x.number, x.start, x.finish, .slice A n c] 156)).alloc (by simp) (.cells #[.int .i64 0, .int .i64 0, .int .i64 0, .int .i64 0, .slice none 0 0] 108)).alloc (by simp; omega) (.cells #[x.state, .int .i64 0, .int .i64 0, .int .i64 0, .slice none 0 0] 108)
 refine (jsi _ _ c _ x.card _ (hx.next K0) hn).mono ?_
 rintro e w1 ⟨B1, rfl, M0, b1⟩
 dsimp only [Entrant.card] at M0 ⊢
 have K1 := jaa K0 b1
 have z1 : w.heap.size + 1 + 1 + 1 ≤ w1.heap.size := by have := b1.size; simpa using this
 have R1 : Blk w1 (w.heap.size + 1) 108 [.int .i64 0, .int .i64 0, .int .i64 0, .int .i64 0, .slice none 0 0] := ((Blk.at_ (by simp)).alloc _).next b1
 have L1 : Blk w1 (w.heap.size + 1 + 1) 108 [.int .i64 x.state, .int .i64 0, .int .i64 0, .int .i64 0, .slice none 0 0] := (Blk.at_ (by simp)).next b1
 have P1 : Blk w1 w.heap.size 156 [.int .i64 x.state, .int .i64 x.number, .int .i64 x.start, .int .i64 x.finish, .slice A n c] := (((Blk.at_ rfl).alloc _).alloc _).next b1
 have p1 := P1.cell
 have l1 := L1.cell
 have lf1 := L1.frozen
 have r1 := R1.cell
 have rf1 := R1.frozen
 go_wp2_with fail
 have RF := (((((((((R1.far (p := ⟨w.heap.size + 1 + 1, 1, none⟩) (by simp) (.int .i64 x.number)).far (p := ⟨w.heap.size + 1 + 1, 2, none⟩) (by simp) (.int .i64 x.start)).far (p := ⟨w.heap.size + 1 + 1, 3, none⟩) (by simp) (.int .i64 x.finish)).far (p := ⟨w.heap.size + 1 + 1, 4, none⟩) (by simp) (.slice B1 n n)).set_ 0 (.int .i64 x.state)).set_ 1 (.int .i64 x.number)).set_ 2 (.int .i64 x.start)).set_ 3 (.int .i64 x.finish)).set_ 4 (.slice B1 n n))
 have O3 := ((((((((((Only.refl (fun b => b = w.heap.size + 1 ∨ b = w.heap.size + 1 + 1) w1).setCell (p := ⟨w.heap.size + 1 + 1, 1, none⟩) (.inr rfl) (.int .i64 x.number)).setCell (p := ⟨w.heap.size + 1 + 1, 2, none⟩) (.inr rfl) (.int .i64 x.start)).setCell (p := ⟨w.heap.size + 1 + 1, 3, none⟩) (.inr rfl) (.int .i64 x.finish)).setCell (p := ⟨w.heap.size + 1 + 1, 4, none⟩) (.inr rfl) (.slice B1 n n)).setCell (p := ⟨w.heap.size + 1, 0, none⟩) (.inl rfl) (.int .i64 x.state)).setCell (p := ⟨w.heap.size + 1, 1, none⟩) (.inl rfl) (.int .i64 x.number)).setCell (p := ⟨w.heap.size + 1, 2, none⟩) (.inl rfl) (.int .i64 x.start)).setCell (p := ⟨w.heap.size + 1, 3, none⟩) (.inl rfl) (.int .i64 x.finish)).setCell (p := ⟨w.heap.size + 1, 4, none⟩) (.inl rfl) (.slice B1 n n))
 have M1 := M0.only O3 (fun b h1 h2 => by have := h1.1; simp at this; rcases h2 with h2 | h2 <;> omega)
 have zF := O3.size
 refine bodyPost_ret (results_cell_row rfl _ _ (w.heap.size + 1) _ _ (0, 0) _ rfl RF Tryz.underlying108 rfl (by kernel_rfl)) rfl ⟨B1, rfl, M1.wide ?_, ?_⟩
 ·intro b hb
  have h1 := hb.1
  have h2 := hb.2
  simp at h1
  exact ⟨by omega, by omega⟩
 ·exact K1.trans (O3.below (fun k hk => by rcases hk with hk | hk <;> omega) (by omega))
theorem jrl (A : Option Addr) (n c : Nat) (xs : List Entrant) (w : World) (hx : SeesN entrantSh w 0 A n xs) (hn : n ≤ 1048576) (hi : ∀ x ∈ xs, x.cnt ≤ 1048576) :
  Calls Tryz.prog 89 #[.slice A n c] w fun e w' => ∃ A', e = .returned (.slice A' n n) ∧ MineN entrantSh w' (In w.heap.size w'.heap.size) 108 188 A' n n xs ∧ Below w.heap.size w w' := by
 have hl := hx.count
 obtain ⟨zs, hzs, hmk⟩ := jrm (P := Tryz.prog) n Tryz.underlying30 jbd (by omega) (by omega)
 go_enter Tryz.func89, Tryz.ntmps89
 go_wp2_with fail
 have hB := Blk.new w 108 zs
 have hb0 := nB w (.cells zs.toArray 108)
 clear hmk
 go_loopw [4] (fun v wr => ∃ (k : Nat) (cs : List Value) (rs : List (Hd Entrant)), k ≤ n ∧ v = .int .i64 k ∧ Blk wr w.heap.size 108 cs ∧ cs.length = n * 5 ∧ rs.map Hd.x = xs.take k ∧ cs.take (k * 5) = rs.flatMap entrantSh.enc ∧ Inners entrantSh wr (In (w.heap.size + 1) wr.heap.size) 188 rs ∧ Below w.heap.size w wr) (fun v _ => n - (intOf v).toNat)
 case atStart => exact ⟨0, zs, [], Nat.zero_le _, rfl, hB, hzs, rfl, by simp, Inners.nil _, hb0⟩
 case round =>
  obtain ⟨k, cs, rs, hk, rfl, hB, hcl, hrs, hcs, hin, hb⟩ := hrel
  by_cases hlt : k < n
  ·obtain ⟨b, off, B0, m, cc0, rfl, hkx, c0, c1, c2, c3, c4, hxi⟩ := SeesEntrant.elem (hx.next hb) hlt
   have hm : m ≤ 1048576 := by
    have h1 := hi xs[k] (List.getElem_mem hkx)
    have h2 := hxi.count (by decide) (fun _ => rfl)
    unfold Entrant.cnt at h1
    omega
   go_wp2_with fail
   refine (jrv _ _ cc0 _ xs[k] _ hxi hm).mono ?_
   rintro e w1 ⟨B1, rfl, o1, hb1⟩
   have hB1 := hB.next hb1
   have hlt4 : k * 5 + 5 ≤ cs.length := by omega
   obtain ⟨v0, s0⟩ : ∃ u, w1.cell? ⟨w.heap.size, k * 5, none⟩ = some u := ⟨_, (hB1.cell _).trans (List.getElem?_eq_getElem (by omega))⟩
   obtain ⟨v1, s1⟩ : ∃ u, w1.cell? ⟨w.heap.size, k * 5 + 1, none⟩ = some u := ⟨_, (hB1.cell _).trans (List.getElem?_eq_getElem (by omega))⟩
   obtain ⟨v2, s2⟩ : ∃ u, w1.cell? ⟨w.heap.size, k * 5 + 2, none⟩ = some u := ⟨_, (hB1.cell _).trans (List.getElem?_eq_getElem (by omega))⟩
   obtain ⟨v3, s3⟩ : ∃ u, w1.cell? ⟨w.heap.size, k * 5 + 3, none⟩ = some u := ⟨_, (hB1.cell _).trans (List.getElem?_eq_getElem (by omega))⟩
   obtain ⟨v4, s4⟩ : ∃ u, w1.cell? ⟨w.heap.size, k * 5 + 4, none⟩ = some u := ⟨_, (hB1.cell _).trans (List.getElem?_eq_getElem (by omega))⟩
   have hf := hB1.frozen
   have hz1 := hb1.size
   have hzg := hB.lt
   go_wp2_with fail
   go_roundw
   case rel =>
    have hB2 := hB1.many (entrantSh.enc ⟨xs[k], B1, m, m⟩) (k * 5)
    have O2 := ((((((Only.refl (fun b => b = w.heap.size) w1).setCell (p := ⟨w.heap.size, k * 5, none⟩) rfl (.int .i64 xs[k].state)).setCell (p := ⟨w.heap.size, k * 5 + 1, none⟩) rfl (.int .i64 xs[k].number)).setCell (p := ⟨w.heap.size, k * 5 + 2, none⟩) rfl (.int .i64 xs[k].start)).setCell (p := ⟨w.heap.size, k * 5 + 3, none⟩) rfl (.int .i64 xs[k].finish)).setCell (p := ⟨w.heap.size, k * 5 + 4, none⟩) rfl (.slice B1 m m))
    have h3 := ((hin.next hb1).snoc o1 (fun b h1 h2 => by have := h1.2; have := h2.1; omega)).only O2 (fun b h1 h2 => by rcases h1 with h1 | h1 <;> (have := h1.1; omega))
    refine ⟨k + 1, _, rs ++ [⟨xs[k], B1, m, m⟩], by omega, by go_num, hB2, (jfg _ _ _).trans hcl, ?_, ?_, h3.wide ?_, jro (Nat.le_refl _) (entrantSh.enc ⟨xs[k], B1, m, m⟩) (jaa hb hb1) (k * 5)⟩
    ·rw [List.map_append, hrs, List.take_succ_eq_append_getElem hkx]; rfl
    ·have := jr2 (entrantSh.enc ⟨xs[k], B1, m, m⟩) cs (k * 5) (by rw [entrantSh.len]; exact hlt4)
     rw [entrantSh.len, hcs] at this
     rw [List.flatMap_append, Nat.succ_mul]
     exact this.trans (by simp)
    ·intro b hb
     have e1 := O2.size
     rcases hb with hb | hb
     ·exact ⟨hb.1, Nat.lt_of_lt_of_le hb.2 (Nat.le_trans hz1 e1)⟩
     ·exact ⟨by have := hb.1; omega, Nat.lt_of_lt_of_le hb.2 e1⟩
   case measure => simp [intOf]; omega
  ·obtain rfl : k = n := by omega
   go_wp2_with fail
   go_ret
   rw [List.take_of_length_le (by omega)] at hrs
   have hsz := hb.size
   have hlt := hB.lt
   exact ⟨_, rfl, ⟨rs, hrs, ⟨jci (Nat.zero_le _) hB hcl (Nat.le_refl _) (by simp only [maxLen]; omega) hcs, fun b hb => by simp only [jaj, Value.ownBlock, Option.some.injEq] at hb; subst hb; exact ⟨Nat.le_refl _, hlt⟩⟩, hin.wide fun b hb => ⟨by have := hb.1; omega, hb.2⟩, fun r hr b h1 h2 => by
    have h3 := ((hin.each r hr).top b h1).1
    simp only [jaj, Value.ownBlock, Option.some.injEq] at h2
    omega⟩, hb⟩
theorem jsh (t : Int) (b : Bool) (A : Option Addr) (n c : Nat) (xs : List Entrant) (left : Int) (w : World) (hx : SeesN entrantSh w 0 A n xs) (hk : ∀ x ∈ xs, x.cnt ≤ 9223372036854775807) (hn : n ≤ 9223372036854775807) (hl : 0 ≤ left) (hl' : left ≤ 1048576) :
  Calls Tryz.prog 40 #[.agg #[t, b, .slice A n c], .int .i64 left] w fun e w' => ∃ q : Int, e = .returned (.int .i64 q) ∧ Below w.heap.size w w' ∧ (q = -1 ∨ 0 ≤ q ∧ q = left - n - wtN Entrant.cnt xs) := by
 go_enter Tryz.func40, Tryz.ntmps40
 go_wp2_with fail
 have K0 : Below w.heap.size w _ := (Below.refl w.heap.size w).alloc (Nat.le_refl _) (.cells #[t, b, .slice A n c] 24)
 refine (jrk A n c xs left _ (hx.next K0) hk hn hl hl').mono ?_
 rintro e w1 ⟨q, rfl, b1, rfl | ⟨h1, h2⟩⟩
 ·go_wp2_with fail
  go_ret
  exact ⟨_, rfl, jaa K0 b1, .inl rfl⟩
 ·have H2 := Lib.hid h2
  clear h2
  go_wp2_with fail
  go_ret
  exact ⟨_, rfl, jaa K0 b1, .inr ⟨h1, H2.out⟩⟩
theorem jrs (t : Int) (b : Bool) (l : Log) (A : Option Addr) (n c : Nat) (xs : List Entrant) (left : Int) (w : World) (hx : SeesN entrantSh w 0 A n xs) (hk : ∀ x ∈ xs, x.cnt ≤ 9223372036854775807) (hn : n ≤ 9223372036854775807) (hu : l.upto 9223372036854775807) (hl : 0 ≤ left) (hl' : left ≤ 1048576) :
  Calls Tryz.prog 9 #[.agg #[t, b, .slice A n c, l.durable, l.pending, l.count], .int .i64 left] w fun e w' => ∃ q : Int, e = .returned (.int .i64 q) ∧ Below w.heap.size w w' ∧ (q = -1 ∨ 0 ≤ q ∧ n ≤ 1048576 ∧ wtN Entrant.cnt xs ≤ 1048576 ∧ l.upto 1048576) := by
 go_enter Tryz.func9, Tryz.ntmps9
 go_wp2_with fail
 have K0 := nB w (.cells #[t, b, .slice A n c, l.durable, l.pending, l.count] 28)
 have B0 := nP w [t, b, .slice A n c, l.durable, l.pending, l.count] 28
 refine (jsh t b A n c xs left _ (hx.next K0) hk hn hl hl').mono ?_
 rintro e w1 ⟨q, rfl, b1, rfl | ⟨h1, h2⟩⟩
 ·go_wp2_with fail
  go_ret
  exact ⟨_, rfl, jaa K0 b1, .inl rfl⟩
 ·have hq : q ≤ 1048576 := by omega
  have H2 := Lib.hid (show n ≤ 1048576 ∧ wtN Entrant.cnt xs ≤ 1048576 by omega)
  clear h2
  have K1 := jaa K0 b1
  replace B0 := B0.next b1
  have cm := B0.cell
  go_wp2_with fail
  refine (jsr l q w1 hu h1 hq).mono ?_
  rintro e w2 ⟨p, rfl, b2, rfl | ⟨h3, h4, h5⟩⟩
  ·go_wp2_with fail
   go_ret
   exact ⟨_, rfl, jaa K1 b2, .inl rfl⟩
  ·have H5 := Lib.hid h5
   clear h5
   go_wp2_with fail
   go_ret
   exact ⟨_, rfl, jaa K1 b2, .inr ⟨h3, H2.out.1, H2.out.2, H5.out⟩⟩
theorem jsj (t : Int) (b : Bool) (A : Option Addr) (n c : Nat) (xs : List Entrant) (w : World) (hx : SeesN entrantSh w 0 A n xs) (hn : n ≤ 1048576) (hi : ∀ x ∈ xs, x.cnt ≤ 1048576) :
  Calls Tryz.prog 46 #[.agg #[t, b, .slice A n c]] w fun e w' => ∃ A1, e = .returned (.agg #[t, b, .slice A1 n n]) ∧ MineN entrantSh w' (In (w.heap.size + 1) w'.heap.size) 108 188 A1 n n xs ∧ Below w.heap.size w w' := by
 go_enter Tryz.func46, Tryz.ntmps46
 go_wp2_with fail
 have K0 : Below w.heap.size w _ := (((Below.refl w.heap.size w).alloc (Nat.le_refl _) (.cells #[t, b, .slice A n c] 24)).alloc (by simp) (.cells #[.int .i64 0, false, .slice none 0 0] 32)).alloc (by simp; omega) (.cells #[t, b, .slice none 0 0] 32)
 refine (jrl A n c xs _ (hx.next K0) hn hi).mono ?_
 rintro e w1 ⟨A1, rfl, M0, b1⟩
 have K1 := jaa K0 b1
 have z1 : w.heap.size + 1 + 1 + 1 ≤ w1.heap.size := by have := b1.size; simpa using this
 have R1 : Blk w1 (w.heap.size + 1) 32 [.int .i64 0, .bool false, .slice none 0 0] := ((Blk.at_ (by simp)).alloc _).next b1
 have L1 : Blk w1 (w.heap.size + 1 + 1) 32 [.int .i64 t, .bool b, .slice none 0 0] := (Blk.at_ (by simp)).next b1
 have P1 : Blk w1 w.heap.size 24 [.int .i64 t, .bool b, .slice A n c] := (((Blk.at_ rfl).alloc _).alloc _).next b1
 have p1 := P1.cell
 have l1 := L1.cell
 have lf1 := L1.frozen
 have r1 := R1.cell
 have rf1 := R1.frozen
 go_wp2_with fail
 have RF := ((((R1.far (p := ⟨w.heap.size + 1 + 1, 2, none⟩) (by simp) (.slice A1 n n)).set_ 0 (.int .i64 t)).set_ 1 (.bool b)).set_ 2 (.slice A1 n n))
 have O3 := (((((Only.refl (fun b => b = w.heap.size + 1 ∨ b = w.heap.size + 1 + 1) w1).setCell (p := ⟨w.heap.size + 1 + 1, 2, none⟩) (.inr rfl) (.slice A1 n n)).setCell (p := ⟨w.heap.size + 1, 0, none⟩) (.inl rfl) (.int .i64 t)).setCell (p := ⟨w.heap.size + 1, 1, none⟩) (.inl rfl) (.bool b)).setCell (p := ⟨w.heap.size + 1, 2, none⟩) (.inl rfl) (.slice A1 n n))
 have M1 := M0.only O3 (fun b h1 h2 => by have := h1.1; simp at this; rcases h2 with h2 | h2 <;> omega)
 have zF := O3.size
 refine bodyPost_ret (results_cell_row rfl _ _ (w.heap.size + 1) _ _ (0, 0) _ rfl RF Tryz.underlying32 rfl (by kernel_rfl)) rfl ⟨A1, rfl, M1.wide ?_, ?_⟩
 ·intro b hb
  have h1 := hb.1
  have h2 := hb.2
  simp at h1
  exact ⟨by omega, by omega⟩
 ·exact K1.trans (O3.below (fun k hk => by rcases hk with hk | hk <;> omega) (by omega))
theorem jq1 (t : Int) (b : Bool) (l : Log) (A : Option Addr) (n c : Nat) (xs : List Entrant) (w : World) (hx : SeesN entrantSh w 0 A n xs) (hn : n ≤ 1048576) (hi : ∀ x ∈ xs, x.cnt ≤ 1048576) :
  Calls Tryz.prog 11 #[.agg #[t, b, .slice A n c, l.durable, l.pending, l.count]] w fun e w' => ∃ A1, e = .returned (.agg #[t, b, .slice A1 n n, l.durable, l.pending, l.count]) ∧ MineN entrantSh w' (In (w.heap.size + 1) w'.heap.size) 108 188 A1 n n xs ∧ Below w.heap.size w w' := by
 go_enter Tryz.func11, Tryz.ntmps11
 go_wp2_with fail
 have K0 : Below w.heap.size w _ := (((Below.refl w.heap.size w).alloc (Nat.le_refl _) (.cells #[t, b, .slice A n c, l.durable, l.pending, l.count] 28)).alloc (by simp) (.cells #[.int .i64 0, false, .slice none 0 0, .string ⟨#[]⟩, .string ⟨#[]⟩, .int .i64 0] 35)).alloc (by simp; omega) (.cells #[.int .i64 0, false, .slice none 0 0, .string ⟨#[]⟩, .string ⟨#[]⟩, .int .i64 0] 35)
 refine (jsj t b A n c xs _ (hx.next K0) hn hi).mono ?_
 rintro e w1 ⟨A1, rfl, M0, b1⟩
 have K1 := jaa K0 b1
 have z1 : w.heap.size + 1 + 1 + 1 ≤ w1.heap.size := by have := b1.size; simpa using this
 have R1 : Blk w1 (w.heap.size + 1) 35 [.int .i64 0, .bool false, .slice none 0 0, .string ⟨#[]⟩, .string ⟨#[]⟩, .int .i64 0] := ((Blk.at_ (by simp)).alloc _).next b1
 have L1 : Blk w1 (w.heap.size + 1 + 1) 35 [.int .i64 0, .bool false, .slice none 0 0, .string ⟨#[]⟩, .string ⟨#[]⟩, .int .i64 0] := (Blk.at_ (by simp)).next b1
 have P1 : Blk w1 w.heap.size 28 [.int .i64 t, .bool b, .slice A n c, .string l.durable, .string l.pending, .int .i64 l.count] := (((Blk.at_ rfl).alloc _).alloc _).next b1
 replace M0 := M0.wide (T := In (w.heap.size + 1 + 1 + 1) w1.heap.size) (fun b hb => by have h1 := hb.1; have h2 := hb.2; simp at h1; exact ⟨by omega, h2⟩)
 have p1 := P1.cell
 have l1 := L1.cell
 have lf1 := L1.frozen
 clear K0 b1
 go_wp2_with fail
 have O2 := ((((Only.refl (fun b => b = w.heap.size + 1 + 1) w1).setCell (p := ⟨w.heap.size + 1 + 1, 0, none⟩) rfl (.int .i64 t)).setCell (p := ⟨w.heap.size + 1 + 1, 1, none⟩) rfl (.bool b)).setCell (p := ⟨w.heap.size + 1 + 1, 2, none⟩) rfl (.slice A1 n n))
 have L2 := (((L1.set_ 0 (.int .i64 t)).set_ 1 (.bool b)).set_ 2 (.slice A1 n n))
 have R2 := R1.only O2 (fun (h : _ = _) => by omega)
 have P2 := P1.only O2 (fun (h : _ = _) => by omega)
 have M2 := M0.only O2 (fun b h1 (h2 : b = _) => by have := h1.1; omega)
 have K2 := K1.trans (O2.below (fun k (hk : k = w.heap.size + 1 + 1) => by omega) (by omega))
 have z2 := O2.size
 clear O2 L1 R1 P1 M0 K1 p1 l1 lf1
 generalize ((w1.setCell _ _).setCell _ _).setCell _ _ = w2 at *
 refine (jss l.durable l.pending l.count w2).mono ?_
 rintro e w3 ⟨rfl, b2⟩
 have z3 := b2.size
 replace K2 := jaa K2 b2
 replace L2 := L2.next b2
 replace R2 := R2.next b2
 replace M2 := M2.next b2
 replace P2 := P2.next b2
 have p1 := P2.cell
 have l1 := L2.cell
 have lf1 := L2.frozen
 have r1 := R2.cell
 have rf1 := R2.frozen
 clear b2
 go_wp2_with fail
 have RF := (((((((((R2.far (p := ⟨w.heap.size + 1 + 1, 3, none⟩) (by simp) (.string l.durable)).far (p := ⟨w.heap.size + 1 + 1, 4, none⟩) (by simp) (.string l.pending)).far (p := ⟨w.heap.size + 1 + 1, 5, none⟩) (by simp) (.int .i64 l.count)).set_ 0 (.int .i64 t)).set_ 1 (.bool b)).set_ 2 (.slice A1 n n)).set_ 3 (.string l.durable)).set_ 4 (.string l.pending)).set_ 5 (.int .i64 l.count))
 have O3 := ((((((((((Only.refl (fun b => b = w.heap.size + 1 ∨ b = w.heap.size + 1 + 1) w3).setCell (p := ⟨w.heap.size + 1 + 1, 3, none⟩) (.inr rfl) (.string l.durable)).setCell (p := ⟨w.heap.size + 1 + 1, 4, none⟩) (.inr rfl) (.string l.pending)).setCell (p := ⟨w.heap.size + 1 + 1, 5, none⟩) (.inr rfl) (.int .i64 l.count)).setCell (p := ⟨w.heap.size + 1, 0, none⟩) (.inl rfl) (.int .i64 t)).setCell (p := ⟨w.heap.size + 1, 1, none⟩) (.inl rfl) (.bool b)).setCell (p := ⟨w.heap.size + 1, 2, none⟩) (.inl rfl) (.slice A1 n n)).setCell (p := ⟨w.heap.size + 1, 3, none⟩) (.inl rfl) (.string l.durable)).setCell (p := ⟨w.heap.size + 1, 4, none⟩) (.inl rfl) (.string l.pending)).setCell (p := ⟨w.heap.size + 1, 5, none⟩) (.inl rfl) (.int .i64 l.count))
 have M1 := M2.only O3 (fun b h1 h2 => by have := h1.1; rcases h2 with h2 | h2 <;> omega)
 have zF := O3.size
 refine bodyPost_ret (results_cell_row rfl _ _ (w.heap.size + 1) _ _ (0, 0) _ rfl RF Tryz.underlying35 rfl (by kernel_rfl)) rfl ⟨A1, rfl, M1.wide ?_, ?_⟩
 ·intro b hb
  have h1 := hb.1
  have h2 := hb.2
  exact ⟨by omega, by omega⟩
 ·exact K2.trans (O3.below (fun k hk => by rcases hk with hk | hk <;> omega) (by omega))
theorem jsa : ∀ xs : List Entrant, wtN Entrant.wt xs = 2 * wtN Entrant.cnt xs + 4 * xs.length
 | [] => rfl
 | x :: r => by
  show Entrant.wt x + wtN Entrant.wt r = 2 * (Entrant.cnt x + wtN Entrant.cnt r) + 4 * (r.length + 1)
  rw [jsa r]
  show x.punches.length * 2 + 4 + _ = 2 * (x.punches.length + _) + _
  omega
theorem js0 : ∀ (m : Nat) (xs : List Entrant), (∀ x ∈ xs, x.cnt ≤ m) → wtN Entrant.cnt xs ≤ m * xs.length
 | _, [], _ => Nat.zero_le _
 | m, x :: r, h => by
  show Entrant.cnt x + wtN Entrant.cnt r ≤ m * (r.length + 1)
  have h1 := h x List.mem_cons_self
  have h2 := js0 m r (fun y hy => h y (List.mem_cons_of_mem _ hy))
  rw [Nat.mul_add, Nat.mul_one]
  omega
theorem jsd {r : RaceV} (h : ja0 r = true) : r.field.length ≤ 1048576 ∧ (∀ x ∈ r.field, x.cnt ≤ 1048576) ∧ wtN Entrant.wt r.field ≤ 100000000 := by
 have h8 := (jfx h).2
 have hc := js0 12 r.field (fun x hx => (jco h x hx).1)
 have hw := jsa r.field
 have hm : 12 * r.field.length ≤ 12 * 8 := Nat.mul_le_mul_left 12 h8
 exact ⟨by omega, jb2 h, by omega⟩
theorem jsv {r : RaceV} {l : Log} {line : ByteArray} : (exM r l line).race = r ∨ ja0 (exM r l line).race = true := by
 unfold exM
 by_cases h1 : (ja0 r && ja9 l) = false
 ·rw [if_pos h1]
  exact Or.inl rfl
 rw [if_neg h1]
 by_cases h2 : jgb ⟨line, ⟨#[]⟩⟩ = false
 ·rw [if_pos h2]
  exact Or.inl rfl
 rw [if_neg h2]
 by_cases h3 : l.count = 60
 ·rw [if_pos h3]
  exact Or.inl rfl
 rw [if_neg h3]
 refine Or.inr (jox ?_)
 cases hg : ja0 r with
 | true => rfl
 | false => exact absurd (by rw [hg]; rfl) h1
theorem jsn {r : RaceV} {l : Log} {line : ByteArray} (h1 : r.field.length ≤ 1048576) (h2 : wtN Entrant.cnt r.field ≤ 1048576) (h3 : ∀ x ∈ r.field, x.cnt ≤ 1048576) : (exM r l line).race.field.length ≤ 1048576 ∧ (∀ x ∈ (exM r l line).race.field, x.cnt ≤ 1048576) ∧ wtN Entrant.wt (exM r l line).race.field ≤ 100000000 := by
 rcases jsv (r := r) (l := l) (line := line) with h | h
 ·rw [h]
  have hw := jsa r.field
  exact ⟨h1, h3, by omega⟩
 ·exact jsd h
theorem jq3 (t : Int) (b : Bool) (l : Log) (A : Option Addr) (n c : Nat) (xs : List Entrant) (line : ByteArray) (w : World) (hx : SeesN entrantSh w 0 A n xs) (hn3 : n ≤ 9223372036854775807 ∧ (∀ x ∈ xs, x.cnt ≤ 9223372036854775807) ∧ l.upto 9223372036854775807) (hls : line.size ≤ 9223372036854775807) (hg : GlE w) :
  Calls Tryz.prog 3 #[.agg #[t, b, .slice A n c, l.durable, l.pending, l.count], .string line] w fun e w' => e = .returned (.bool true) ∧ Below w.heap.size w w' := by
 go_enter Tryz.func3, Tryz.ntmps3
 have K := nB w (.cells #[t, b, .slice A n c, l.durable, l.pending, l.count] 28)
 have Bc := nP w [t, b, .slice A n c, l.durable, l.pending, l.count] 28
 have hx0 := hx.next K
 have hz0 : w.heap.size + 1 ≤ ((w.alloc (.cells #[t, b, .slice A n c, l.durable, l.pending, l.count] 28))).heap.size := by simp
 by_cases hbig : 1048576 < line.size
 ·have hb1 : (1048576 : Int) < (line.size : Int) := by omega
  go_wp2_with fail
  go_ret
  exact ⟨rfl, K⟩
 have hb1 : ¬ (1048576 : Int) < (line.size : Int) := by omega
 have hsl : line.size ≤ 1048576 := by omega
 go_upto_region 4 with fail
 generalize w.alloc _ = w0 at *
 have cm := Bc.cell
 go_wp2_with fail
 refine (jrs t b l A n c xs _ w0 hx0 hn3.2.1 hn3.1 hn3.2.2 (by omega) (by omega)).mono ?_
 rintro e w1 ⟨q, rfl, b9, rfl | ⟨hq, hn, hwt, hu⟩⟩
 ·go_wp2_with fail
  go_ret
  exact ⟨rfl, jaa K b9⟩
 clear cm
 have z1 := b9.size
 replace Bc := Bc.next b9
 replace hx0 := hx0.next b9
 replace K := jaa K b9
 clear b9
 have hi : ∀ x ∈ xs, x.cnt ≤ 1048576 := fun x h => Nat.le_trans (jst Entrant.cnt h) hwt
 have hgl : ∀ W, Below w.heap.size w W → GlE W := fun W h => hg.next h
 have HX := Lib.hid hx
 have hwx := jsa xs
 have hlx := hx.count
 have hwx2 : wtN Entrant.wt xs ≤ 100000000 := by omega
 obtain ⟨D, hD⟩ : ∃ D, exM ⟨t, b, xs⟩ l line = D := ⟨_, rfl⟩
 have hds := jsn (r := ⟨t, b, xs⟩) (l := l) (line := line) (by show xs.length ≤ 1048576; omega) hwt hi
 rw [hD] at hds
 obtain ⟨hdn, hdi, hdw⟩ := hds
 have HI := Lib.hid hi
 have HDI := Lib.hid hdi
 have CI := Lib.hid (fun W A2 c2 (h : SeesN entrantSh W 0 A2 n xs) h2 => ExecuteCommand_any t b l A2 n c2 xs line W h hn hi hu (by omega) (hgl W h2))
 have CS := Lib.hid (fun W A2 c2 (h : SeesN entrantSh W 0 A2 n xs) => specExecuteCommand_any t b l A2 n c2 xs line W h hn hi hu (by omega))
 rw [hD] at CI CS
 clear hn3 hwt hx hg hD hgl hi hdi hwx hlx
 have cm := Bc.cell
 go_wp2_with fail
 refine (jq1 t b l A n c xs w1 hx0 hn HI.out).mono ?_
 rintro e w2 ⟨A2, rfl, M2, b9⟩
 clear cm
 have z2 := b9.size
 replace Bc := Bc.next b9
 replace hx0 := hx0.next b9
 replace K := jaa K b9
 clear b9
 have X2 := M2.sees
 clear M2
 go_wp2_with fail
 refine (CS.out w2 A2 n X2).mono ?_
 rintro e w4 ⟨A0, c0, rfl, M0, b9⟩
 clear X2
 have z4 := b9.size
 replace Bc := Bc.next b9
 replace hx0 := hx0.next b9
 replace K := jaa K b9
 clear b9
 have b9 := nB w4 (.cells #[D.race.clock, D.race.closed, .slice A0 D.race.field.length c0, D.log.durable, D.log.pending, D.log.count] 35)
 have B0 := nP w4 [D.race.clock, D.race.closed, .slice A0 D.race.field.length c0, D.log.durable, D.log.pending, D.log.count] 35
 have hsg0 : w4.heap.size + 1 ≤ ((w4.alloc (.cells #[D.race.clock, D.race.closed, .slice A0 D.race.field.length c0, D.log.durable, D.log.pending, D.log.count] 35))).heap.size := by simp
 replace Bc := Bc.next b9
 replace hx0 := hx0.next b9
 replace M0 := M0.next b9
 replace K := jaa K b9
 clear b9
 have cm := Bc.cell
 go_upto_region 8 with fail
 generalize w4.alloc _ = w5 at *
 generalize w4.heap.size = g0 at *
 go_wp2_with fail
 refine (jq1 t b l A n c xs w5 hx0 hn HI.out).mono ?_
 rintro e w6 ⟨A4, rfl, M4, b9⟩
 clear cm
 have z6 := b9.size
 replace Bc := Bc.next b9
 replace hx0 := hx0.next b9
 replace B0 := B0.next b9
 replace M0 := M0.next b9
 replace K := jaa K b9
 clear b9
 have b9 := nB w6 (.cells #[t, b, .slice A4 n n, l.durable, l.pending, l.count] 35)
 have Bx := nP w6 [t, b, .slice A4 n n, l.durable, l.pending, l.count] 35
 have hsgx : w6.heap.size + 1 ≤ ((w6.alloc (.cells #[t, b, .slice A4 n n, l.durable, l.pending, l.count] 35))).heap.size := by simp
 replace Bc := Bc.next b9
 replace hx0 := hx0.next b9
 replace B0 := B0.next b9
 replace M0 := M0.next b9
 replace M4 := M4.next b9
 replace K := jaa K b9
 clear b9
 go_upto_region 9 with fail
 generalize w6.alloc _ = w7 at *
 generalize w6.heap.size = gx at *
 have cx := Bx.cell
 go_wp2_with fail
 refine (CI.out w7 A4 n M4.sees K).mono ?_
 rintro e w8 ⟨A1, c1, rfl, M1, b9⟩
 clear cx
 have z8 := b9.size
 replace Bc := Bc.next b9
 replace hx0 := hx0.next b9
 replace B0 := B0.next b9
 replace M0 := M0.next b9
 replace Bx := Bx.next b9
 replace M4 := M4.next b9
 replace K := jaa K b9
 clear b9
 have b9 := nB w8 (.cells #[D.race.clock, D.race.closed, .slice A1 D.race.field.length c1, D.log.durable, D.log.pending, D.log.count] 35)
 have B1 := nP w8 [D.race.clock, D.race.closed, .slice A1 D.race.field.length c1, D.log.durable, D.log.pending, D.log.count] 35
 have hsg1 : w8.heap.size + 1 ≤ ((w8.alloc (.cells #[D.race.clock, D.race.closed, .slice A1 D.race.field.length c1, D.log.durable, D.log.pending, D.log.count] 35))).heap.size := by simp
 replace Bc := Bc.next b9
 replace hx0 := hx0.next b9
 replace B0 := B0.next b9
 replace M0 := M0.next b9
 replace Bx := Bx.next b9
 replace M4 := M4.next b9
 replace M1 := M1.next b9
 replace K := jaa K b9
 clear b9
 go_upto_region 10 with fail
 generalize w8.alloc _ = w9 at *
 generalize w8.heap.size = g1 at *
 have c1' := B1.cell
 have c0' := B0.cell
 have es : (D.reply.toList != D.reply.toList) = false := bne_self_eq_false _
 go_wp2_with fail
 refine (jqz D.race.clock D.race.closed D.log A1 A0 _ _ _ _ _ _ _ _ w9 M1.sees M0.sees rfl hdn HDI.out).mono ?_
 rintro e wa ⟨rfl, b9⟩
 clear c1' c0'
 replace Bc := Bc.next b9
 replace hx0 := hx0.next b9
 replace B0 := B0.next b9
 replace M0 := M0.next b9
 replace Bx := Bx.next b9
 replace M4 := M4.next b9
 replace B1 := B1.next b9
 replace M1 := M1.next b9
 replace K := jaa K b9
 clear b9
 go_upto_region 12 with fail
 have b9 := (Quiet.one wa).below wa.heap.size
 replace Bc := Bc.next b9
 replace hx0 := hx0.next b9
 replace B0 := B0.next b9
 replace M0 := M0.next b9
 replace Bx := Bx.next b9
 replace M4 := M4.next b9
 replace B1 := B1.next b9
 replace M1 := M1.next b9
 have Kq := jaa K b9
 clear K b9
 have cm := Bc.cell
 have cx := Bx.cell
 go_region_held3 (fun w' => w'.cell? ⟨w.heap.size, 0, none⟩ = some (.int .i64 t) ∧ w'.cell? ⟨w.heap.size, 1, none⟩ = some (.bool b) ∧ w'.cell? ⟨w.heap.size, 2, none⟩ = some (.slice A n c) ∧ w'.cell? ⟨w.heap.size, 3, none⟩ = some (.string l.durable) ∧ w'.cell? ⟨w.heap.size, 4, none⟩ = some (.string l.pending) ∧ w'.cell? ⟨w.heap.size, 5, none⟩ = some (.int .i64 l.count) ∧ w'.cell? ⟨gx, 0, none⟩ = some (.int .i64 t) ∧ w'.cell? ⟨gx, 1, none⟩ = some (.bool b) ∧ w'.cell? ⟨gx, 2, none⟩ = some (.slice A4 n n) ∧ w'.cell? ⟨gx, 3, none⟩ = some (.string l.durable) ∧ w'.cell? ⟨gx, 4, none⟩ = some (.string l.pending) ∧ w'.cell? ⟨gx, 5, none⟩ = some (.int .i64 l.count)) (go_keep)
  (first
    | (go_at_call 11
       refine (jq1 t b l A n c xs _ hx0 hn HI.out).mono ?_
       rintro e wz ⟨A8, rfl, M8, b9⟩
       replace Kq := jaa Kq b9
       replace Bc := Bc.next b9
       replace hx0 := hx0.next b9
       replace B0 := B0.next b9
       replace M0 := M0.next b9
       replace Bx := Bx.next b9
       replace M4 := M4.next b9
       replace B1 := B1.next b9
       replace M1 := M1.next b9
       clear b9 cm cx
       have X8 := M8.sees
       clear M8
       have cm := Bc.cell
       have cx := Bx.cell)
    | (go_at_call 13
       refine (jqz t b l A4 A8 n n n n _ _ _ _ _ M4.sees X8 rfl hn HI.out).mono ?_
       rintro e wb ⟨rfl, b9⟩
       replace Kq := jaa Kq b9
       replace Bc := Bc.next b9
       replace hx0 := hx0.next b9
       replace B0 := B0.next b9
       replace M0 := M0.next b9
       replace Bx := Bx.next b9
       replace M4 := M4.next b9
       replace B1 := B1.next b9
       replace M1 := M1.next b9
       clear b9 cm cx
       have cm := Bc.cell
       have cx := Bx.cell))
 clear cm cx X8
 have K := Kq
 clear Kq
 go_upto_region 15 with fail
 have cx := Bx.cell
 go_wp2_with fail
 refine (jq6 _ t b l A4 n n xs 1 wb M4 (by omega) (by omega) hn).mono ?_
 rintro e wc ⟨rfl, -, o9⟩
 clear cx
 have zk := K.size
 have hbl1 := B1.lt
 have hbl0 := B0.lt
 have hblx := Bx.lt
 have hblc := Bc.lt
 replace M0 := M0.only o9 (fun b h1 h2 => by have := h1.2; have := h2.1; omega)
 replace M1 := M1.only o9 (fun b h1 h2 => by have := h1.1; have := h2.2; omega)
 replace B0 := B0.only o9 (fun h2 => by have := h2.1; omega)
 replace B1 := B1.only o9 (fun h2 => by have := h2.2; omega)
 replace Bc := Bc.only o9 (fun h2 => by have := h2.1; omega)
 replace K := K.trans (o9.below (fun b h2 => by have := h2.1; omega) zk)
 clear hx0
 have hx0 := HX.out.next K
 clear o9 M4 Bx
 obtain ⟨k, hk⟩ : ∃ k, (1 + (wtN Entrant.wt xs : Int)) = k := ⟨_, rfl⟩
 have hk0 : ¬ k < 0 := by omega
 rw [hk]
 clear hk
 have c1' := B1.cell
 have c0' := B0.cell
 go_upto_region 16 with fail
 go_wp2_with fail
 refine (jqz D.race.clock D.race.closed D.log A1 A0 _ _ _ _ _ _ _ _ wc M1.sees M0.sees rfl hdn HDI.out).mono ?_
 rintro e wd ⟨rfl, b9⟩
 clear c1' c0'
 replace Bc := Bc.next b9
 replace hx0 := hx0.next b9
 replace B0 := B0.next b9
 replace M0 := M0.next b9
 replace B1 := B1.next b9
 replace M1 := M1.next b9
 replace K := jaa K b9
 clear b9
 go_upto_region 19 with fail
 have c1' := B1.cell
 go_wp2_with fail
 refine (jq6 _ D.race.clock D.race.closed D.log A1 _ c1 D.race.field 1 wd M1 (by omega) (by omega) hdn).mono ?_
 rintro e we ⟨rfl, M6, o9⟩
 clear c1'
 replace M0 := M0.only o9 (fun b h1 h2 => by have := h1.2; have := h2.1; omega)
 replace B0 := B0.only o9 (fun h2 => by have := h2.1; omega)
 replace B1 := B1.only o9 (fun h2 => by have := h2.2; omega)
 replace Bc := Bc.only o9 (fun h2 => by have := h2.1; omega)
 replace K := K.trans (o9.below (fun b h2 => by have := h2.1; omega) K.size)
 clear hx0
 have hx0 := HX.out.next K
 clear o9 M1
 obtain ⟨m, hm⟩ : ∃ m, (1 + (wtN Entrant.wt D.race.field : Int)) = m := ⟨_, rfl⟩
 have HM := Lib.hid hm
 have hm0 : ¬ m < 0 := by omega
 have hmm : (m != m) = false := bne_self_eq_false m
 rw [hm]
 clear hm hk0
 have c1' := B1.cell
 go_wp2_with fail
 refine (jq5 D.race.clock D.race.closed D.log 0 _ c1 A1 D.race.field 1 we M6.sees (by omega) (by omega) hdn).mono ?_
 rw [HM.out]
 rintro e wf ⟨rfl, b9⟩
 clear c1'
 replace Bc := Bc.next b9
 replace hx0 := hx0.next b9
 replace B0 := B0.next b9
 replace M0 := M0.next b9
 replace B1 := B1.next b9
 replace M6 := M6.next b9
 replace K := jaa K b9
 clear b9
 go_upto_region 26 with fail
 have cm := Bc.cell
 go_wp2_with fail
 refine (jq1 t b l A n c xs wf hx0 hn HI.out).mono ?_
 rintro e wg' ⟨A8, rfl, M8, b9⟩
 clear cm
 replace hx0 := hx0.next b9
 replace B0 := B0.next b9
 replace M0 := M0.next b9
 replace B1 := B1.next b9
 replace M6 := M6.next b9
 replace K := jaa K b9
 clear b9
 have X8 := M8.sees
 clear M8 Bc
 go_wp2_with fail
 refine (CI.out wg' A8 n X8 K).mono ?_
 rintro e wg ⟨A3, c3, rfl, M3, b9⟩
 clear X8
 replace hx0 := hx0.next b9
 replace B0 := B0.next b9
 replace M0 := M0.next b9
 replace B1 := B1.next b9
 replace M6 := M6.next b9
 replace K := jaa K b9
 clear b9
 have b9 := nB wg (.cells #[D.race.clock, D.race.closed, .slice A3 D.race.field.length c3, D.log.durable, D.log.pending, D.log.count] 35)
 have B3 := nP wg [D.race.clock, D.race.closed, .slice A3 D.race.field.length c3, D.log.durable, D.log.pending, D.log.count] 35
 have hsg3 : wg.heap.size + 1 ≤ ((wg.alloc (.cells #[D.race.clock, D.race.closed, .slice A3 D.race.field.length c3, D.log.durable, D.log.pending, D.log.count] 35))).heap.size := by simp
 replace hx0 := hx0.next b9
 replace B0 := B0.next b9
 replace M0 := M0.next b9
 replace B1 := B1.next b9
 replace M6 := M6.next b9
 replace M3 := M3.next b9
 replace K := jaa K b9
 clear b9
 go_upto_region 27 with fail
 generalize wg.alloc _ = wh at *
 generalize wg.heap.size = g3 at *
 have c3' := B3.cell
 have c0' := B0.cell
 go_wp2_with fail
 refine (jqz D.race.clock D.race.closed D.log A3 A0 _ _ _ _ _ _ _ _ wh M3.sees M0.sees rfl hdn HDI.out).mono ?_
 rintro e wi ⟨rfl, b9⟩
 clear c3' c0' M3 M0 B0 B3
 replace B1 := B1.next b9
 replace M6 := M6.next b9
 replace K := jaa K b9
 clear b9
 go_upto_region 30 with fail
 have c1' := B1.cell
 go_wp2_with fail
 refine (jq5 D.race.clock D.race.closed D.log 0 _ c1 A1 D.race.field 1 wi M6.sees (by omega) (by omega) hdn).mono ?_
 rw [HM.out]
 rintro e wj ⟨rfl, b9⟩
 replace K := jaa K b9
 go_wp2_with fail
 go_ret
 exact ⟨rfl, K⟩
end Go.Proofs.YtflpcdffmpfdpaaGreatDoor
