/- The law's own helpers over cards: printed by nest.py. -/
import Derived.Test.YtkchdhmnomelkaaGreatNest
import Derived.Test.YtkchdhmnomelkaaGreatPunchT
namespace Go.Proofs.YtkchdhmnomelkaaGreat
open Go.RowKit

theorem wtN_mem {α : Type} (f : α → Nat) {x : α} : ∀ {l : List α} (_ : x ∈ l), f x ≤ wtN f l
  | y :: l, h => by
    rcases List.mem_cons.1 h with rfl | h
    · simp only [wtN]; omega
    · have := wtN_mem f h; simp only [wtN]; omega
structure Card where
  number : Int
  start : Int
  finish : Int
  punches : List Punch
deriving DecidableEq
def cardSh : Sh Card := ⟨fun r => [(.int .i64 r.x.number), (.int .i64 r.x.start), (.int .i64 r.x.finish), (.slice r.A r.n r.c)], 4, 2, fun x => (x.punches.flatMap Punch.enc), by decide, fun _ => rfl⟩
def Card.cnt (x : Card) : Nat := x.punches.length
/-- how many marks it takes -/
def Card.wt (x : Card) : Nat := x.punches.length * 2 + 3
def Card.mark (k : Int) (x : Card) : Card := ⟨k, k + 1, k + 1 + 1, (marksOf Punch.mark 2 (k + 1 + 1 + 1) x.punches.length)⟩
theorem info_impl_Card : (Tryz.prog.info? 43).map (fun i => (i.zero, i.size, i.bytes)) = some (some (.agg #[.int .i64 0, .int .i64 0, .int .i64 0, .slice none 0 0]), 4, 48) := by kernel_rfl
theorem SeesCard.elem {w : World} {lo n k : Nat} {A : Option Addr} {xs : List Card} (h : SeesN cardSh w lo A n xs) (hk : k < n) :
    ∃ (b off : Nat) (B : Option Addr) (m d : Nat), A = some ⟨b, off, none⟩ ∧ ∃ hkx : k < xs.length, w.cell? ⟨b, off + k * 4, none⟩ = some (.int .i64 xs[k].number) ∧ w.cell? ⟨b, off + k * 4 + 1, none⟩ = some (.int .i64 xs[k].start) ∧ w.cell? ⟨b, off + k * 4 + 2, none⟩ = some (.int .i64 xs[k].finish) ∧ w.cell? ⟨b, off + k * 4 + 3, none⟩ = some (.slice B m d) ∧ Sees w lo 2 B m (xs[k].punches.flatMap Punch.enc) := by
  obtain ⟨rs, rfl, h2, h3⟩ := h
  obtain ⟨b, off, rfl, hkx, c0, c1, c2, c3⟩ := Sees.elem4 (enc := cardSh.enc) h2 (fun _ => rfl) hk
  have hx : (rs.map Hd.x)[k]'(by simpa using hkx) = rs[k].x := by simp
  refine ⟨b, off, rs[k].A, rs[k].n, rs[k].c, rfl, by simpa using hkx, ?_, ?_, ?_, ?_, ?_⟩
  · rw [c0, hx]
  · rw [c1, hx]
  · rw [c2, hx]
  · rw [c3]
  · rw [hx]; exact h3 rs[k] (List.getElem_mem hkx)

theorem Card.wt_total (xs : List Card) : wtN Card.wt xs = wtN Card.cnt xs * 2 + xs.length * 3 := by
  induction xs with
  | nil => rfl
  | cons x l ih => simp only [wtN, ih, List.length_cons, Card.wt, Card.cnt]; omega

set_option maxRecDepth 100000 in
theorem toCard_any (A : Option Addr) (n c lo : Nat) (x : Card) (w : World) (hx : Sees w lo 2 A n (x.punches.flatMap Punch.enc)) (hn : n ≤ 1048576) :
    Calls Tryz.prog 32 #[.agg #[(.int .i64 x.number), (.int .i64 x.start), (.int .i64 x.finish), (.slice A n c)]] w fun e w' => ∃ B1, e = .returned (.agg #[(.int .i64 x.number), (.int .i64 x.start), (.int .i64 x.finish), (.slice B1 n n)]) ∧ Mine w' (In (w.heap.size + 1) w'.heap.size) 106 2 B1 n n (x.punches.flatMap Punch.enc) ∧ Below w.heap.size w w' := by
  go_enter Tryz.func32, Tryz.ntmps32
  go_wp2_with fail
  have K0 : Below w.heap.size w _ := (((Below.refl w.heap.size w).alloc (Nat.le_refl _) (.cells #[(.int .i64 x.number), (.int .i64 x.start), (.int .i64 x.finish), (.slice A n c)] 29)).alloc (by simp) (.cells #[.int .i64 0, .int .i64 0, .int .i64 0, .slice none 0 0] 43)).alloc (by simp; omega) (.cells #[(.int .i64 x.number), (.int .i64 x.start), (.int .i64 x.finish), .slice none 0 0] 43)
  refine (toPunchS_any _ _ _ _ _ ((hx.less (Nat.zero_le _)).next K0) hn).mono ?_
  rintro e w1 ⟨B1, rfl, o1, b1⟩
  have K1 := bel_then K0 b1
  have z1 : w.heap.size + 1 + 1 + 1 ≤ w1.heap.size := by have := b1.size; simpa using this
  have R1 : Blk w1 (w.heap.size + 1) 43 [.int .i64 0, .int .i64 0, .int .i64 0, .slice none 0 0] := ((Blk.at_ (by simp)).alloc _).next b1
  have L1 : Blk w1 (w.heap.size + 1 + 1) 43 [(.int .i64 x.number), (.int .i64 x.start), (.int .i64 x.finish), .slice none 0 0] := (Blk.at_ (by simp)).next b1
  have P1 : Blk w1 w.heap.size 29 [(.int .i64 x.number), (.int .i64 x.start), (.int .i64 x.finish), (.slice A n c)] := (((Blk.at_ rfl).alloc _).alloc _).next b1
  have p1 := P1.cell
  have l1 := L1.cell
  have lf1 := L1.frozen
  have r1 := R1.cell
  have rf1 := R1.frozen
  go_wp2_with fail
  have RF := (((((R1.far (p := ⟨w.heap.size + 1 + 1, 3, none⟩) (by simp) (.slice B1 n n)).set_ 0 (.int .i64 x.number)).set_ 1 (.int .i64 x.start)).set_ 2 (.int .i64 x.finish)).set_ 3 (.slice B1 n n))
  have O3 := ((((((Only.refl (fun b => b = w.heap.size + 1 ∨ b = w.heap.size + 1 + 1) w1).setCell (p := ⟨w.heap.size + 1 + 1, 3, none⟩) (.inr rfl) (.slice B1 n n)).setCell (p := ⟨w.heap.size + 1, 0, none⟩) (.inl rfl) (.int .i64 x.number)).setCell (p := ⟨w.heap.size + 1, 1, none⟩) (.inl rfl) (.int .i64 x.start)).setCell (p := ⟨w.heap.size + 1, 2, none⟩) (.inl rfl) (.int .i64 x.finish)).setCell (p := ⟨w.heap.size + 1, 3, none⟩) (.inl rfl) (.slice B1 n n))
  have M1 := (Mine.of o1).only O3 (fun b h1 h2 => by have := h1.1; simp at this; rcases h2 with h2 | h2 <;> omega)
  have zF := O3.size
  refine bodyPost_ret (results_cell_row rfl _ _ (w.heap.size + 1) _ _ (0, 0) _ rfl RF Tryz.underlying43 rfl (by kernel_rfl)) rfl ⟨B1, rfl, M1.wide ?_, ?_⟩
  · intro b hb
    have h1 := hb.1
    have h2 := hb.2
    simp at h1
    exact ⟨by omega, by omega⟩
  · exact K1.trans (O3.below (fun k hk => by rcases hk with hk | hk <;> omega) (by omega))

set_option maxRecDepth 100000 in
set_option maxHeartbeats 1000000 in
theorem toCardS_any (A : Option Addr) (n c : Nat) (xs : List Card) (w : World) (hx : SeesN cardSh w 0 A n xs) (hn : n ≤ 1048576) (hi : ∀ x ∈ xs, x.cnt ≤ 1048576) :
    Calls Tryz.prog 30 #[.slice A n c] w fun e w' => ∃ A', e = .returned (.slice A' n n) ∧ MineN cardSh w' (In w.heap.size w'.heap.size) 43 106 A' n n xs ∧ Below w.heap.size w w' := by
  have hl := hx.count
  obtain ⟨zs, hzs, hmk⟩ := make_zeros (P := Tryz.prog) n Tryz.underlying34 info_impl_Card (by omega) (by omega)
  go_enter Tryz.func30, Tryz.ntmps30
  go_wp2_with fail
  have hB := Blk.new w 43 zs
  have hb0 : Below w.heap.size w (w.alloc (.cells zs.toArray 43)) := (Below.refl _ _).alloc (Nat.le_refl _) _
  clear hmk
  go_loopw [4] (fun v wr => ∃ (k : Nat) (cs : List Value) (rs : List (Hd Card)), k ≤ n ∧ v = .int .i64 k ∧ Blk wr w.heap.size 43 cs ∧ cs.length = n * 4 ∧ rs.map Hd.x = xs.take k ∧ cs.take (k * 4) = rs.flatMap cardSh.enc ∧ Inners cardSh wr (In (w.heap.size + 1) wr.heap.size) 106 rs ∧ Below w.heap.size w wr) (fun v _ => n - (intOf v).toNat)
  case atStart => exact ⟨0, zs, [], Nat.zero_le _, rfl, hB, hzs, rfl, by simp, Inners.nil _, hb0⟩
  case round =>
    obtain ⟨k, cs, rs, hk, rfl, hB, hcl, hrs, hcs, hin, hb⟩ := hrel
    by_cases hlt : k < n
    · obtain ⟨b, off, B0, m, cc0, rfl, hkx, c0, c1, c2, c3, hxi⟩ := SeesCard.elem (hx.next hb) hlt
      have hm : m ≤ 1048576 := by
        have h1 := hi xs[k] (List.getElem_mem hkx)
        have h2 := hxi.count (by decide) (fun _ => rfl)
        unfold Card.cnt at h1
        omega
      go_wp2_with fail
      refine (toCard_any _ _ cc0 _ xs[k] _ hxi hm).mono ?_
      rintro e w1 ⟨B1, rfl, o1, hb1⟩
      have hB1 := hB.next hb1
      have hlt4 : k * 4 + 4 ≤ cs.length := by omega
      obtain ⟨v0, s0⟩ : ∃ u, w1.cell? ⟨w.heap.size, k * 4, none⟩ = some u := ⟨_, (hB1.cell _).trans (List.getElem?_eq_getElem (by omega))⟩
      obtain ⟨v1, s1⟩ : ∃ u, w1.cell? ⟨w.heap.size, k * 4 + 1, none⟩ = some u := ⟨_, (hB1.cell _).trans (List.getElem?_eq_getElem (by omega))⟩
      obtain ⟨v2, s2⟩ : ∃ u, w1.cell? ⟨w.heap.size, k * 4 + 2, none⟩ = some u := ⟨_, (hB1.cell _).trans (List.getElem?_eq_getElem (by omega))⟩
      obtain ⟨v3, s3⟩ : ∃ u, w1.cell? ⟨w.heap.size, k * 4 + 3, none⟩ = some u := ⟨_, (hB1.cell _).trans (List.getElem?_eq_getElem (by omega))⟩
      have hf := hB1.frozen
      have hz1 := hb1.size
      have hzg := hB.lt
      go_wp2_with fail
      go_roundw
      case rel =>
        have hB2 := hB1.many (cardSh.enc ⟨xs[k], B1, m, m⟩) (k * 4)
        have O2 := (((((Only.refl (fun b => b = w.heap.size) w1).setCell (p := ⟨w.heap.size, k * 4, none⟩) rfl (.int .i64 xs[k].number)).setCell (p := ⟨w.heap.size, k * 4 + 1, none⟩) rfl (.int .i64 xs[k].start)).setCell (p := ⟨w.heap.size, k * 4 + 2, none⟩) rfl (.int .i64 xs[k].finish)).setCell (p := ⟨w.heap.size, k * 4 + 3, none⟩) rfl (.slice B1 m m))
        have h3 := ((hin.next hb1).snoc o1 (fun b h1 h2 => by have := h1.2; have := h2.1; omega)).only O2 (fun b h1 h2 => by rcases h1 with h1 | h1 <;> (have := h1.1; omega))
        refine ⟨k + 1, _, rs ++ [⟨xs[k], B1, m, m⟩], by omega, by go_num, hB2, (setMany_length _ _ _).trans hcl, ?_, ?_, h3.wide ?_, bel_many (Nat.le_refl _) (cardSh.enc ⟨xs[k], B1, m, m⟩) (bel_then hb hb1) (k * 4)⟩
        · rw [List.map_append, hrs, List.take_succ_eq_append_getElem hkx]; rfl
        · have := setMany_take (cardSh.enc ⟨xs[k], B1, m, m⟩) cs (k * 4) (by rw [cardSh.len]; exact hlt4)
          rw [cardSh.len, hcs] at this
          rw [List.flatMap_append, Nat.succ_mul]
          exact this.trans (by simp)
        · intro b hb
          have e1 := O2.size
          rcases hb with hb | hb
          · exact ⟨hb.1, Nat.lt_of_lt_of_le hb.2 (Nat.le_trans hz1 e1)⟩
          · exact ⟨by have := hb.1; omega, Nat.lt_of_lt_of_le hb.2 e1⟩
      case measure => simp [intOf]; omega
    · obtain rfl : k = n := by omega
      go_wp2_with fail
      go_ret
      rw [List.take_of_length_le (by omega)] at hrs
      have hsz := hb.size
      have hlt := hB.lt
      exact ⟨_, rfl, ⟨rs, hrs, ⟨own_shut (Nat.zero_le _) hB hcl (Nat.le_refl _) (by simp only [maxLen]; omega) hcs, fun b hb => by simp only [OwnB, Value.ownBlock, Option.some.injEq] at hb; subst hb; exact ⟨Nat.le_refl _, hlt⟩⟩, hin.wide fun b hb => ⟨by have := hb.1; omega, hb.2⟩, fun r hr b h1 h2 => by
        have h3 := ((hin.each r hr).top b h1).1
        simp only [OwnB, Value.ownBlock, Option.some.injEq] at h2
        omega⟩, hb⟩

theorem szPunchSx_any (A : Option Addr) (n c : Nat) (left : Int) (w : World) (hn : n ≤ 9223372036854775807) (hl : 0 ≤ left) (hl' : left ≤ 1048576) :
    Calls Tryz.prog 49 #[.slice A n c, .int .i64 left] w fun e w' => ∃ l : Int, e = .returned (.int .i64 l) ∧ w = w' ∧ (l = -1 ∨ 0 ≤ l ∧ l = left - n) := by
  by_cases hlt : left - n < 0
  · go_enter Tryz.func49, Tryz.ntmps49
    go_wp2
    go_ret
    exact ⟨_, rfl, rfl, .inl rfl⟩
  · go_enter Tryz.func49, Tryz.ntmps49
    go_wp2
    go_ret
    exact ⟨_, rfl, rfl, .inr ⟨by omega, rfl⟩⟩

theorem szCard_any (A : Option Addr) (n c : Nat) (x : Card) (left : Int) (w : World) (hn : n ≤ 9223372036854775807) (hl : 0 ≤ left) (hl' : left ≤ 1048576) :
    Calls Tryz.prog 25 #[.agg #[(.int .i64 x.number), (.int .i64 x.start), (.int .i64 x.finish), (.slice A n c)], .int .i64 left] w fun e w' => ∃ l : Int, e = .returned (.int .i64 l) ∧ Below w.heap.size w w' ∧ (l = -1 ∨ 0 ≤ l ∧ l = left - n) := by
  go_enter Tryz.func25, Tryz.ntmps25
  go_wp2_with fail
  refine (szPunchSx_any _ _ _ _ _ hn hl hl').mono ?_
  rintro e w' ⟨l1, rfl, rfl, rfl | h1⟩
  · go_wp2_with fail
    go_ret
    exact ⟨_, rfl, (Below.refl _ _).alloc (Nat.le_refl _) _, .inl rfl⟩
  · go_wp2_with fail
    go_ret
    exact ⟨_, rfl, (Below.refl _ _).alloc (Nat.le_refl _) _, .inr (by omega)⟩

set_option maxRecDepth 100000 in
theorem szCardS_any (A : Option Addr) (n c : Nat) (xs : List Card) (left : Int) (w : World) (hx : SeesN cardSh w 0 A n xs) (hk : ∀ x ∈ xs, x.cnt ≤ 9223372036854775807) (hn : n ≤ 9223372036854775807) (hl : 0 ≤ left) (hl' : left ≤ 1048576) :
    Calls Tryz.prog 23 #[.slice A n c, .int .i64 left] w fun e w' => ∃ l : Int, e = .returned (.int .i64 l) ∧ Below w.heap.size w w' ∧ (l = -1 ∨ 0 ≤ l ∧ l = left - n - wtN Card.cnt xs) := by
  have hc := hx.count
  by_cases hlt : left - n < 0
  · go_enter Tryz.func23, Tryz.ntmps23
    go_wp2_with fail
    go_ret
    exact ⟨_, rfl, Below.refl _ _, .inl rfl⟩
  · go_enter Tryz.func23, Tryz.ntmps23
    go_wp2_with fail
    go_loopw [1, 5] (fun q v wr => ∃ (k : Nat) (l : Int), k ≤ n ∧ q = .int .i64 l ∧ v = .int .i64 k ∧ 0 ≤ l ∧ Hid (l = left - n - wtN Card.cnt (xs.take k)) ∧ l ≤ left ∧ Below w.heap.size w wr) (fun _ v _ => n - (intOf v).toNat)
    case atStart => exact ⟨0, _, Nat.zero_le _, rfl, rfl, by omega, Lib.hid (by simp [wtN]), by omega, Below.refl _ _⟩
    case round =>
      obtain ⟨k, l, hk', rfl, rfl, hl0, ha, hll, hb⟩ := hrel
      by_cases hlk : k < n
      · obtain ⟨b, off, B0, m, cc0, rfl, hkx, c0, c1, c2, c3, hxi⟩ := SeesCard.elem (hx.next hb) hlk
        have hm : m = xs[k].cnt := by
          have h2 := hxi.count (by decide) (fun _ => rfl)
          unfold Card.cnt
          omega
        have hkk := hk xs[k] (List.getElem_mem hkx)
        have HN := Lib.hid (wtN_next Card.cnt hkx)
        go_wp2_with fail
        refine (szCard_any _ _ cc0 xs[k] l _ (by omega) hl0 (by omega)).mono ?_
        rintro e w1 ⟨l1, rfl, b1, rfl | ⟨h1, h2⟩⟩
        · go_wp2_with fail
          go_ret
          exact ⟨_, rfl, bel_then hb b1, .inl rfl⟩
        · have HL := Lib.hid h2
          have hll1 : l1 ≤ left := by omega
          clear h2
          go_wp2_with fail
          go_roundw
          case rel => exact ⟨k + 1, l1, by omega, rfl, by go_num, h1, Lib.hid (by rw [HL.out, ha.out, HN.out]; omega), hll1, bel_then hb b1⟩
          case measure => simp [intOf]; omega
      · have ha' := Lib.hid (show l = left - n - wtN Card.cnt xs by rw [ha.out, List.take_of_length_le (by omega)])
        clear ha
        go_wp2_with fail
        go_ret
        exact ⟨_, rfl, hb, .inr ⟨hl0, ha'.out⟩⟩

theorem eqCard_any (A B : Option Addr) (n n' c c' lo lo' : Nat) (x y : Card) (w : World) (hx : Sees w lo 2 A n (x.punches.flatMap Punch.enc)) (hy : Sees w lo' 2 B n' (y.punches.flatMap Punch.enc)) (he : x = y) (hn : n ≤ 1048576) :
    Calls Tryz.prog 38 #[.agg #[(.int .i64 x.number), (.int .i64 x.start), (.int .i64 x.finish), (.slice A n c)], .agg #[(.int .i64 y.number), (.int .i64 y.start), (.int .i64 y.finish), (.slice B n' c')]] w fun e w' => e = .returned (.bool true) ∧ Below w.heap.size w w' := by
  subst he
  go_enter Tryz.func38, Tryz.ntmps38
  go_wp2_with fail
  have K0 : Below w.heap.size w _ := ((Below.refl w.heap.size w).alloc (Nat.le_refl _) (.cells #[(.int .i64 x.number), (.int .i64 x.start), (.int .i64 x.finish), (.slice A n c)] 43)).alloc (by simp) (.cells #[(.int .i64 x.number), (.int .i64 x.start), (.int .i64 x.finish), (.slice B n' c')] 43)
  refine (eqPunchS_any _ _ _ _ _ _ _ _ _ _ _ (hx.next K0) (hy.next K0) rfl (by omega)).mono ?_
  rintro e w1 ⟨rfl, b1⟩
  have K1 := bel_then K0 b1
  have P1 : Blk w1 w.heap.size 43 [(.int .i64 x.number), (.int .i64 x.start), (.int .i64 x.finish), (.slice A n c)] := ((Blk.at_ rfl).alloc _).next b1
  have P2 : Blk w1 (w.heap.size + 1) 43 [(.int .i64 x.number), (.int .i64 x.start), (.int .i64 x.finish), (.slice B n' c')] := (Blk.at_ (by simp)).next b1
  have p1 := P1.cell
  have p2 := P2.cell
  go_wp2_with fail
  go_ret
  exact ⟨rfl, K1⟩

set_option maxRecDepth 100000 in
theorem eqCardS_any (A A' : Option Addr) (n n' c c' lo lo' : Nat) (xs ys : List Card) (w : World) (hx : SeesN cardSh w lo A n xs) (hy : SeesN cardSh w lo' A' n' ys) (he : xs = ys) (hn : n ≤ 140737488355328) (hi : ∀ x ∈ xs, x.cnt ≤ 1048576) :
    Calls Tryz.prog 36 #[.slice A n c, .slice A' n' c'] w fun e w' => e = .returned (.bool true) ∧ Below w.heap.size w w' := by
  subst he
  have hl := hx.count
  have hl' := hy.count
  obtain rfl : n = n' := by omega
  go_enter Tryz.func36, Tryz.ntmps36
  go_wp2_with fail
  go_loopw [5] (fun v wr => ∃ k : Nat, k ≤ n ∧ v = .int .i64 k ∧ Below w.heap.size w wr) (fun v _ => n - (intOf v).toNat)
  case atStart => exact ⟨0, Nat.zero_le _, rfl, Below.refl _ _⟩
  case round =>
    obtain ⟨k, hk, rfl, hb⟩ := hrel
    by_cases hlt : k < n
    · obtain ⟨b, off, B0, m, cc0, rfl, hkx, c0, c1, c2, c3, hxi⟩ := SeesCard.elem (hx.next hb) hlt
      obtain ⟨b', off', B0', m', cc1, rfl, hky, d0, d1, d2, d3, hyi⟩ := SeesCard.elem (hy.next hb) hlt
      have hm : m ≤ 1048576 := by
        have h1 := hi xs[k] (List.getElem_mem hkx)
        have h2 := hxi.count (by decide) (fun _ => rfl)
        unfold Card.cnt at h1
        omega
      have hb' := bel_quiet hb (Quiet.one wr)
      replace hxi := hxi.quiet (Quiet.one wr)
      replace hyi := hyi.quiet (Quiet.one wr)
      go_wp2_with fail
      refine wp_region_still_tail 8 (by kernel_rfl) (by kernel_rfl) ?_
      simp only [List.take_succ_cons, List.take_zero, List.drop_succ_cons, List.drop_zero]
      change wpStill _ _ wr.drew _ _ _
      repeat still_step
      refine wpStill_nil ?_
      change wpList _ _ _ _ _ wr.drew
      generalize wr.drew = w2 at *
      go_wp2_with fail
      refine (eqCard_any _ _ _ _ cc0 cc1 _ _ xs[k] xs[k] _ hxi hyi rfl hm).mono ?_
      rintro e w1 ⟨rfl, hb1⟩
      go_wp2_with fail
      go_roundw
      case rel => exact ⟨k + 1, by omega, by go_num, bel_then hb' hb1⟩
      case measure => simp [intOf]; omega
    · go_wp2_with fail
      go_ret
      exact ⟨rfl, hb⟩

set_option maxRecDepth 100000 in
set_option maxHeartbeats 1000000 in
theorem heldCardS_any (lo n c : Nat) (A : Option Addr) (xs : List Card) (k0 : Int) (w : World) (hx : SeesN cardSh w lo A n (marksN Card.mark Card.wt k0 xs)) (h0 : 0 ≤ k0) (h1 : k0 + wtN Card.wt xs ≤ 1000000000) (hn : n ≤ 1048576) :
    Calls Tryz.prog 44 #[.slice A n c, .int .i64 k0] w fun e w' => e = .returned (.int .i64 (k0 + wtN Card.wt xs)) ∧ Quiet w w' := by
  have hl := hx.count
  rw [marksN_length] at hl
  go_enter Tryz.func44, Tryz.ntmps44
  go_wp2_with fail
  go_loopw [1, 5] (fun q v wr => ∃ k : Nat, k ≤ n ∧ q = .int .i64 (k0 + wtN Card.wt (xs.take k)) ∧ v = .int .i64 k ∧ Quiet w wr) (fun _ v _ => n - (intOf v).toNat)
  case atStart => exact ⟨0, Nat.zero_le _, by simp [wtN], rfl, Quiet.refl _⟩
  case round =>
    obtain ⟨k, hk, rfl, rfl, hq⟩ := hrel
    by_cases hlt : k < n
    · obtain ⟨b, off, B0, m, cc0, rfl, hkx, c0, c1, c2, c3, hxi⟩ := SeesCard.elem (hx.quiet hq) hlt
      have hkx' : k < xs.length := by omega
      have hwa := wtN_at Card.wt hkx'
      have hwn := Lib.hid (wtN_next Card.wt hkx')
      simp only [marksN_get _ _ _ hkx', Card.mark] at c0 c1 c2 c3 hxi
      have hm : m = xs[k].punches.length := by
        have h2 := hxi.count (by decide) (fun _ => rfl)
        simp only [marksOf_length] at h2
        omega
      have hw1 : Card.wt xs[k] = m * 2 + 3 := by unfold Card.wt; rw [hm]
      rw [← hm] at hxi
      clear hm
      generalize hK : k0 + (wtN Card.wt (xs.take k) : Int) = K at *
      have hK1 := Lib.hid hK
      have hb1 : 0 ≤ K ∧ K ≤ 1000000000 - (m * 2 + 3) := by omega
      clear hK
      go_wp2_with fail
      refine (heldPunchS_any _ _ _ _ _ _ hxi (by omega) (by omega) (by omega)).mono ?_
      rintro e w1 ⟨rfl, q1⟩

      have hnn : ¬ (K + 1 + 1 + 1 + ↑m * 2 < 0) := by omega
      have hq1 := hq.trans q1
      go_wp2_with fail
      go_roundw
      case rel => exact ⟨k + 1, by omega, by have e1 := hwn.out; have e2 := hK1.out; congr 1; omega, by go_num, hq1⟩
      case measure => simp [intOf]; omega
    · obtain rfl : k = n := by omega
      rw [List.take_of_length_le (by omega)]
      go_wp2_with fail
      go_ret
      exact ⟨rfl, hq⟩

end Go.Proofs.YtkchdhmnomelkaaGreat
