/- The law's own helpers over areas: printed by nest.py. -/
import Derived.Test.YtljiflbaknakaaaNest
namespace Go.Proofs.Ytljiflbaknakaaa
open Go.RowKit

structure Area where
  id : Int
  cells : List Int
  first : Int
  last : Int
deriving DecidableEq
def areaSh : Sh Area := ⟨fun r => [(.int .i64 r.x.id), (.slice r.A r.n r.c), (.int .i64 r.x.first), (.int .i64 r.x.last)], 4, 1, fun x => (ints x.cells), by decide, fun _ => rfl⟩
def Area.cnt (x : Area) : Nat := x.cells.length
/-- how many marks it takes -/
def Area.wt (x : Area) : Nat := x.cells.length * 1 + 3
def Area.mark (k : Int) (x : Area) : Area := ⟨k, (marks (k + 1) x.cells.length), k + 1 + (x.cells.length : Int), k + 1 + (x.cells.length : Int) + 1⟩
theorem info_impl_Area : (Try.prog.info? 62).map (fun i => (i.zero, i.size, i.bytes)) = some (some (.agg #[.int .i64 0, .slice none 0 0, .int .i64 0, .int .i64 0]), 4, 48) := by kernel_rfl
theorem SeesArea.elem {w : World} {lo n k : Nat} {A : Option Addr} {xs : List Area} (h : SeesN areaSh w lo A n xs) (hk : k < n) :
    ∃ (b off : Nat) (B : Option Addr) (m d : Nat), A = some ⟨b, off, none⟩ ∧ ∃ hkx : k < xs.length, w.cell? ⟨b, off + k * 4, none⟩ = some (.int .i64 xs[k].id) ∧ w.cell? ⟨b, off + k * 4 + 1, none⟩ = some (.slice B m d) ∧ w.cell? ⟨b, off + k * 4 + 2, none⟩ = some (.int .i64 xs[k].first) ∧ w.cell? ⟨b, off + k * 4 + 3, none⟩ = some (.int .i64 xs[k].last) ∧ Sees w lo 1 B m (ints xs[k].cells) := by
  obtain ⟨rs, rfl, h2, h3⟩ := h
  obtain ⟨b, off, rfl, hkx, c0, c1, c2, c3⟩ := Sees.elem4 (enc := areaSh.enc) h2 (fun _ => rfl) hk
  have hx : (rs.map Hd.x)[k]'(by simpa using hkx) = rs[k].x := by simp
  refine ⟨b, off, rs[k].A, rs[k].n, rs[k].c, rfl, by simpa using hkx, ?_, ?_, ?_, ?_, ?_⟩
  · rw [c0, hx]
  · rw [c1]
  · rw [c2, hx]
  · rw [c3, hx]
  · rw [hx]; exact h3 rs[k] (List.getElem_mem hkx)

set_option maxRecDepth 100000 in
theorem toArea_any (A : Option Addr) (n c lo : Nat) (x : Area) (w : World) (hx : Sees w lo 1 A n (ints x.cells)) (hn : n ≤ 1048576) :
    Calls Try.prog 46 #[.agg #[(.int .i64 x.id), (.slice A n c), (.int .i64 x.first), (.int .i64 x.last)]] w fun e w' => ∃ B1, e = .returned (.agg #[(.int .i64 x.id), (.slice B1 n n), (.int .i64 x.first), (.int .i64 x.last)]) ∧ Mine w' (In (w.heap.size + 1) w'.heap.size) 3 1 B1 n n (ints x.cells) ∧ Below w.heap.size w w' := by
  go_enter Try.func46, Try.ntmps46
  go_wp2_with fail
  have K0 : Below w.heap.size w _ := (((Below.refl w.heap.size w).alloc (Nat.le_refl _) (.cells #[(.int .i64 x.id), (.slice A n c), (.int .i64 x.first), (.int .i64 x.last)] 59)).alloc (by simp) (.cells #[.int .i64 0, .slice none 0 0, .int .i64 0, .int .i64 0] 62)).alloc (by simp; omega) (.cells #[(.int .i64 x.id), .slice none 0 0, .int .i64 0, .int .i64 0] 62)
  refine (toIntS_any _ _ _ _ _ ((hx.less (Nat.zero_le _)).next K0) hn).mono ?_
  rintro e w1 ⟨B1, rfl, o1, b1⟩
  have K1 := bel_then K0 b1
  have z1 : w.heap.size + 1 + 1 + 1 ≤ w1.heap.size := by have := b1.size; simpa using this
  have R1 : Blk w1 (w.heap.size + 1) 62 [.int .i64 0, .slice none 0 0, .int .i64 0, .int .i64 0] := ((Blk.at_ (by simp)).alloc _).next b1
  have L1 : Blk w1 (w.heap.size + 1 + 1) 62 [(.int .i64 x.id), .slice none 0 0, .int .i64 0, .int .i64 0] := (Blk.at_ (by simp)).next b1
  have P1 : Blk w1 w.heap.size 59 [(.int .i64 x.id), (.slice A n c), (.int .i64 x.first), (.int .i64 x.last)] := (((Blk.at_ rfl).alloc _).alloc _).next b1
  have p1 := P1.cell
  have l1 := L1.cell
  have lf1 := L1.frozen
  have r1 := R1.cell
  have rf1 := R1.frozen
  go_wp2_with fail
  have RF := (((((((R1.far (p := ⟨w.heap.size + 1 + 1, 1, none⟩) (by simp) (.slice B1 n n)).far (p := ⟨w.heap.size + 1 + 1, 2, none⟩) (by simp) (.int .i64 x.first)).far (p := ⟨w.heap.size + 1 + 1, 3, none⟩) (by simp) (.int .i64 x.last)).set_ 0 (.int .i64 x.id)).set_ 1 (.slice B1 n n)).set_ 2 (.int .i64 x.first)).set_ 3 (.int .i64 x.last))
  have O3 := ((((((((Only.refl (fun b => b = w.heap.size + 1 ∨ b = w.heap.size + 1 + 1) w1).setCell (p := ⟨w.heap.size + 1 + 1, 1, none⟩) (.inr rfl) (.slice B1 n n)).setCell (p := ⟨w.heap.size + 1 + 1, 2, none⟩) (.inr rfl) (.int .i64 x.first)).setCell (p := ⟨w.heap.size + 1 + 1, 3, none⟩) (.inr rfl) (.int .i64 x.last)).setCell (p := ⟨w.heap.size + 1, 0, none⟩) (.inl rfl) (.int .i64 x.id)).setCell (p := ⟨w.heap.size + 1, 1, none⟩) (.inl rfl) (.slice B1 n n)).setCell (p := ⟨w.heap.size + 1, 2, none⟩) (.inl rfl) (.int .i64 x.first)).setCell (p := ⟨w.heap.size + 1, 3, none⟩) (.inl rfl) (.int .i64 x.last))
  have M1 := (Mine.of o1).only O3 (fun b h1 h2 => by have := h1.1; simp at this; rcases h2 with h2 | h2 <;> omega)
  have zF := O3.size
  refine bodyPost_ret (results_cell_row rfl _ _ (w.heap.size + 1) _ _ (0, 0) _ rfl RF Try.underlying62 rfl (by kernel_rfl)) rfl ⟨B1, rfl, M1.wide ?_, ?_⟩
  · intro b hb
    have h1 := hb.1
    have h2 := hb.2
    simp at h1
    exact ⟨by omega, by omega⟩
  · exact K1.trans (O3.below (fun k hk => by rcases hk with hk | hk <;> omega) (by omega))

set_option maxRecDepth 100000 in
set_option maxHeartbeats 1000000 in
theorem toAreaS_any (A : Option Addr) (n c : Nat) (xs : List Area) (w : World) (hx : SeesN areaSh w 0 A n xs) (hn : n ≤ 1048576) (hi : ∀ x ∈ xs, x.cnt ≤ 1048576) :
    Calls Try.prog 18 #[.slice A n c] w fun e w' => ∃ A', e = .returned (.slice A' n n) ∧ MineN areaSh w' (In w.heap.size w'.heap.size) 62 3 A' n n xs ∧ Below w.heap.size w w' := by
  have hl := hx.count
  obtain ⟨zs, hzs, hmk⟩ := make_zeros (P := Try.prog) n Try.underlying31 info_impl_Area (by omega) (by omega)
  go_enter Try.func18, Try.ntmps18
  go_wp2_with fail
  have hB := Blk.new w 62 zs
  have hb0 : Below w.heap.size w (w.alloc (.cells zs.toArray 62)) := (Below.refl _ _).alloc (Nat.le_refl _) _
  clear hmk
  go_loopw [4] (fun v wr => ∃ (k : Nat) (cs : List Value) (rs : List (Hd Area)), k ≤ n ∧ v = .int .i64 k ∧ Blk wr w.heap.size 62 cs ∧ cs.length = n * 4 ∧ rs.map Hd.x = xs.take k ∧ cs.take (k * 4) = rs.flatMap areaSh.enc ∧ Inners areaSh wr (In (w.heap.size + 1) wr.heap.size) 3 rs ∧ Below w.heap.size w wr) (fun v _ => n - (intOf v).toNat)
  case atStart => exact ⟨0, zs, [], Nat.zero_le _, rfl, hB, hzs, rfl, by simp, Inners.nil _, hb0⟩
  case round =>
    obtain ⟨k, cs, rs, hk, rfl, hB, hcl, hrs, hcs, hin, hb⟩ := hrel
    by_cases hlt : k < n
    · obtain ⟨b, off, B0, m, cc0, rfl, hkx, c0, c1, c2, c3, hxi⟩ := SeesArea.elem (hx.next hb) hlt
      have hm : m ≤ 1048576 := by
        have h1 := hi xs[k] (List.getElem_mem hkx)
        have h2 := hxi.icount
        unfold Area.cnt at h1
        omega
      go_wp2_with fail
      refine (toArea_any _ _ cc0 _ xs[k] _ hxi hm).mono ?_
      rintro e w1 ⟨B1, rfl, o1, hb1⟩
      have hB1 := hB.next hb1
      have hlt4 : k * 4 + 4 ≤ cs.length := by omega
      obtain ⟨v0, s0⟩ : ∃ u, w1.cell? ⟨w.heap.size, k * 4, none⟩ = some u := ⟨_, (hB1.cell _).trans (List.getElem?_eq_getElem (by omega))⟩
      obtain ⟨v1, s1⟩ : ∃ u, w1.cell? ⟨w.heap.size, k * 4 + 1, none⟩ = some u := ⟨_, (hB1.cell _).trans (List.getElem?_eq_getElem (by omega))⟩
      obtain ⟨v2, s2⟩ : ∃ u, w1.cell? ⟨w.heap.size, k * 4 + 2, none⟩ = some u := ⟨_, (hB1.cell _).trans (List.getElem?_eq_getElem (by omega))⟩
      obtain ⟨v3, s3⟩ : ∃ u, w1.cell? ⟨w.heap.size, k * 4 + 3, none⟩ = some u := ⟨_, (hB1.cell _).trans (List.getElem?_eq_getElem (by omega))⟩
      have hf := hB1.frozen
      have hz1 := hb1.size
      have hzg := hB.lt
      go_wp2_with fail
      go_roundw
      case rel =>
        have hB2 := hB1.many (areaSh.enc ⟨xs[k], B1, m, m⟩) (k * 4)
        have O2 := (((((Only.refl (fun b => b = w.heap.size) w1).setCell (p := ⟨w.heap.size, k * 4, none⟩) rfl (.int .i64 xs[k].id)).setCell (p := ⟨w.heap.size, k * 4 + 1, none⟩) rfl (.slice B1 m m)).setCell (p := ⟨w.heap.size, k * 4 + 2, none⟩) rfl (.int .i64 xs[k].first)).setCell (p := ⟨w.heap.size, k * 4 + 3, none⟩) rfl (.int .i64 xs[k].last))
        have h3 := ((hin.next hb1).snoc o1 (fun b h1 h2 => by have := h1.2; have := h2.1; omega)).only O2 (fun b h1 h2 => by rcases h1 with h1 | h1 <;> (have := h1.1; omega))
        refine ⟨k + 1, _, rs ++ [⟨xs[k], B1, m, m⟩], by omega, by go_num, hB2, (setMany_length _ _ _).trans hcl, ?_, ?_, h3.wide ?_, bel_many (Nat.le_refl _) (areaSh.enc ⟨xs[k], B1, m, m⟩) (bel_then hb hb1) (k * 4)⟩
        · rw [List.map_append, hrs, List.take_succ_eq_append_getElem hkx]; rfl
        · have := setMany_take (areaSh.enc ⟨xs[k], B1, m, m⟩) cs (k * 4) (by rw [areaSh.len]; exact hlt4)
          rw [areaSh.len, hcs] at this
          rw [List.flatMap_append, Nat.succ_mul]
          exact this.trans (by simp)
        · intro b hb
          have e1 := O2.size
          rcases hb with hb | hb
          · exact ⟨hb.1, Nat.lt_of_lt_of_le hb.2 (Nat.le_trans hz1 e1)⟩
          · exact ⟨by have := hb.1; omega, Nat.lt_of_lt_of_le hb.2 e1⟩
      case measure => simp [intOf]; omega
    · obtain rfl : k = n := by omega
      go_wp2_with fail
      go_ret
      rw [List.take_of_length_le (by omega)] at hrs
      have hsz := hb.size
      have hlt := hB.lt
      exact ⟨_, rfl, ⟨rs, hrs, ⟨own_shut (Nat.zero_le _) hB hcl (Nat.le_refl _) (by simp only [maxLen]; omega) hcs, fun b hb => by simp only [OwnB, Value.ownBlock, Option.some.injEq] at hb; subst hb; exact ⟨Nat.le_refl _, hlt⟩⟩, hin.wide fun b hb => ⟨by have := hb.1; omega, hb.2⟩, fun r hr b h1 h2 => by
        have h3 := ((hin.each r hr).top b h1).1
        simp only [OwnB, Value.ownBlock, Option.some.injEq] at h2
        omega⟩, hb⟩

theorem szIntSx_any (A : Option Addr) (n c : Nat) (left : Int) (w : World) (hn : n ≤ 9223372036854775807) (hl : 0 ≤ left) (hl' : left ≤ 1048576) :
    Calls Try.prog 64 #[.slice A n c, .int .i64 left] w fun e w' => ∃ l : Int, e = .returned (.int .i64 l) ∧ w = w' ∧ (l = -1 ∨ 0 ≤ l ∧ l = left - n) := by
  by_cases hlt : left - n < 0
  · go_enter Try.func64, Try.ntmps64
    go_wp2
    go_ret
    exact ⟨_, rfl, rfl, .inl rfl⟩
  · go_enter Try.func64, Try.ntmps64
    go_wp2
    go_ret
    exact ⟨_, rfl, rfl, .inr ⟨by omega, rfl⟩⟩

theorem szArea_any (A : Option Addr) (n c : Nat) (x : Area) (left : Int) (w : World) (hn : n ≤ 9223372036854775807) (hl : 0 ≤ left) (hl' : left ≤ 1048576) :
    Calls Try.prog 44 #[.agg #[(.int .i64 x.id), (.slice A n c), (.int .i64 x.first), (.int .i64 x.last)], .int .i64 left] w fun e w' => ∃ l : Int, e = .returned (.int .i64 l) ∧ Below w.heap.size w w' ∧ (l = -1 ∨ 0 ≤ l ∧ l = left - n) := by
  go_enter Try.func44, Try.ntmps44
  go_wp2_with fail
  refine (szIntSx_any _ _ _ _ _ hn hl hl').mono ?_
  rintro e w' ⟨l1, rfl, rfl, rfl | h1⟩
  · go_wp2_with fail
    go_ret
    exact ⟨_, rfl, (Below.refl _ _).alloc (Nat.le_refl _) _, .inl rfl⟩
  · go_wp2_with fail
    go_ret
    exact ⟨_, rfl, (Below.refl _ _).alloc (Nat.le_refl _) _, .inr (by omega)⟩

set_option maxRecDepth 100000 in
theorem szAreaS_any (A : Option Addr) (n c : Nat) (xs : List Area) (left : Int) (w : World) (hx : SeesN areaSh w 0 A n xs) (hk : ∀ x ∈ xs, x.cnt ≤ 9223372036854775807) (hn : n ≤ 9223372036854775807) (hl : 0 ≤ left) (hl' : left ≤ 1048576) :
    Calls Try.prog 15 #[.slice A n c, .int .i64 left] w fun e w' => ∃ l : Int, e = .returned (.int .i64 l) ∧ Below w.heap.size w w' ∧ (l = -1 ∨ 0 ≤ l ∧ l = left - n - wtN Area.cnt xs) := by
  have hc := hx.count
  by_cases hlt : left - n < 0
  · go_enter Try.func15, Try.ntmps15
    go_wp2_with fail
    go_ret
    exact ⟨_, rfl, Below.refl _ _, .inl rfl⟩
  · go_enter Try.func15, Try.ntmps15
    go_wp2_with fail
    go_loopw [1, 5] (fun q v wr => ∃ (k : Nat) (l : Int), k ≤ n ∧ q = .int .i64 l ∧ v = .int .i64 k ∧ 0 ≤ l ∧ Hid (l = left - n - wtN Area.cnt (xs.take k)) ∧ l ≤ left ∧ Below w.heap.size w wr) (fun _ v _ => n - (intOf v).toNat)
    case atStart => exact ⟨0, _, Nat.zero_le _, rfl, rfl, by omega, Lib.hid (by simp [wtN]), by omega, Below.refl _ _⟩
    case round =>
      obtain ⟨k, l, hk', rfl, rfl, hl0, ha, hll, hb⟩ := hrel
      by_cases hlk : k < n
      · obtain ⟨b, off, B0, m, cc0, rfl, hkx, c0, c1, c2, c3, hxi⟩ := SeesArea.elem (hx.next hb) hlk
        have hm : m = xs[k].cnt := by
          have h2 := hxi.icount
          unfold Area.cnt
          omega
        have hkk := hk xs[k] (List.getElem_mem hkx)
        have HN := Lib.hid (wtN_next Area.cnt hkx)
        go_wp2_with fail
        refine (szArea_any _ _ cc0 xs[k] l _ (by omega) hl0 (by omega)).mono ?_
        rintro e w1 ⟨l1, rfl, b1, rfl | ⟨h1, h2⟩⟩
        · go_wp2_with fail
          go_ret
          exact ⟨_, rfl, bel_then hb b1, .inl rfl⟩
        · have HL := Lib.hid h2
          have hll1 : l1 ≤ left := by omega
          clear h2
          go_wp2_with fail
          go_roundw
          case rel => exact ⟨k + 1, l1, by omega, rfl, by go_num, h1, Lib.hid (by rw [HL.out, ha.out, HN.out]; omega), hll1, bel_then hb b1⟩
          case measure => simp [intOf]; omega
      · have ha' := Lib.hid (show l = left - n - wtN Area.cnt xs by rw [ha.out, List.take_of_length_le (by omega)])
        clear ha
        go_wp2_with fail
        go_ret
        exact ⟨_, rfl, hb, .inr ⟨hl0, ha'.out⟩⟩

theorem eqArea_any (A B : Option Addr) (n n' c c' lo lo' : Nat) (x y : Area) (w : World) (hx : Sees w lo 1 A n (ints x.cells)) (hy : Sees w lo' 1 B n' (ints y.cells)) (he : x = y) (hn : n ≤ 1048576) :
    Calls Try.prog 48 #[.agg #[(.int .i64 x.id), (.slice A n c), (.int .i64 x.first), (.int .i64 x.last)], .agg #[(.int .i64 y.id), (.slice B n' c'), (.int .i64 y.first), (.int .i64 y.last)]] w fun e w' => e = .returned (.bool true) ∧ Below w.heap.size w w' := by
  subst he
  go_enter Try.func48, Try.ntmps48
  go_wp2_with fail
  have K0 : Below w.heap.size w _ := ((Below.refl w.heap.size w).alloc (Nat.le_refl _) (.cells #[(.int .i64 x.id), (.slice A n c), (.int .i64 x.first), (.int .i64 x.last)] 62)).alloc (by simp) (.cells #[(.int .i64 x.id), (.slice B n' c'), (.int .i64 x.first), (.int .i64 x.last)] 62)
  refine (eqIntS_any _ _ _ _ _ _ _ _ _ _ _ (hx.next K0) (hy.next K0) rfl (by omega)).mono ?_
  rintro e w1 ⟨rfl, q1, rfl⟩
  have K1 := bel_drewN K0 q1
  go_wp2_with fail
  go_ret
  exact ⟨rfl, K1⟩

set_option maxRecDepth 100000 in
theorem eqAreaS_any (A A' : Option Addr) (n n' c c' lo lo' : Nat) (xs ys : List Area) (w : World) (hx : SeesN areaSh w lo A n xs) (hy : SeesN areaSh w lo' A' n' ys) (he : xs = ys) (hn : n ≤ 140737488355328) (hi : ∀ x ∈ xs, x.cnt ≤ 1048576) :
    Calls Try.prog 21 #[.slice A n c, .slice A' n' c'] w fun e w' => e = .returned (.bool true) ∧ Below w.heap.size w w' := by
  subst he
  have hl := hx.count
  have hl' := hy.count
  obtain rfl : n = n' := by omega
  go_enter Try.func21, Try.ntmps21
  go_wp2_with fail
  go_loopw [5] (fun v wr => ∃ k : Nat, k ≤ n ∧ v = .int .i64 k ∧ Below w.heap.size w wr) (fun v _ => n - (intOf v).toNat)
  case atStart => exact ⟨0, Nat.zero_le _, rfl, Below.refl _ _⟩
  case round =>
    obtain ⟨k, hk, rfl, hb⟩ := hrel
    by_cases hlt : k < n
    · obtain ⟨b, off, B0, m, cc0, rfl, hkx, c0, c1, c2, c3, hxi⟩ := SeesArea.elem (hx.next hb) hlt
      obtain ⟨b', off', B0', m', cc1, rfl, hky, d0, d1, d2, d3, hyi⟩ := SeesArea.elem (hy.next hb) hlt
      have hm : m ≤ 1048576 := by
        have h1 := hi xs[k] (List.getElem_mem hkx)
        have h2 := hxi.icount
        unfold Area.cnt at h1
        omega
      have hb' := bel_quiet hb (Quiet.one wr)
      replace hxi := hxi.quiet (Quiet.one wr)
      replace hyi := hyi.quiet (Quiet.one wr)
      go_wp2_with fail
      refine wp_region_still_tail 8 (by kernel_rfl) (by kernel_rfl) ?_
      simp only [List.take_succ_cons, List.take_zero, List.drop_succ_cons, List.drop_zero]
      change wpStill _ _ wr.drew _ _ _
      repeat still_step
      refine wpStill_nil ?_
      change wpList _ _ _ _ _ wr.drew
      generalize wr.drew = w2 at *
      go_wp2_with fail
      refine (eqArea_any _ _ _ _ cc0 cc1 _ _ xs[k] xs[k] _ hxi hyi rfl hm).mono ?_
      rintro e w1 ⟨rfl, hb1⟩
      go_wp2_with fail
      go_roundw
      case rel => exact ⟨k + 1, by omega, by go_num, bel_then hb' hb1⟩
      case measure => simp [intOf]; omega
    · go_wp2_with fail
      go_ret
      exact ⟨rfl, hb⟩

set_option maxRecDepth 100000 in
set_option maxHeartbeats 1000000 in
theorem heldAreaS_any (lo n c : Nat) (A : Option Addr) (xs : List Area) (k0 : Int) (w : World) (hx : SeesN areaSh w lo A n (marksN Area.mark Area.wt k0 xs)) (h0 : 0 ≤ k0) (h1 : k0 + wtN Area.wt xs ≤ 1000000000) (hn : n ≤ 1048576) :
    Calls Try.prog 33 #[.slice A n c, .int .i64 k0] w fun e w' => e = .returned (.int .i64 (k0 + wtN Area.wt xs)) ∧ Quiet w w' := by
  have hl := hx.count
  rw [marksN_length] at hl
  go_enter Try.func33, Try.ntmps33
  go_wp2_with fail
  go_loopw [1, 5] (fun q v wr => ∃ k : Nat, k ≤ n ∧ q = .int .i64 (k0 + wtN Area.wt (xs.take k)) ∧ v = .int .i64 k ∧ Quiet w wr) (fun _ v _ => n - (intOf v).toNat)
  case atStart => exact ⟨0, Nat.zero_le _, by simp [wtN], rfl, Quiet.refl _⟩
  case round =>
    obtain ⟨k, hk, rfl, rfl, hq⟩ := hrel
    by_cases hlt : k < n
    · obtain ⟨b, off, B0, m, cc0, rfl, hkx, c0, c1, c2, c3, hxi⟩ := SeesArea.elem (hx.quiet hq) hlt
      have hkx' : k < xs.length := by omega
      have hwa := wtN_at Area.wt hkx'
      have hwn := Lib.hid (wtN_next Area.wt hkx')
      simp only [marksN_get _ _ _ hkx', Area.mark] at c0 c1 c2 c3 hxi
      have hm : m = xs[k].cells.length := by
        have h2 := hxi.icount
        simp only [marks_length] at h2
        omega
      have hw1 : Area.wt xs[k] = m * 1 + 3 := by unfold Area.wt; rw [hm]
      rw [← hm] at hxi c2 c3
      clear hm
      generalize hK : k0 + (wtN Area.wt (xs.take k) : Int) = K at *
      have hK1 := Lib.hid hK
      have hb1 : 0 ≤ K ∧ K ≤ 1000000000 - (m * 1 + 3) := by omega
      clear hK
      go_wp2_with fail
      refine (heldIntS_any _ _ _ _ _ _ hxi (by omega) (by omega) (by omega)).mono ?_
      rintro e w1 ⟨rfl, q1⟩
      replace c2 := (q1.below wr.heap.size).cell (p := ⟨b, off + k * 4 + 2, none⟩) (World.block_lt_of_cell? wr _ c2) |>.trans c2
      replace c3 := (q1.below wr.heap.size).cell (p := ⟨b, off + k * 4 + 3, none⟩) (World.block_lt_of_cell? wr _ c3) |>.trans c3
      have hnn : ¬ (K + 1 + ↑m < 0) := by omega
      have hq1 := hq.trans q1
      go_wp2_with fail
      go_roundw
      case rel => exact ⟨k + 1, by omega, by have e1 := hwn.out; have e2 := hK1.out; congr 1; omega, by go_num, hq1⟩
      case measure => simp [intOf]; omega
    · obtain rfl : k = n := by omega
      rw [List.take_of_length_le (by omega)]
      go_wp2_with fail
      go_ret
      exact ⟨rfl, hq⟩

end Go.Proofs.Ytljiflbaknakaaa
