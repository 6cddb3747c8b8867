/- Copies of cards, as the program and as the reference make them. -/
import Derived.Test.YtkchdhmnomelkaaGreatCardT
import Derived.Test.YtkchdhmnomelkaaGreatCopy
import Derived.Test.YtkchdhmnomelkaaGreatNest3
namespace Go.Proofs.YtkchdhmnomelkaaGreat
open Go.RowKit

theorem punch_all (xs : List Punch) : (xs.flatMap Punch.enc).all Value.oneCell' = true := by
  rw [List.all_eq_true]
  intro v hv
  obtain ⟨x, _, h⟩ := List.mem_flatMap.1 hv
  simp only [Punch.enc, List.mem_cons, List.not_mem_nil, or_false] at h
  rcases h with rfl | rfl <;> rfl
/-- A card, its punches in memory of the call's own. -/
def GivesCard (w : World) (x : Card) (n : Nat) (e : Ending) (w' : World) : Prop :=
  ∃ B d, e = .returned (.agg #[.int .i64 x.number, .int .i64 x.start, .int .i64 x.finish, .slice B n d]) ∧ w'.ownsRow w.heap.size 106 2 (.slice B n d) n (x.punches.flatMap Punch.enc) ∧ Below w.heap.size w w'
/-- Cards in memory of the call's own. -/
def GivesCards (w : World) (xs : List Card) (e : Ending) (w' : World) : Prop :=
  ∃ A c, e = .returned (.slice A xs.length c) ∧ MineN cardSh w' (In w.heap.size w'.heap.size) 43 106 A xs.length c xs ∧ Below w.heap.size w w'

set_option maxRecDepth 100000 in
set_option maxHeartbeats 1000000 in
theorem newCard_any (A : Option Addr) (n c lo : Nat) (x : Card) (w : World) (hx : Sees w lo 2 A n (x.punches.flatMap Punch.enc)) (hn : n ≤ 1048576) :
    Calls Tryz.prog 72 #[.agg #[.int .i64 x.number, .int .i64 x.start, .int .i64 x.finish, .slice A n c]] w (GivesCard w x n) := by
  have K0 : Below w.heap.size w (((w.alloc (.cells #[.int .i64 x.number, .int .i64 x.start, .int .i64 x.finish, .slice A n c] 43)).alloc (.cells #[.int .i64 0, .int .i64 0, .int .i64 0, .slice none 0 0] 43)).alloc (.cells #[] 106)) := (((Below.refl w.heap.size w).alloc (Nat.le_refl _) _).alloc (by simp) _).alloc (by simp; omega) _
  have P0 : Blk (((w.alloc (.cells #[.int .i64 x.number, .int .i64 x.start, .int .i64 x.finish, .slice A n c] 43)).alloc (.cells #[.int .i64 0, .int .i64 0, .int .i64 0, .slice none 0 0] 43)).alloc (.cells #[] 106)) w.heap.size 43 [.int .i64 x.number, .int .i64 x.start, .int .i64 x.finish, .slice A n c] := ((Blk.at_ rfl).alloc _).alloc _
  have R0 : Blk (((w.alloc (.cells #[.int .i64 x.number, .int .i64 x.start, .int .i64 x.finish, .slice A n c] 43)).alloc (.cells #[.int .i64 0, .int .i64 0, .int .i64 0, .slice none 0 0] 43)).alloc (.cells #[] 106)) (w.heap.size + 1) 43 [.int .i64 0, .int .i64 0, .int .i64 0, .slice none 0 0] := (Blk.at_ (by simp)).alloc _
  have hown := own_empty_at (w := ((w.alloc (.cells #[.int .i64 x.number, .int .i64 x.start, .int .i64 x.finish, .slice A n c] 43)).alloc (.cells #[.int .i64 0, .int .i64 0, .int .i64 0, .slice none 0 0] 43))) (g := w.heap.size + 1 + 1) 106 2 (by simp)
  have hx0 := hx.next K0
  have z0 : (((w.alloc (.cells #[.int .i64 x.number, .int .i64 x.start, .int .i64 x.finish, .slice A n c] 43)).alloc (.cells #[.int .i64 0, .int .i64 0, .int .i64 0, .slice none 0 0] 43)).alloc (.cells #[] 106)).heap.size = w.heap.size + 1 + 1 + 1 := by simp
  have Z0 := Lib.hid z0
  clear z0
  go_enter Tryz.func72, Tryz.ntmps72
  go_wp2_with (at_builtin; go_loud (refine wpList_cat rfl _ _ _ rfl Tryz.underlying41 info_impl_Punch rfl (by decide) rfl hown rfl hx0 (punch_all _) (by omega) (by omega) (by decide) (by have := Z0.out; omega) ?_); intro A1 c1 w1 o1 h1 b1 q1; have P1 := P0.only h1 (own_not hown (by omega)); have R1 := R0.only h1 (own_not hown (by omega)); have pc := P1.cell; have pf := P1.frozen; have rc := R1.cell; have rf := R1.frozen)
  simp only [Nat.zero_add, List.nil_append] at o1 ⊢
  have K1 : Below w.heap.size w w1 := K0.trans (b1.mono (by omega))
  have RF := ((((R1.far (p := ⟨w.heap.size, 3, none⟩) (by simp) (.slice A1 n c1)).set_ 0 (.int .i64 x.number)).set_ 1 (.int .i64 x.start)).set_ 2 (.int .i64 x.finish)).set_ 3 (.slice A1 n c1)
  have E := (((((Only.refl (fun b => b = w.heap.size ∨ b = w.heap.size + 1) w1).setCell (p := ⟨w.heap.size, 3, none⟩) (.inl rfl) (.slice A1 n c1)).setCell (p := ⟨w.heap.size + 1, 0, none⟩) (.inr rfl) (.int .i64 x.number)).setCell (p := ⟨w.heap.size + 1, 1, none⟩) (.inr rfl) (.int .i64 x.start)).setCell (p := ⟨w.heap.size + 1, 2, none⟩) (.inr rfl) (.int .i64 x.finish)).setCell (p := ⟨w.heap.size + 1, 3, none⟩) (.inr rfl) (.slice A1 n c1)
  have oF := own_only o1 E (fun b hb h => by have := (own_top o1 hb).1; omega)
  have zF := E.size
  have z1 := K1.size
  refine bodyPost_ret (results_cell_row rfl _ _ (w.heap.size + 1) _ _ (0, 0) _ rfl RF Tryz.underlying43 rfl (by kernel_rfl)) rfl ⟨A1, c1, rfl, own_base oF (by omega), ?_⟩
  exact K1.trans (E.below (fun k hk => by rcases hk with hk | hk <;> omega) (by omega))

set_option maxRecDepth 100000 in
set_option maxHeartbeats 2000000 in
theorem l12Own_any (A : Option Addr) (n c lo : Nat) (x : Card) (w : World) (hx : Sees w lo 2 A n (x.punches.flatMap Punch.enc)) (hn : n ≤ 1048576) :
    Calls Tryz.prog 60 #[.agg #[.int .i64 x.number, .int .i64 x.start, .int .i64 x.finish, .slice A n c]] w (GivesCard w x n) := by
  have K0 : Below w.heap.size w (((w.alloc (.cells #[.int .i64 x.number, .int .i64 x.start, .int .i64 x.finish, .slice A n c] 43)).alloc (.cells #[.int .i64 0, .int .i64 0, .int .i64 0, .slice none 0 0] 43)).alloc (.cells #[] 106)).drew := bel_quiet ((((Below.refl w.heap.size w).alloc (Nat.le_refl _) _).alloc (by simp) _).alloc (by simp; omega) _) (Quiet.one _)
  have P0 : Blk (((w.alloc (.cells #[.int .i64 x.number, .int .i64 x.start, .int .i64 x.finish, .slice A n c] 43)).alloc (.cells #[.int .i64 0, .int .i64 0, .int .i64 0, .slice none 0 0] 43)).alloc (.cells #[] 106)).drew w.heap.size 43 [.int .i64 x.number, .int .i64 x.start, .int .i64 x.finish, .slice A n c] := (((Blk.at_ rfl).alloc _).alloc _ : Blk (((w.alloc (.cells #[.int .i64 x.number, .int .i64 x.start, .int .i64 x.finish, .slice A n c] 43)).alloc (.cells #[.int .i64 0, .int .i64 0, .int .i64 0, .slice none 0 0] 43)).alloc (.cells #[] 106)) w.heap.size 43 [.int .i64 x.number, .int .i64 x.start, .int .i64 x.finish, .slice A n c])
  have R0 : Blk (((w.alloc (.cells #[.int .i64 x.number, .int .i64 x.start, .int .i64 x.finish, .slice A n c] 43)).alloc (.cells #[.int .i64 0, .int .i64 0, .int .i64 0, .slice none 0 0] 43)).alloc (.cells #[] 106)).drew (w.heap.size + 1) 43 [.int .i64 0, .int .i64 0, .int .i64 0, .slice none 0 0] := ((Blk.at_ (by simp)).alloc _ : Blk (((w.alloc (.cells #[.int .i64 x.number, .int .i64 x.start, .int .i64 x.finish, .slice A n c] 43)).alloc (.cells #[.int .i64 0, .int .i64 0, .int .i64 0, .slice none 0 0] 43)).alloc (.cells #[] 106)) (w.heap.size + 1) 43 [.int .i64 0, .int .i64 0, .int .i64 0, .slice none 0 0])
  have hown := own_below (own_empty_at (w := ((w.alloc (.cells #[.int .i64 x.number, .int .i64 x.start, .int .i64 x.finish, .slice A n c] 43)).alloc (.cells #[.int .i64 0, .int .i64 0, .int .i64 0, .slice none 0 0] 43))) (g := w.heap.size + 1 + 1) 106 2 (by simp)) ((Quiet.one _).below _)
  have hx0 := hx.next K0
  have z0 : (((w.alloc (.cells #[.int .i64 x.number, .int .i64 x.start, .int .i64 x.finish, .slice A n c] 43)).alloc (.cells #[.int .i64 0, .int .i64 0, .int .i64 0, .slice none 0 0] 43)).alloc (.cells #[] 106)).drew.heap.size = w.heap.size + 1 + 1 + 1 := by show (((w.alloc (.cells #[.int .i64 x.number, .int .i64 x.start, .int .i64 x.finish, .slice A n c] 43)).alloc (.cells #[.int .i64 0, .int .i64 0, .int .i64 0, .slice none 0 0] 43)).alloc (.cells #[] 106)).heap.size = _; simp
  have Z0 := Lib.hid z0
  have pc0 := P0.cell
  clear z0
  go_enter Tryz.func60, Tryz.ntmps60
  go_wp2_with fail
  refine wp_region_held_drew (S := fun w' => w'.cell? ⟨w.heap.size, 0, none⟩ = some (.int .i64 x.number) ∧ w'.cell? ⟨w.heap.size, 1, none⟩ = some (.int .i64 x.start) ∧ w'.cell? ⟨w.heap.size, 2, none⟩ = some (.int .i64 x.finish) ∧ w'.cell? ⟨w.heap.size, 3, none⟩ = some (.slice A n c)) (by kernel_rfl) (by (try dsimp only); go_keep) (fun hHeld => ?_)
  refine wpAnyH_take (i := 0) (v := ?_) rfl (by kernel_rfl) (by kernel_rfl) (by kernel_rfl) (fun _ _ _ h => h) (Or.inl ⟨by rfl, ?_⟩) (by assumption) ?_
  rotate_left 1
  · (intro w hSw; (try dsimp only at hSw); go_simp; try with_reducible rfl)
  simp only [Act.put, List.setIfInBounds_toArray, List.set_cons_zero, List.set_cons_succ, List.getElem_toArray, List.getElem_cons_zero]
  refine wpAnyH_take (i := 1) (v := ?_) rfl (by kernel_rfl) (by kernel_rfl) (by kernel_rfl) (fun _ _ _ h => h) (Or.inl ⟨by rfl, ?_⟩) (by assumption) ?_
  rotate_left 1
  · (intro w hSw; (try dsimp only at hSw); go_simp; try with_reducible rfl)
  simp only [Act.put, List.setIfInBounds_toArray, List.set_cons_zero, List.set_cons_succ, List.getElem_toArray, List.getElem_cons_zero, List.getElem_cons_succ]
  refine wpAnyH_take (i := 2) (v := ?_) rfl (by kernel_rfl) (by kernel_rfl) (by kernel_rfl) (fun _ _ _ h => h) (Or.inl ⟨by rfl, ?_⟩) (by assumption) ?_
  rotate_left 1
  · (intro w hSw; (try dsimp only at hSw); go_simp; try with_reducible rfl)
  simp only [Act.put, List.setIfInBounds_toArray, List.set_cons_zero, List.set_cons_succ, List.getElem_toArray, List.getElem_cons_zero, List.getElem_cons_succ]
  refine wpAnyH_take (i := 3) (v := ?_) rfl (by kernel_rfl) (by kernel_rfl) (by kernel_rfl) (fun _ _ _ h => h) (Or.inl ⟨by rfl, ?_⟩) (by assumption) ?_
  rotate_left 1
  · (intro w hSw; (try dsimp only at hSw); go_simp; try with_reducible rfl)
  simp only [Act.put, List.setIfInBounds_toArray, List.set_cons_zero, List.set_cons_succ, List.getElem_toArray, List.getElem_cons_zero, List.getElem_cons_succ]
  refine wpAnyH_take (i := 4) (v := ?_) rfl (by kernel_rfl) (by kernel_rfl) (by kernel_rfl) (fun _ _ _ h => h) (Or.inl ⟨by rfl, ?_⟩) (by assumption) ?_
  rotate_left 1
  · (intro w hSw; (try dsimp only at hSw); go_simp; try with_reducible rfl)
  simp only [Act.put, List.setIfInBounds_toArray, List.set_cons_zero, List.set_cons_succ, List.getElem_toArray, List.getElem_cons_zero, List.getElem_cons_succ]
  refine wpAnyH_take (i := 5) (v := ?_) rfl (by kernel_rfl) (by kernel_rfl) (by kernel_rfl) (fun _ _ _ h => h) (Or.inl ⟨by rfl, ?_⟩) (by assumption) ?_
  rotate_left 1
  · (intro w hSw; (try dsimp only at hSw); go_simp; try with_reducible rfl)
  simp only [Act.put, List.setIfInBounds_toArray, List.set_cons_zero, List.set_cons_succ, List.getElem_toArray, List.getElem_cons_zero, List.getElem_cons_succ]
  refine wpAnyH_take (i := 7) (v := ?_) rfl (by kernel_rfl) (by kernel_rfl) (by kernel_rfl) (fun _ _ _ h => h) (Or.inl ⟨by rfl, ?_⟩) (by assumption) ?_
  rotate_left 1
  · (intro w hSw; (try dsimp only at hSw); go_simp; try with_reducible rfl)
  simp only [Act.put, List.setIfInBounds_toArray, List.set_cons_zero, List.set_cons_succ, List.getElem_toArray, List.getElem_cons_zero, List.getElem_cons_succ]
  refine wpAnyH_take (i := 8) (v := ?_) rfl (by kernel_rfl) (by kernel_rfl) (by kernel_rfl) (fun _ _ _ h => h) (Or.inl ⟨by rfl, ?_⟩) (by assumption) ?_
  rotate_left 1
  · (intro w hSw; (try dsimp only at hSw); go_simp; try with_reducible rfl)
  simp only [Act.put, List.setIfInBounds_toArray, List.set_cons_zero, List.set_cons_succ, List.getElem_toArray, List.getElem_cons_zero, List.getElem_cons_succ]
  refine wpAnyH_ready (rs := [6]) (by kernel_rfl) (by simp) ?_
  refine AllReadyH.cons rfl (fun K hK => ?_) AllReadyH.nil
  go_simp
  refine hK.out _ _ (by (try dsimp only); go_keep) (fun hHeld => ?_)
  clear hK K
  try simp only [Act.put, List.setIfInBounds_toArray, List.set_cons_zero, List.set_cons_succ, List.getElem_toArray, List.getElem_cons_zero, List.getElem_cons_succ]
  refine wpAnyH_ready (rs := [9]) (by kernel_rfl) (by simp) ?_
  refine AllReadyH.cons rfl (fun K hK => ?_) AllReadyH.nil
  refine step_cat rfl _ _ _ (by rfl) Tryz.underlying41 info_impl_Punch rfl (by decide) (by rfl) hown (by rfl) (m := n) hx0 (punch_all _) (by omega) (by omega) (by decide) (by have := Z0.out; omega) ?_
  intro A1 c1 w1 o1 h1 b1 q1
  have P1 := P0.only h1 (own_not hown (by omega))
  have R1 := R0.only h1 (own_not hown (by omega))
  clear pc0
  have pc := P1.cell
  have rc := R1.cell
  have rf := R1.frozen
  simp only [Nat.zero_add, List.nil_append] at o1
  (try simp only [Nat.zero_add])
  refine hK.out _ _ (by (try dsimp only); go_keep) (fun hHeld => ?_)
  clear hK K
  try simp only [Act.put, List.setIfInBounds_toArray, List.set_cons_zero, List.set_cons_succ, List.getElem_toArray, List.getElem_cons_zero, List.getElem_cons_succ]
  refine wpAnyH_take (i := 10) (v := ?_) rfl (by kernel_rfl) (by kernel_rfl) (by kernel_rfl) (fun _ _ _ h => h) (Or.inl ⟨by rfl, ?_⟩) (by assumption) ?_
  rotate_left 1
  · (intro w hSw; (try dsimp only at hSw); go_simp; try with_reducible rfl)
  simp only [Act.put, List.setIfInBounds_toArray, List.set_cons_zero, List.set_cons_succ, List.getElem_toArray, List.getElem_cons_zero, List.getElem_cons_succ]
  refine wpAnyH_ready (rs := [11]) (by kernel_rfl) (by simp) ?_
  refine AllReadyH.cons rfl (fun K hK => ?_) AllReadyH.nil
  go_simp
  refine hK.out _ _ (by (try dsimp only); go_keep) (fun hHeld => ?_)
  clear hK K
  try simp only [Act.put, List.setIfInBounds_toArray, List.set_cons_zero, List.set_cons_succ, List.getElem_toArray, List.getElem_cons_zero, List.getElem_cons_succ]
  refine wpAnyH_done (by kernel_rfl) ?_ _
  go_wp2_with fail
  have K1 : Below w.heap.size w w1 := K0.trans (b1.mono (by omega))
  have RF := (((R1.set_ 0 (.int .i64 x.number)).set_ 1 (.int .i64 x.start)).set_ 2 (.int .i64 x.finish)).set_ 3 (.slice A1 n c1)
  have E := ((((Only.refl (fun b => b = w.heap.size + 1) w1).setCell (p := ⟨w.heap.size + 1, 0, none⟩) rfl (.int .i64 x.number)).setCell (p := ⟨w.heap.size + 1, 1, none⟩) rfl (.int .i64 x.start)).setCell (p := ⟨w.heap.size + 1, 2, none⟩) rfl (.int .i64 x.finish)).setCell (p := ⟨w.heap.size + 1, 3, none⟩) rfl (.slice A1 n c1)
  have oF := own_only o1 E (fun b hb h => by have := (own_top o1 hb).1; omega)
  have zF := E.size
  have z1 := K1.size
  refine bodyPost_ret (results_cell_row rfl _ _ (w.heap.size + 1) _ _ (0, 0) _ rfl RF Tryz.underlying43 rfl (by kernel_rfl)) rfl ⟨A1, c1, rfl, own_base oF (by omega), ?_⟩
  exact K1.trans (E.below (fun k hk => by omega) (by omega))

set_option maxRecDepth 100000 in
set_option maxHeartbeats 2000000 in
theorem newCards_any (A : Option Addr) (n c : Nat) (xs : List Card) (w : World) (hx : SeesN cardSh w 0 A n xs) (hn : n ≤ 1048576) (hi : ∀ x ∈ xs, x.cnt ≤ 1048576) :
    Calls Tryz.prog 83 #[.slice A n c] w (GivesCards w xs) := by
  have HL := Lib.hid hx.count
  have hl1 : xs.length ≤ n := by rw [HL.out]; exact Nat.le_refl _
  have hl2 : n ≤ xs.length := by rw [HL.out]; exact Nat.le_refl _
  go_enter Tryz.func83, Tryz.ntmps83
  go_wp2_with fail
  have hown0 := own_empty w 43 4
  have hb0 : Below w.heap.size w (w.alloc (.cells #[] 43)) := (Below.refl _ _).alloc (Nat.le_refl _) _
  go_loopw [3, 9] (fun v i wr => ∃ (k : Nat) (rs : List (Hd Card)) (A' : Option Addr) (c' : Nat), k ≤ n ∧ i = .int .i64 k ∧ v = .slice A' k c' ∧ wr.ownsRow w.heap.size 43 4 (.slice A' k c') k (rs.flatMap cardSh.enc) ∧ Hid (rs.map Hd.x = xs.take k) ∧ Inners cardSh wr (In w.heap.size wr.heap.size) 106 rs ∧ (∀ r ∈ rs, ∀ b, OwnB r.A b → ¬ OwnB A' b) ∧ Below w.heap.size w wr) (fun _ i _ => n - (intOf i).toNat)
  case atStart => exact ⟨0, [], _, _, Nat.zero_le _, rfl, rfl, hown0, Lib.hid rfl, Inners.nil _, by simp, hb0⟩
  case round =>
    obtain ⟨k, rs, A', c', hk, rfl, rfl, hown, HR, hin, hap, hb⟩ := hrel
    by_cases hlt : k < n
    · obtain ⟨b, off, B0, mc, cc0, rfl, hkx, x0, x1, x2, x3, hxi⟩ := SeesCard.elem (hx.next hb) hlt
      have hmb : mc ≤ 1048576 := by
        have h1 := hi xs[k] (List.getElem_mem hkx)
        have hmc := hxi.count (by decide) (fun _ => rfl)
        unfold Card.cnt at h1
        omega
      have hblt : b < wr.heap.size := World.block_lt_of_cell? wr _ x0
      have hzw := hb.size
      have HN := Lib.hid (show (rs ++ [(⟨xs[k], none, 0, 0⟩ : Hd Card)]).map Hd.x = xs.take (k + 1) by rw [List.map_append, HR.out, List.take_succ_eq_append_getElem hkx]; rfl)
      go_wp2_with fail
      have K1 : Below wr.heap.size wr (wr.alloc (.cells #[.int .i64 xs[k].number, .int .i64 xs[k].start, .int .i64 xs[k].finish, .slice B0 mc cc0] 43)) := (Below.refl _ _).alloc (Nat.le_refl _) _
      refine (newCard_any B0 mc cc0 0 xs[k] _ (hxi.next K1) hmb).mono ?_
      rintro e w2 ⟨B1, d1, rfl, o1, b2⟩
      have K2 := bel_then K1 b2
      have z2 := b2.size
      simp only [World.size_alloc] at z2 o1
      have hown2 := own_below hown K2
      have hin2 := hin.next K2
      clear x0 x1 x2 x3
      go_wp2_with (at_builtin; go_loud (refine wpList_pushNew rfl _ _ _ rfl Tryz.underlying34 info_impl_Card rfl (by decide) rfl hown2 rfl (by simp) (by rfl) (by rfl) (by omega) (by decide) (by omega) ?_); intro A2 c2 w3 hown3 ho3 hbb3 hat3)
      have hs := nest_snoc (sh := cardSh) (x := xs[k]) (B1 := B1) (d := d1) (D := fun _ => False) hin2 hap (fun b hb => (own_top hown hb).2) o1 (fun b hb => hb.elim) (by omega) (Only.refl _ _) ho3 hat3 hzw (by omega)
      go_roundw
      case rel => exact ⟨k + 1, rs ++ [⟨xs[k], B1, mc, d1⟩], A2, c2, by omega, by go_num, rfl, by rw [List.flatMap_append]; exact hown3, Lib.hid (by have h := HN.out; rw [List.map_append] at h ⊢; exact h), hs.1, hs.2, (hb.trans (K2.mono hzw)).trans hbb3⟩
      case measure => simp [intOf]; omega
    · obtain rfl : k = n := by omega
      have HE := Lib.hid (show rs.map Hd.x = xs by rw [HR.out, List.take_of_length_le (by omega)])
      go_wp2_with fail
      go_ret
      have e := HL.out
      subst e
      exact ⟨A', c', rfl, ⟨rs, HE.out, Mine.of hown, hin, hap⟩, hb⟩

set_option maxRecDepth 100000 in
set_option maxHeartbeats 2000000 in
theorem l25List_any (A : Option Addr) (n c : Nat) (xs : List Card) (w : World) (hx : SeesN cardSh w 0 A n xs) (hn : n ≤ 1048576) (hi : ∀ x ∈ xs, x.cnt ≤ 1048576) :
    Calls Tryz.prog 81 #[.slice A n c] w (GivesCards w xs) := by
  have HL := Lib.hid hx.count
  have hl1 : xs.length ≤ n := by rw [HL.out]; exact Nat.le_refl _
  have hl2 : n ≤ xs.length := by rw [HL.out]; exact Nat.le_refl _
  go_enter Tryz.func81, Tryz.ntmps81
  go_wp2_with fail
  have hown0 := own_empty w 43 4
  have hb0 : Below w.heap.size w (w.alloc (.cells #[] 43)) := (Below.refl _ _).alloc (Nat.le_refl _) _
  go_loopw [3, 4] (fun v i wr => ∃ (k : Nat) (rs : List (Hd Card)) (A' : Option Addr) (c' : Nat), k ≤ n ∧ i = .int .i64 k ∧ v = .slice A' k c' ∧ wr.ownsRow w.heap.size 43 4 (.slice A' k c') k (rs.flatMap cardSh.enc) ∧ Hid (rs.map Hd.x = xs.take k) ∧ Inners cardSh wr (In w.heap.size wr.heap.size) 106 rs ∧ (∀ r ∈ rs, ∀ b, OwnB r.A b → ¬ OwnB A' b) ∧ Below w.heap.size w wr) (fun _ i _ => n - (intOf i).toNat)
  case atStart => exact ⟨0, [], _, _, Nat.zero_le _, rfl, rfl, hown0, Lib.hid rfl, Inners.nil _, by simp, hb0⟩
  case round =>
    obtain ⟨k, rs, A', c', hk, rfl, rfl, hown, HR, hin, hap, hb⟩ := hrel
    by_cases hlt : k < n
    · obtain ⟨b, off, B0, mc, cc0, rfl, hkx, x0, x1, x2, x3, hxi⟩ := SeesCard.elem (hx.next hb) hlt
      have hmb : mc ≤ 1048576 := by
        have h1 := hi xs[k] (List.getElem_mem hkx)
        have hmc := hxi.count (by decide) (fun _ => rfl)
        unfold Card.cnt at h1
        omega
      have hblt : b < wr.heap.size := World.block_lt_of_cell? wr _ x0
      have hzw := hb.size
      have HN := Lib.hid (show (rs ++ [(⟨xs[k], none, 0, 0⟩ : Hd Card)]).map Hd.x = xs.take (k + 1) by rw [List.map_append, HR.out, List.take_succ_eq_append_getElem hkx]; rfl)
      go_wp2_with fail
      refine (l12Own_any B0 mc cc0 0 xs[k] _ hxi hmb).mono ?_
      rintro e w2 ⟨B1, d1, rfl, o1, b2⟩
      have K2 := b2
      have z2 := b2.size
      have hown2 := own_below hown K2
      have hin2 := hin.next K2
      clear x0 x1 x2 x3
      go_wp2_with (at_builtin; go_loud (refine wpList_pushNew rfl _ _ _ rfl Tryz.underlying34 info_impl_Card rfl (by decide) rfl hown2 rfl (by simp) (by rfl) (by rfl) (by omega) (by decide) (by omega) ?_); intro A2 c2 w3 hown3 ho3 hbb3 hat3)
      have hs := nest_snoc (sh := cardSh) (x := xs[k]) (B1 := B1) (d := d1) (D := fun _ => False) hin2 hap (fun b hb => (own_top hown hb).2) o1 (fun b hb => hb.elim) (by omega) (Only.refl _ _) ho3 hat3 hzw (by omega)
      go_roundw
      case rel => exact ⟨k + 1, rs ++ [⟨xs[k], B1, mc, d1⟩], A2, c2, by omega, by go_num, rfl, by rw [List.flatMap_append]; exact hown3, Lib.hid (by have h := HN.out; rw [List.map_append] at h ⊢; exact h), hs.1, hs.2, (hb.trans (K2.mono hzw)).trans hbb3⟩
      case measure => simp [intOf]; omega
    · obtain rfl : k = n := by omega
      have HE := Lib.hid (show rs.map Hd.x = xs by rw [HR.out, List.take_of_length_le (by omega)])
      go_wp2_with fail
      go_ret
      have e := HL.out
      subst e
      exact ⟨A', c', rfl, ⟨rs, HE.out, Mine.of hown, hin, hap⟩, hb⟩

end Go.Proofs.YtkchdhmnomelkaaGreat
