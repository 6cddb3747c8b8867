/- Copies of areas. -/
import Derived.Test.YtljiflbaknakaaaCopy
import Derived.Test.YtljiflbaknakaaaAreaT
namespace Go.Proofs.Ytljiflbaknakaaa
open Go.RowKit

/-- A list of areas in memory of the call's own. -/
def GivesAreas (w : World) (xs : List Area) (e : Ending) (w' : World) : Prop :=
  ∃ A c, e = .returned (.slice A xs.length c) ∧ MineN areaSh w' (In w.heap.size w'.heap.size) 62 3 A xs.length c xs ∧ Below w.heap.size w w'
/-- One element more, its slice in a block of its own. -/
theorem areas_snoc {w1 w2 w3 : World} {B g g0 : Nat} {D : Nat → Prop} {A A2 B1 : Option Addr} {m d : Nat} {rs : List (Hd Area)} {x : Area}
    (hin : Inners areaSh w1 (In B g) 3 rs) (hap : ∀ r ∈ rs, ∀ b, OwnB r.A b → ¬ OwnB A b) (hg : ∀ b, OwnB A b → b < g)
    (ho : w1.ownsRow g0 3 1 (.slice B1 m d) m (ints x.cells)) (hD : ∀ b, D b → g ≤ b ∧ b < g0) (hg0 : g ≤ g0) (h2 : Only D w1 w2) (h3 : Only (OwnB A) w2 w3) (hat : ∀ b, OwnB A2 b → OwnB A b ∨ w2.heap.size ≤ b) (hB : B ≤ g) (hg1 : g ≤ w1.heap.size) :
    Inners areaSh w3 (In B w3.heap.size) 3 (rs ++ [⟨x, B1, m, d⟩]) ∧ ∀ r ∈ rs ++ [⟨x, B1, m, d⟩], ∀ b, OwnB r.A b → ¬ OwnB A2 b := by
  have z2 := h2.size
  have z3 := h3.size
  have i3 := (hin.only h2 (fun b h4 h5 => by have := h4.2; have := hD b h5; omega)).onlyA h3 hap
  have m2 : Mine w3 (In g0 w1.heap.size) 3 1 B1 m d (ints x.cells) := ((Mine.of ho).only h2 (fun b h4 h5 => by have := h4.1; have := hD b h5; omega)).only h3 (fun b h4 h5 => by have := h4.1; have := hg b h5; omega)
  refine ⟨(i3.snoc m2 (fun b h4 h5 => by have := h4.2; have := h5.1; omega)).wide fun b h4 => ?_, fun r hr b hb hb2 => ?_⟩
  · rcases h4 with h4 | h4
    · exact ⟨h4.1, by have := h4.2; omega⟩
    · exact ⟨by have := h4.1; omega, by have := h4.2; omega⟩
  · rcases List.mem_append.1 hr with hr | hr
    · have h5 := (hin.each r hr).top b hb
      rcases hat b hb2 with h6 | h6
      · exact hap r hr b hb h6
      · have := h5.2; omega
    · obtain rfl := List.mem_singleton.1 hr
      have h5 := own_top ho hb
      rcases hat b hb2 with h6 | h6
      · have := hg b h6; omega
      · omega

set_option maxRecDepth 100000 in
set_option maxHeartbeats 2000000 in
theorem newAreas_any (A : Option Addr) (n c : Nat) (xs : List Area) (w : World) (hx : SeesN areaSh w 0 A n xs) (hn : n ≤ 1048576) (hi : ∀ x ∈ xs, x.cnt ≤ 1048576) :
    Calls Try.prog 81 #[.slice A n c] w (GivesAreas w xs) := by
  have HL := Lib.hid hx.count
  have hl1 : xs.length ≤ n := by rw [HL.out]; exact Nat.le_refl _
  have hl2 : n ≤ xs.length := by rw [HL.out]; exact Nat.le_refl _
  go_enter Try.func81, Try.ntmps81
  go_wp2_with fail
  have hown0 := own_empty w 62 4
  have hb0 : Below w.heap.size w (w.alloc (.cells #[] 62)) := (Below.refl _ _).alloc (Nat.le_refl _) _
  go_loopw [3, 9] (fun v i wr => ∃ (k : Nat) (rs : List (Hd Area)) (A' : Option Addr) (c' : Nat), k ≤ n ∧ i = .int .i64 k ∧ v = .slice A' k c' ∧ wr.ownsRow w.heap.size 62 4 (.slice A' k c') k (rs.flatMap areaSh.enc) ∧ Hid (rs.map Hd.x = xs.take k) ∧ Inners areaSh wr (In w.heap.size wr.heap.size) 3 rs ∧ (∀ r ∈ rs, ∀ b, OwnB r.A b → ¬ OwnB A' b) ∧ Below w.heap.size w wr) (fun _ i _ => n - (intOf i).toNat)
  case atStart => exact ⟨0, [], _, _, Nat.zero_le _, rfl, rfl, hown0, Lib.hid rfl, Inners.nil _, by simp, hb0⟩
  case round =>
    obtain ⟨k, rs, A', c', hk, rfl, rfl, hown, HR, hin, hap, hb⟩ := hrel
    by_cases hlt : k < n
    · obtain ⟨b, off, B0, mc, cc0, rfl, hkx, x0, x1, x2, x3, hxi⟩ := SeesArea.elem (hx.next hb) hlt
      have hmb : mc ≤ 1048576 := by
        have h1 := hi xs[k] (List.getElem_mem hkx)
        have hmc := hxi.icount
        unfold Area.cnt at h1
        omega
      have hblt : b < wr.heap.size := World.block_lt_of_cell? wr _ x0
      have hbw : b < w.heap.size := by
        obtain ⟨_, _, h2, _⟩ := hx
        obtain ⟨b', off', e, _, h3, _⟩ := h2.at' (by omega)
        injection e with e
        injection e with e1 _ _
        omega
      have hzw := hb.size
      have HN := Lib.hid (show (rs ++ [(⟨xs[k], none, 0, 0⟩ : Hd Area)]).map Hd.x = xs.take (k + 1) by rw [List.map_append, HR.out, List.take_succ_eq_append_getElem hkx]; rfl)
      go_wp2_with fail
      have K1 : Below wr.heap.size wr (wr.alloc (.cells #[.int .i64 xs[k].id, .slice B0 mc cc0, .int .i64 xs[k].first, .int .i64 xs[k].last] 62)) := (Below.refl _ _).alloc (Nat.le_refl _) _
      have Ba : Blk (wr.alloc (.cells #[.int .i64 xs[k].id, .slice B0 mc cc0, .int .i64 xs[k].first, .int .i64 xs[k].last] 62)) wr.heap.size 62 [.int .i64 xs[k].id, .slice B0 mc cc0, .int .i64 xs[k].first, .int .i64 xs[k].last] := Blk.at_ rfl
      refine (copyInts_any _ _ cc0 0 xs[k].cells _ (hxi.next K1) hmb).mono ?_
      rintro e w2 ⟨B1, d1, rfl, o1, b2⟩
      have K2 := bel_then K1 b2
      have Ba2 := Ba.next b2
      have ca := Ba2.cell
      have fa := Ba2.frozen
      have z2 := b2.size
      simp only [World.size_alloc] at z2 o1
      have hown2 := own_below hown K2
      have hin2 := hin.next K2
      have O1 : Only (fun b => b = wr.heap.size) w2 (w2.setCell ⟨wr.heap.size, 1, none⟩ (.slice B1 xs[k].cells.length d1)) := (Only.refl (fun b => b = wr.heap.size) w2).setCell (p := ⟨wr.heap.size, 1, none⟩) rfl _
      clear x0 x1 x2 x3
      go_wp2_with (at_builtin; go_loud (refine wpList_pushNew rfl _ _ _ rfl Try.underlying31 info_impl_Area rfl (by decide) rfl (own_only hown2 O1 (fun b hb h => by have := own_top hown hb; omega)) rfl (by simp [World.setCell]) (by rfl) (by rfl) (by omega) (by decide) (Nat.le_trans (show w.heap.size ≤ w2.heap.size by omega) O1.size) ?_); intro A2 c2 w3 hown3 ho3 hbb3 hat3)
      have hs := areas_snoc (x := xs[k]) (B1 := B1) (d := d1) hin2 hap (fun b hb => (own_top hown hb).2) o1 (fun b hb => by omega) (by omega) O1 ho3 hat3 hzw (by omega)
      go_roundw
      case rel => exact ⟨k + 1, rs ++ [⟨xs[k], B1, _, d1⟩], A2, c2, by omega, by go_num, rfl, by rw [List.flatMap_append]; exact hown3, Lib.hid (by have h := HN.out; rw [List.map_append] at h ⊢; exact h), hs.1, hs.2, (hb.trans ((K2.mono hzw).setCell hzw _)).trans hbb3⟩
      case measure => simp [intOf]; omega
    · obtain rfl : k = n := by omega
      have HE := Lib.hid (show rs.map Hd.x = xs by rw [HR.out, List.take_of_length_le (by omega)])
      go_wp2_with fail
      go_ret
      have e := HL.out
      subst e
      exact ⟨A', c', rfl, ⟨rs, HE.out, Mine.of hown, hin, hap⟩, hb⟩

set_option maxRecDepth 100000 in
set_option maxHeartbeats 2000000 in
theorem l24Copy_any (A : Option Addr) (n c : Nat) (xs : List Area) (w : World) (hx : SeesN areaSh w 0 A n xs) (hn : n ≤ 1048576) (hi : ∀ x ∈ xs, x.cnt ≤ 1048576) :
    Calls Try.prog 78 #[.slice A n c] w (GivesAreas w xs) := by
  have HL := Lib.hid hx.count
  have hl1 : xs.length ≤ n := by rw [HL.out]; exact Nat.le_refl _
  have hl2 : n ≤ xs.length := by rw [HL.out]; exact Nat.le_refl _
  go_enter Try.func78, Try.ntmps78
  go_wp2_with fail
  have hown0 := own_empty w 62 4
  have hb0 : Below w.heap.size w (w.alloc (.cells #[] 62)) := (Below.refl _ _).alloc (Nat.le_refl _) _
  go_loopw [3, 4] (fun v i wr => ∃ (k : Nat) (rs : List (Hd Area)) (A' : Option Addr) (c' : Nat), k ≤ n ∧ i = .int .i64 k ∧ v = .slice A' k c' ∧ wr.ownsRow w.heap.size 62 4 (.slice A' k c') k (rs.flatMap areaSh.enc) ∧ Hid (rs.map Hd.x = xs.take k) ∧ Inners areaSh wr (In w.heap.size wr.heap.size) 3 rs ∧ (∀ r ∈ rs, ∀ b, OwnB r.A b → ¬ OwnB A' b) ∧ Below w.heap.size w wr) (fun _ i _ => n - (intOf i).toNat)
  case atStart => exact ⟨0, [], _, _, Nat.zero_le _, rfl, rfl, hown0, Lib.hid rfl, Inners.nil _, by simp, hb0⟩
  case round =>
    obtain ⟨k, rs, A', c', hk, rfl, rfl, hown, HR, hin, hap, hb⟩ := hrel
    by_cases hlt : k < n
    · obtain ⟨b, off, B0, mc, cc0, rfl, hkx, x0, x1, x2, x3, hxi⟩ := SeesArea.elem (hx.next hb) hlt
      have hmb : mc ≤ 1048576 := by
        have h1 := hi xs[k] (List.getElem_mem hkx)
        have hmc := hxi.icount
        unfold Area.cnt at h1
        omega
      have hblt : b < wr.heap.size := World.block_lt_of_cell? wr _ x0
      have hbw : b < w.heap.size := by
        obtain ⟨_, _, h2, _⟩ := hx
        obtain ⟨b', off', e, _, h3, _⟩ := h2.at' (by omega)
        injection e with e
        injection e with e1 _ _
        omega
      have hzw := hb.size
      have HN := Lib.hid (show (rs ++ [(⟨xs[k], none, 0, 0⟩ : Hd Area)]).map Hd.x = xs.take (k + 1) by rw [List.map_append, HR.out, List.take_succ_eq_append_getElem hkx]; rfl)
      have b1 := (Quiet.one wr).below wr.heap.size
      have hk0 : (0 : Int) ≤ (k : Int) := by omega
      have hkn : (k : Int) < (n : Int) := by omega
      go_wp2_with fail
      have p1 := ((bcell b1).1 _ _ hblt).trans x0
      have q1 := ((bcell b1).1 _ _ hblt).trans x1
      have r1 := ((bcell b1).1 _ _ hblt).trans x2
      have t1 := ((bcell b1).1 _ _ hblt).trans x3
      refine wp_region_held_drew (S := fun w' => w'.cell? ⟨b, off + k * 4, none⟩ = some (.int .i64 xs[k].id) ∧ w'.cell? ⟨b, off + k * 4 + 1, none⟩ = some (.slice B0 mc cc0) ∧ w'.cell? ⟨b, off + k * 4 + 2, none⟩ = some (.int .i64 xs[k].first) ∧ w'.cell? ⟨b, off + k * 4 + 3, none⟩ = some (.int .i64 xs[k].last)) (by kernel_rfl) (by (try dsimp only); go_keep) (fun hHeld => ?_)
      refine wpAnyH_take (i := 0) (v := ?_) rfl (by kernel_rfl) (by kernel_rfl) (by kernel_rfl) (fun _ _ _ h => h) (Or.inl ⟨by rfl, ?_⟩) (by assumption) ?_
      rotate_left 1
      · (intro w hSw; (try dsimp only at hSw); go_simp; try with_reducible rfl)
      simp only [Act.put, List.setIfInBounds_toArray, List.set_cons_zero, List.set_cons_succ, List.getElem_toArray, List.getElem_cons_zero]
      refine wpAnyH_take (i := 1) (v := ?_) rfl (by kernel_rfl) (by kernel_rfl) (by kernel_rfl) (fun _ _ _ h => h) (Or.inl ⟨by rfl, ?_⟩) (by assumption) ?_
      rotate_left 1
      · (intro w hSw; (try dsimp only at hSw); go_simp; try with_reducible rfl)
      simp only [Act.put, List.setIfInBounds_toArray, List.set_cons_zero, List.set_cons_succ, List.getElem_toArray, List.getElem_cons_zero, List.getElem_cons_succ]
      refine wpAnyH_take (i := 2) (v := ?_) rfl (by kernel_rfl) (by kernel_rfl) (by kernel_rfl) (fun _ _ _ h => h) (Or.inl ⟨by rfl, ?_⟩) (by assumption) ?_
      rotate_left 1
      · (intro w hSw; (try dsimp only at hSw); go_simp; try with_reducible rfl)
      simp only [Act.put, List.setIfInBounds_toArray, List.set_cons_zero, List.set_cons_succ, List.getElem_toArray, List.getElem_cons_zero, List.getElem_cons_succ]
      refine wpAnyH_take (i := 3) (v := ?_) rfl (by kernel_rfl) (by kernel_rfl) (by kernel_rfl) (fun _ _ _ h => h) (Or.inl ⟨by rfl, ?_⟩) (by assumption) ?_
      rotate_left 1
      · (intro w hSw; (try dsimp only at hSw); go_simp; try with_reducible rfl)
      simp only [Act.put, List.setIfInBounds_toArray, List.set_cons_zero, List.set_cons_succ, List.getElem_toArray, List.getElem_cons_zero, List.getElem_cons_succ]
      refine wpAnyH_take (i := 4) (v := ?_) rfl (by kernel_rfl) (by kernel_rfl) (by kernel_rfl) (fun _ _ _ h => h) (Or.inl ⟨by rfl, ?_⟩) (by assumption) ?_
      rotate_left 1
      · (intro w hSw; (try dsimp only at hSw); go_simp; try with_reducible rfl)
      simp only [Act.put, List.setIfInBounds_toArray, List.set_cons_zero, List.set_cons_succ, List.getElem_toArray, List.getElem_cons_zero, List.getElem_cons_succ]
      refine wpAnyH_take (i := 5) (v := ?_) rfl (by kernel_rfl) (by kernel_rfl) (by kernel_rfl) (fun _ _ _ h => h) (Or.inl ⟨by rfl, ?_⟩) (by assumption) ?_
      rotate_left 1
      · (intro w hSw; (try dsimp only at hSw); go_simp; try with_reducible rfl)
      simp only [Act.put, List.setIfInBounds_toArray, List.set_cons_zero, List.set_cons_succ, List.getElem_toArray, List.getElem_cons_zero, List.getElem_cons_succ]
      refine wpAnyH_take (i := 6) (v := ?_) rfl (by kernel_rfl) (by kernel_rfl) (by kernel_rfl) (fun _ _ _ h => h) (Or.inl ⟨by rfl, ?_⟩) (by assumption) ?_
      rotate_left 1
      · (intro w hSw; (try dsimp only at hSw); go_simp; try with_reducible rfl)
      simp only [Act.put, List.setIfInBounds_toArray, List.set_cons_zero, List.set_cons_succ, List.getElem_toArray, List.getElem_cons_zero, List.getElem_cons_succ]
      refine wpAnyH_take (i := 7) (v := ?_) rfl (by kernel_rfl) (by kernel_rfl) (by kernel_rfl) (fun _ _ _ h => h) (Or.inl ⟨by rfl, ?_⟩) (by assumption) ?_
      rotate_left 1
      · (intro w hSw; (try dsimp only at hSw); go_simp; try with_reducible rfl)
      simp only [Act.put, List.setIfInBounds_toArray, List.set_cons_zero, List.set_cons_succ, List.getElem_toArray, List.getElem_cons_zero, List.getElem_cons_succ]
      refine wpAnyH_take (i := 8) (v := ?_) rfl (by kernel_rfl) (by kernel_rfl) (by kernel_rfl) (fun _ _ _ h => h) (Or.inl ⟨by rfl, ?_⟩) (by assumption) ?_
      rotate_left 1
      · (intro w hSw; (try dsimp only at hSw); go_simp; try with_reducible rfl)
      simp only [Act.put, List.setIfInBounds_toArray, List.set_cons_zero, List.set_cons_succ, List.getElem_toArray, List.getElem_cons_zero, List.getElem_cons_succ]
      refine wpAnyH_take (i := 9) (v := ?_) rfl (by kernel_rfl) (by kernel_rfl) (by kernel_rfl) (fun _ _ _ h => h) (Or.inl ⟨by rfl, ?_⟩) (by assumption) ?_
      rotate_left 1
      · (intro w hSw; (try dsimp only at hSw); go_simp; try with_reducible rfl)
      simp only [Act.put, List.setIfInBounds_toArray, List.set_cons_zero, List.set_cons_succ, List.getElem_toArray, List.getElem_cons_zero, List.getElem_cons_succ]
      refine wpAnyH_take (i := 10) (v := ?_) rfl (by kernel_rfl) (by kernel_rfl) (by kernel_rfl) (fun _ _ _ h => h) (Or.inl ⟨by rfl, ?_⟩) (by assumption) ?_
      rotate_left 1
      · (intro w hSw; (try dsimp only at hSw); go_simp; try with_reducible rfl)
      simp only [Act.put, List.setIfInBounds_toArray, List.set_cons_zero, List.set_cons_succ, List.getElem_toArray, List.getElem_cons_zero, List.getElem_cons_succ]
      refine wpAnyH_take (i := 12) (v := ?_) rfl (by kernel_rfl) (by kernel_rfl) (by kernel_rfl) (fun _ _ _ h => h) (Or.inl ⟨by rfl, ?_⟩) (by assumption) ?_
      rotate_left 1
      · (intro w hSw; (try dsimp only at hSw); go_simp; try with_reducible rfl)
      simp only [Act.put, List.setIfInBounds_toArray, List.set_cons_zero, List.set_cons_succ, List.getElem_toArray, List.getElem_cons_zero, List.getElem_cons_succ]
      refine wpAnyH_take (i := 13) (v := ?_) rfl (by kernel_rfl) (by kernel_rfl) (by kernel_rfl) (fun _ _ _ h => h) (Or.inl ⟨by rfl, ?_⟩) (by assumption) ?_
      rotate_left 1
      · (intro w hSw; (try dsimp only at hSw); go_simp; try with_reducible rfl)
      simp only [Act.put, List.setIfInBounds_toArray, List.set_cons_zero, List.set_cons_succ, List.getElem_toArray, List.getElem_cons_zero, List.getElem_cons_succ]
      refine wpAnyH_take (i := 14) (v := ?_) rfl (by kernel_rfl) (by kernel_rfl) (by kernel_rfl) (fun _ _ _ h => h) (Or.inl ⟨by rfl, ?_⟩) (by assumption) ?_
      rotate_left 1
      · (intro w hSw; (try dsimp only at hSw); go_simp; try with_reducible rfl)
      simp only [Act.put, List.setIfInBounds_toArray, List.set_cons_zero, List.set_cons_succ, List.getElem_toArray, List.getElem_cons_zero, List.getElem_cons_succ]
      refine wpAnyH_take (i := 15) (v := ?_) rfl (by kernel_rfl) (by kernel_rfl) (by kernel_rfl) (fun _ _ _ h => h) (Or.inl ⟨by rfl, ?_⟩) (by assumption) ?_
      rotate_left 1
      · (intro w hSw; (try dsimp only at hSw); go_simp; try with_reducible rfl)
      simp only [Act.put, List.setIfInBounds_toArray, List.set_cons_zero, List.set_cons_succ, List.getElem_toArray, List.getElem_cons_zero, List.getElem_cons_succ]
      refine wpAnyH_take (i := 16) (v := ?_) rfl (by kernel_rfl) (by kernel_rfl) (by kernel_rfl) (fun _ _ _ h => h) (Or.inl ⟨by rfl, ?_⟩) (by assumption) ?_
      rotate_left 1
      · (intro w hSw; (try dsimp only at hSw); go_simp; try with_reducible rfl)
      simp only [Act.put, List.setIfInBounds_toArray, List.set_cons_zero, List.set_cons_succ, List.getElem_toArray, List.getElem_cons_zero, List.getElem_cons_succ]
      refine wpAnyH_take (i := 17) (v := ?_) rfl (by kernel_rfl) (by kernel_rfl) (by kernel_rfl) (fun _ _ _ h => h) (Or.inl ⟨by rfl, ?_⟩) (by assumption) ?_
      rotate_left 1
      · (intro w hSw; (try dsimp only at hSw); go_simp; try with_reducible rfl)
      simp only [Act.put, List.setIfInBounds_toArray, List.set_cons_zero, List.set_cons_succ, List.getElem_toArray, List.getElem_cons_zero, List.getElem_cons_succ]
      refine wpAnyH_take (i := 18) (v := ?_) rfl (by kernel_rfl) (by kernel_rfl) (by kernel_rfl) (fun _ _ _ h => h) (Or.inl ⟨by rfl, ?_⟩) (by assumption) ?_
      rotate_left 1
      · (intro w hSw; (try dsimp only at hSw); go_simp; try with_reducible rfl)
      simp only [Act.put, List.setIfInBounds_toArray, List.set_cons_zero, List.set_cons_succ, List.getElem_toArray, List.getElem_cons_zero, List.getElem_cons_succ]
      refine wpAnyH_take (i := 19) (v := ?_) rfl (by kernel_rfl) (by kernel_rfl) (by kernel_rfl) (fun _ _ _ h => h) (Or.inl ⟨by rfl, ?_⟩) (by assumption) ?_
      rotate_left 1
      · (intro w hSw; (try dsimp only at hSw); go_simp; try with_reducible rfl)
      simp only [Act.put, List.setIfInBounds_toArray, List.set_cons_zero, List.set_cons_succ, List.getElem_toArray, List.getElem_cons_zero, List.getElem_cons_succ]
      refine wpAnyH_take (i := 20) (v := ?_) rfl (by kernel_rfl) (by kernel_rfl) (by kernel_rfl) (fun _ _ _ h => h) (Or.inl ⟨by rfl, ?_⟩) (by assumption) ?_
      rotate_left 1
      · (intro w hSw; (try dsimp only at hSw); go_simp; try with_reducible rfl)
      simp only [Act.put, List.setIfInBounds_toArray, List.set_cons_zero, List.set_cons_succ, List.getElem_toArray, List.getElem_cons_zero, List.getElem_cons_succ]
      refine wpAnyH_take (i := 21) (v := ?_) rfl (by kernel_rfl) (by kernel_rfl) (by kernel_rfl) (fun _ _ _ h => h) (Or.inl ⟨by rfl, ?_⟩) (by assumption) ?_
      rotate_left 1
      · (intro w hSw; (try dsimp only at hSw); go_simp; try with_reducible rfl)
      simp only [Act.put, List.setIfInBounds_toArray, List.set_cons_zero, List.set_cons_succ, List.getElem_toArray, List.getElem_cons_zero, List.getElem_cons_succ]
      refine wpAnyH_ready (rs := [11]) (by kernel_rfl) (by simp) ?_
      refine AllReadyH.cons rfl (fun K hK => ?_) AllReadyH.nil
      go_simp
      refine (l1Own_any _ _ cc0 0 xs[k].cells _ (hxi.next b1) hmb).mono ?_
      rintro e w2 ⟨B1, d1, rfl, o1, b2⟩
      have K2 := bel_then b1 b2
      have z2 := b2.size
      have s1 := b1.size
      have hown2 := own_below hown K2
      have hin2 := hin.next K2
      have O1 : Only (fun _ => False) w2 w2 := Only.refl _ _
      have p2 := ((bcell b2).1 _ _ (by omega)).trans p1
      have q2 := ((bcell b2).1 _ _ (by omega)).trans q1
      have r2 := ((bcell b2).1 _ _ (by omega)).trans r1
      have t2 := ((bcell b2).1 _ _ (by omega)).trans t1
      clear p1 q1 r1 t1

      go_wp2_with fail
      refine hK.out _ _ (by (try dsimp only); go_keep) (fun hHeld => ?_)
      clear hK K
      refine wpAnyH_take (i := 22) (v := ?_) rfl (by kernel_rfl) (by kernel_rfl) (by kernel_rfl) (fun _ _ _ h => h) (Or.inl ⟨by rfl, ?_⟩) (by assumption) ?_
      rotate_left 1
      · (intro w hSw; (try dsimp only at hSw); go_simp; try with_reducible rfl)
      simp only [Act.put, List.setIfInBounds_toArray, List.set_cons_zero, List.set_cons_succ, List.getElem_toArray, List.getElem_cons_zero, List.getElem_cons_succ]
      refine wpAnyH_ready (rs := [23]) (by kernel_rfl) (by simp) ?_
      refine AllReadyH.cons rfl (fun K hK => ?_) AllReadyH.nil
      go_simp
      refine hK.out _ _ (by (try dsimp only); go_keep) (fun hHeld => ?_)
      clear hK K
      try simp only [Act.put, List.setIfInBounds_toArray, List.set_cons_zero, List.set_cons_succ, List.getElem_toArray, List.getElem_cons_zero, List.getElem_cons_succ]
      refine wpAnyH_ready (rs := [24]) (by kernel_rfl) (by simp) ?_
      refine AllReadyH.cons rfl (fun K hK => ?_) AllReadyH.nil
      refine step_cat rfl _ _ _ (by rfl) Try.underlying31 info_impl_Area rfl (by decide) (by rfl) (own_alloc hown2 _) (by rfl) (lo := 0) (m := 1) ((Blk.at_ (cs := [.int .i64 xs[k].id, .slice B1 xs[k].cells.length d1, .int .i64 xs[k].first, .int .i64 xs[k].last]) (t := 62) rfl).sees (Nat.zero_le _) rfl) (by rfl) (by omega) (by omega) (by decide) (by simp; omega) ?_
      intro A2 c2 w3 hown3 ho3 hbb3 hat3
      have hB3 : Only (OwnB A') w2 w3 := (Only.of_below ((Below.refl _ _).alloc (Nat.le_refl _) _)).trans ho3
      have hat4 : ∀ b, OwnB A2 b → OwnB A' b ∨ w2.heap.size ≤ b := fun b hb => (hat3 b hb).imp id (fun h => by simp at h; omega)
      have p3 := (cell_only hB3 (own_not hown2 hbw) (by omega)).trans p2
      have q3 := (cell_only hB3 (own_not hown2 hbw) (by omega)).trans q2
      have r3 := (cell_only hB3 (own_not hown2 hbw) (by omega)).trans r2
      have t3 := (cell_only hB3 (own_not hown2 hbw) (by omega)).trans t2
      clear p2 q2 r2 t2

      refine hK.out _ _ (by (try dsimp only); go_keep) (fun hHeld => ?_)
      clear hK K
      try simp only [Act.put, List.setIfInBounds_toArray, List.set_cons_zero, List.set_cons_succ, List.getElem_toArray, List.getElem_cons_zero, List.getElem_cons_succ]
      refine wpAnyH_take (i := 25) (v := ?_) rfl (by kernel_rfl) (by kernel_rfl) (by kernel_rfl) (fun _ _ _ h => h) (Or.inl ⟨by rfl, ?_⟩) (by assumption) ?_
      rotate_left 1
      · (intro w hSw; (try dsimp only at hSw); go_simp; try with_reducible rfl)
      simp only [Act.put, List.setIfInBounds_toArray, List.set_cons_zero, List.set_cons_succ, List.getElem_toArray, List.getElem_cons_zero, List.getElem_cons_succ]
      refine wpAnyH_done (by kernel_rfl) ?_ _
      have hs := areas_snoc (x := xs[k]) (B1 := B1) (d := d1) hin2 hap (fun b hb => (own_top hown hb).2) o1 (fun b hb => hb.elim) (Nat.le_refl _) O1 hB3 hat4 hzw (by omega)
      go_wp2_with fail
      go_roundw
      case rel => exact ⟨k + 1, rs ++ [⟨xs[k], B1, _, d1⟩], A2, c2, by omega, by go_num, rfl, by rw [List.flatMap_append]; exact hown3, Lib.hid (by have h := HN.out; rw [List.map_append] at h ⊢; exact h), hs.1, hs.2, ((bel_then hb K2).alloc (by omega) _).trans hbb3⟩
      case measure => simp [intOf]; omega
    · obtain rfl : k = n := by omega
      have HE := Lib.hid (show rs.map Hd.x = xs by rw [HR.out, List.take_of_length_le (by omega)])
      go_wp2_with fail
      go_ret
      have e := HL.out
      subst e
      exact ⟨A', c', rfl, ⟨rs, HE.out, Mine.of hown, hin, hap⟩, hb⟩

end Go.Proofs.Ytljiflbaknakaaa
