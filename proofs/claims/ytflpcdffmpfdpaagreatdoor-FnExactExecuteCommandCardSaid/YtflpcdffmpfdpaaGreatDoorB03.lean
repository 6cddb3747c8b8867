/- Joined texts of this proof: RaceN. -/
import Derived.Test.YtflpcdffmpfdpaaGreatDoorB02
set_option maxRecDepth 100000
set_option maxHeartbeats 8000000
namespace Go.Proofs.YtflpcdffmpfdpaaGreatDoor
open Go.RowKit
structure RaceV where
 clock : Int
 closed : Bool
 field : List Entrant
deriving DecidableEq
def jqj (w : World) (r : RaceV) (e : Ending) (w' : World) : Prop :=
 ∃ (A : Option Addr) (c : Nat), e = .returned (.agg #[r.clock, r.closed, .slice A r.field.length c]) ∧ MineN entrantSh w' (In w.heap.size w'.heap.size) 108 188 A r.field.length c r.field ∧ Below w.heap.size w w'
def jqm (w : World) (r : RaceV) (l : Log) (e : Ending) (w' : World) : Prop :=
 ∃ (A : Option Addr) (c : Nat), e = .returned (.agg #[r.clock, r.closed, .slice A r.field.length c, l.durable, l.pending, l.count]) ∧ MineN entrantSh w' (In w.heap.size w'.heap.size) 108 188 A r.field.length c r.field ∧ Below w.heap.size w w'
theorem MineN.at {w : World} {S : Nat → Prop} {A : Option Addr} {n m c : Nat} {xs : List Entrant} (h : MineN entrantSh w S 108 188 A n c xs) (e : n = m) : MineN entrantSh w S 108 188 A m c xs := e ▸ h
theorem jfp (t : Int) (cl : Bool) (A : Option Addr) (n c : Nat) (xs : List Entrant) (w : World) (hx : SeesN entrantSh w 0 A n xs) (hn : n ≤ 1048576) (hi : ∀ x ∈ xs, x.cnt ≤ 1048576) :
  Calls Tryz.prog 90 #[.agg #[t, cl, .slice A n c]] w (jqj w ⟨t, cl, xs⟩) := by
 have HL := Lib.hid hx.count
 have hl1 : xs.length ≤ n := by rw [HL.out]; exact Nat.le_refl _
 have hl2 : n ≤ xs.length := by rw [HL.out]; exact Nat.le_refl _
 have K0 := nB4 w (.cells #[t, cl, .slice A n c] 32) (.cells #[.int .i64 0, false, .slice none 0 0] 32) (.cells #[] 108) (.cells #[t, cl, .slice (some ⟨w.heap.size + 1 + 1, 0, none⟩) 0 0] 32)
 have P0 := nPc w [t, cl, .slice A n c] 32 (.cells #[.int .i64 0, false, .slice none 0 0] 32) (.cells #[] 108) (.cells #[t, cl, .slice (some ⟨w.heap.size + 1 + 1, 0, none⟩) 0 0] 32)
 have Z0 := nQb w (.cells #[t, cl, .slice A n c] 32) [.int .i64 0, false, .slice none 0 0] 32 (.cells #[] 108) (.cells #[t, cl, .slice (some ⟨w.heap.size + 1 + 1, 0, none⟩) 0 0] 32)
 have own0 := jd4 (ja5 (w := ((w.alloc (.cells #[t, cl, .slice A n c] 32)).alloc (.cells #[.int .i64 0, false, .slice none 0 0] 32))) (g := w.heap.size + 1 + 1) 108 5 (by simp)) (.cells #[t, cl, .slice (some ⟨w.heap.size + 1 + 1, 0, none⟩) 0 0] 32)
 have R0 := nS w (.cells #[t, cl, .slice A n c] 32) (.cells #[.int .i64 0, false, .slice none 0 0] 32) (.cells #[] 108) [t, cl, .slice (some ⟨w.heap.size + 1 + 1, 0, none⟩) 0 0] 32
 have z0 : w.heap.size + 4 ≤ ((((w.alloc (.cells #[t, cl, .slice A n c] 32)).alloc (.cells #[.int .i64 0, false, .slice none 0 0] 32)).alloc (.cells #[] 108)).alloc (.cells #[t, cl, .slice (some ⟨w.heap.size + 1 + 1, 0, none⟩) 0 0] 32)).heap.size := by simp
 go_enter Tryz.func90, Tryz.ntmps90
 go_wp2_with fail
 generalize (((w.alloc _).alloc _).alloc _).alloc _ = w0 at *
 go_loopw [15] (fun iv wr => ∃ (k : Nat) (rs : List (Hd Entrant)) (A' : Option Addr) (c' : Nat), k ≤ n ∧ iv = .int .i64 (k : Int) ∧ Blk wr (w.heap.size + 3) 32 [.int .i64 t, .bool cl, .slice A' k c'] ∧ Blk wr w.heap.size 32 [.int .i64 t, .bool cl, .slice A n c] ∧ Blk wr (w.heap.size + 1) 32 [.int .i64 0, .bool false, .slice none 0 0] ∧ wr.ownsRow (w.heap.size + 2) 108 5 (.slice A' k c') k (rs.flatMap entrantSh.enc) ∧ Hid (rs.map Hd.x = xs.take k) ∧ Inners entrantSh wr (In (w.heap.size + 4) wr.heap.size) 188 rs ∧ (∀ r ∈ rs, ∀ b, jaj r.A b → ¬ jaj A' b) ∧ ¬ jaj A' (w.heap.size + 3) ∧ w.heap.size + 4 ≤ wr.heap.size ∧ Below w.heap.size w wr) (fun iv _ => n - (intOf iv).toNat)
 case atStart => exact ⟨0, [], _, _, Nat.zero_le _, rfl, R0, P0, Z0, own0, Lib.hid rfl, Inners.nil _, by simp, (fun h => by simp [jaj, Value.ownBlock] at h), z0, K0⟩
 case round =>
  clear R0 P0 Z0 own0 z0 K0
  obtain ⟨k, rs, A', c', hk, rfl, R0, P0, Z0, hown, HR, hin, hap, hng, zr, K0⟩ := hrel
  by_cases hlt : k < n
  ·obtain ⟨b, off, B0, mc, cc0, rfl, hkx, y0, y1, y2, y3, y4, hxi⟩ := SeesEntrant.elem hx hlt
   have hmb : mc ≤ 1048576 := by
    have h1 := hi xs[k] (List.getElem_mem hkx)
    have hmc := hxi.count (by decide) (fun _ => rfl)
    unfold Entrant.cnt at h1
    omega
   obtain ⟨x, HX⟩ : ∃ x, Hid (xs[k] = x) := ⟨_, Lib.hid rfl⟩
   rw [HX.out] at y0 y1 y2 y3 hxi
   have hbw : b < w.heap.size := World.block_lt_of_cell? w _ y0
   have hlti : (k : Int) < (n : Int) := by omega
   have hSS : ∀ w' : World, Below w.heap.size w w' → w'.cell? ⟨b, off + k * 5, none⟩ = some (.int .i64 x.state) ∧ w'.cell? ⟨b, off + k * 5 + 1, none⟩ = some (.int .i64 x.number) ∧ w'.cell? ⟨b, off + k * 5 + 2, none⟩ = some (.int .i64 x.start) ∧ w'.cell? ⟨b, off + k * 5 + 3, none⟩ = some (.int .i64 x.finish) ∧ w'.cell? ⟨b, off + k * 5 + 4, none⟩ = some (.slice B0 mc cc0) := fun w' hb => ⟨(hb.cell (p := ⟨b, off + k * 5, none⟩) hbw).trans y0, (hb.cell (p := ⟨b, off + k * 5 + 1, none⟩) hbw).trans y1, (hb.cell (p := ⟨b, off + k * 5 + 2, none⟩) hbw).trans y2, (hb.cell (p := ⟨b, off + k * 5 + 3, none⟩) hbw).trans y3, (hb.cell (p := ⟨b, off + k * 5 + 4, none⟩) hbw).trans y4⟩
   obtain ⟨x0, x1, x2, x3, x4⟩ := hSS wr K0
   clear y0 y1 y2 y3 y4
   have U := nB wr (.cells #[x.state, x.number, x.start, x.finish, .slice B0 mc cc0] 108)
   have E1 := nP wr [x.state, x.number, x.start, x.finish, .slice B0 mc cc0] 108
   have R1 := R0.next U
   have P1 := P0.next U
   have Z1 := Z0.next U
   have own1 := jad hown U
   have hin1 := hin.next U
   have D1 := U
   have K1 := K0.trans (U.mono K0.size)
   have zK1 := K1.size
   clear U
   go_wp2_with fail
   generalize wr.alloc _ = w1 at *
   obtain ⟨ge, hge⟩ : ∃ ge, wr.heap.size = ge := ⟨_, rfl⟩
   have zg1 : ge ≤ wr.heap.size := by omega
   have zg2 : wr.heap.size ≤ ge := by omega
   rw [hge] at E1 ⊢
   clear hge
   have b2 := (Quiet.one w1).below w1.heap.size
   have R2 := R1.next b2
   have P2 := P1.next b2
   have Z2 := Z1.next b2
   have E2 := E1.next b2
   have D2 := jaa D1 b2
   have K2 := K1.trans (b2.mono zK1)
   have X2 : Sees w1.drew 0 2 B0 mc (x.card.punches.flatMap Punch.enc) := hxi.below K2 (Nat.le_refl _)
   have own2 := jad own1 b2
   have hin2 := hin1.next b2
   have zK2 := K2.size
   have zD2 := D2.size
   have pk2 : w1.drew.cell? ⟨ge, 0, none⟩ = some (.int .i64 x.state) ∧ w1.drew.cell? ⟨ge, 1, none⟩ = some (.int .i64 x.number) ∧ w1.drew.cell? ⟨ge, 2, none⟩ = some (.int .i64 x.start) ∧ w1.drew.cell? ⟨ge, 3, none⟩ = some (.int .i64 x.finish) ∧ w1.drew.cell? ⟨ge, 4, none⟩ = some (.slice B0 mc cc0) := ⟨E2.cell 0, E2.cell 1, E2.cell 2, E2.cell 3, E2.cell 4⟩
   have rc2 := R2.cell
   refine wp_region_held_drew (S := fun w' => w'.cell? ⟨ge, 0, none⟩ = some (.int .i64 x.state) ∧ w'.cell? ⟨ge, 1, none⟩ = some (.int .i64 x.number) ∧ w'.cell? ⟨ge, 2, none⟩ = some (.int .i64 x.start) ∧ w'.cell? ⟨ge, 3, none⟩ = some (.int .i64 x.finish) ∧ w'.cell? ⟨ge, 4, none⟩ = some (.slice B0 mc cc0)) (by kernel_rfl) (by (try dsimp only); first | exact pk2 | exact pk5 | exact pk6 | exact pk7) (fun hH => ?_)
   refine wQ 0 ?_
   refine wQ 2 ?_
   refine wQ 3 ?_
   refine wQ 4 ?_
   refine wQ 5 ?_
   refine wR (rs := [1, 6]) (by kernel_rfl) (by simp) ?_
   refine aC rfl (fun K hK => ?_) ?_
   ·go_simp
    refine hK.out _ _ (by (try dsimp only); first | exact pk2 | exact pk5 | exact pk6 | exact pk7) (fun hH => ?_)
    clear hK K
    try simp only [Act.put, pX]
    refine wR (rs := [6]) (by kernel_rfl) (by simp) ?_
    refine aC rfl (fun K hK => ?_) aN
    go_simp
    refine (ji3 B0 mc cc0 0 x.card _ X2 hmb).mono ?_
    rintro e w5 ⟨An, cn, rfl, on, b5⟩
    have WX := nB w5 (.cells #[x.state, x.card.number, x.card.start, x.card.finish, .slice An mc cn] 108)
    have BA := nP w5 [x.state, x.card.number, x.card.start, x.card.finish, .slice An mc cn] 108
    have zw5 := nZ w5 (.cells #[x.state, x.card.number, x.card.start, x.card.finish, .slice An mc cn] 108)
    have R5 := R2.next b5
    have R6 := R5.next WX
    have P5 := P2.next b5
    have P6 := P5.next WX
    have Z5 := Z2.next b5
    have Z6 := Z5.next WX
    have D5 := jaa D2 b5
    have D6 := jaa D5 WX
    have K5 := K2.trans (b5.mono zK2)
    have K6 := K5.trans (WX.mono (Nat.le_trans zK2 b5.size))
    have E5 := E2.next b5
    have E6 := E5.next WX
    have own5 := jad own2 b5
    have own6 := jad own5 WX
    have hin5 := hin2.next b5
    have pk5 : w5.cell? ⟨ge, 0, none⟩ = some (.int .i64 x.state) ∧ w5.cell? ⟨ge, 1, none⟩ = some (.int .i64 x.number) ∧ w5.cell? ⟨ge, 2, none⟩ = some (.int .i64 x.start) ∧ w5.cell? ⟨ge, 3, none⟩ = some (.int .i64 x.finish) ∧ w5.cell? ⟨ge, 4, none⟩ = some (.slice B0 mc cc0) := ⟨E5.cell 0, E5.cell 1, E5.cell 2, E5.cell 3, E5.cell 4⟩
    have pk6 : (w5.alloc (.cells #[x.state, x.card.number, x.card.start, x.card.finish, .slice An mc cn] 108)).cell? ⟨ge, 0, none⟩ = some (.int .i64 x.state) ∧ (w5.alloc (.cells #[x.state, x.card.number, x.card.start, x.card.finish, .slice An mc cn] 108)).cell? ⟨ge, 1, none⟩ = some (.int .i64 x.number) ∧ (w5.alloc (.cells #[x.state, x.card.number, x.card.start, x.card.finish, .slice An mc cn] 108)).cell? ⟨ge, 2, none⟩ = some (.int .i64 x.start) ∧ (w5.alloc (.cells #[x.state, x.card.number, x.card.start, x.card.finish, .slice An mc cn] 108)).cell? ⟨ge, 3, none⟩ = some (.int .i64 x.finish) ∧ (w5.alloc (.cells #[x.state, x.card.number, x.card.start, x.card.finish, .slice An mc cn] 108)).cell? ⟨ge, 4, none⟩ = some (.slice B0 mc cc0) := ⟨E6.cell 0, E6.cell 1, E6.cell 2, E6.cell 3, E6.cell 4⟩
    have rc5 := R5.cell
    have rc6 := R6.cell
    go_wp2_with fail
    refine hK.out _ _ (by (try dsimp only); first | exact pk2 | exact pk5 | exact pk6 | exact pk7) (fun hH => ?_)
    clear hK K
    refine wQ 7 ?_
    refine wR (rs := [8]) (by kernel_rfl) (by simp) ?_
    refine aC rfl (fun K hK => ?_) aN
    go_simp
    refine hK.out _ _ (by (try dsimp only); first | exact pk2 | exact pk5 | exact pk6 | exact pk7) (fun hH => ?_)
    clear hK K
    try simp only [Act.put, pX]
    refine wR (rs := [9]) (by kernel_rfl) (by simp) ?_
    refine aC rfl (fun K hK => ?_) aN
    refine jas rfl _ _ _ (by rfl) Tryz.underlying30 jbd rfl (by decide) (by rfl) own6 (by rfl) (m := 1) (BA.sees (s := 5) (Nat.zero_le _) rfl) (by rfl) (show k ≤ 1000000000 by omega) (by omega) (by decide) (by have := b5.size; omega) ?_
    intro A7 c7 w7 o7 h7 b7 q7
    have R7 := R6.only h7 hng
    have P7 := P6.only h7 (fun h => by have := (jai own6 h).1; omega)
    have Z7 := Z6.only h7 (fun h => by have := (jai own6 h).1; omega)
    have D7 := D6.size
    have K7 := K6.trans (b7.mono (by omega))
    have E7 := E6.only h7 (fun h => by have := (jai hown h).2; omega)
    have pk7 : w7.cell? ⟨ge, 0, none⟩ = some (.int .i64 x.state) ∧ w7.cell? ⟨ge, 1, none⟩ = some (.int .i64 x.number) ∧ w7.cell? ⟨ge, 2, none⟩ = some (.int .i64 x.start) ∧ w7.cell? ⟨ge, 3, none⟩ = some (.int .i64 x.finish) ∧ w7.cell? ⟨ge, 4, none⟩ = some (.slice B0 mc cc0) := ⟨E7.cell 0, E7.cell 1, E7.cell 2, E7.cell 3, E7.cell 4⟩
    have rc7 := R7.cell
    have rf7 := R7.frozen
    have hst : Only (fun b => b = w.heap.size + 3) w7 (w7.setCell ⟨w.heap.size + 3, 2, none⟩ (.slice A7 (k + 1) c7)) := (Only.refl (fun b => b = w.heap.size + 3) w7).setCell (p := ⟨w.heap.size + 3, 2, none⟩) rfl _
    have K8 := K7.trans (hst.below (fun b hb => by omega) (by have := K7.size; omega))
    have P8 := P7.only hst (fun h => by omega)
    have E8 := E7.only hst (fun h => by omega)
    have pk8 : (w7.setCell ⟨w.heap.size + 3, 2, none⟩ (.slice A7 (k + 1) c7)).cell? ⟨ge, 0, none⟩ = some (.int .i64 x.state) ∧ (w7.setCell ⟨w.heap.size + 3, 2, none⟩ (.slice A7 (k + 1) c7)).cell? ⟨ge, 1, none⟩ = some (.int .i64 x.number) ∧ (w7.setCell ⟨w.heap.size + 3, 2, none⟩ (.slice A7 (k + 1) c7)).cell? ⟨ge, 2, none⟩ = some (.int .i64 x.start) ∧ (w7.setCell ⟨w.heap.size + 3, 2, none⟩ (.slice A7 (k + 1) c7)).cell? ⟨ge, 3, none⟩ = some (.int .i64 x.finish) ∧ (w7.setCell ⟨w.heap.size + 3, 2, none⟩ (.slice A7 (k + 1) c7)).cell? ⟨ge, 4, none⟩ = some (.slice B0 mc cc0) := ⟨E8.cell 0, E8.cell 1, E8.cell 2, E8.cell 3, E8.cell 4⟩
    refine hK.out _ _ (by (try dsimp only); first | exact pk2 | exact pk5 | exact pk6 | exact pk7) (fun hH => ?_)
    clear hK K
    try simp only [Act.put, pX]
    refine wQ 10 ?_
    refine wR (rs := [11]) (by kernel_rfl) (by simp) ?_
    refine aC rfl (fun K hK => ?_) aN
    go_simp
    refine hK.out _ _ (by (try dsimp only); exact pk8) (fun hH => ?_)
    clear hK K
    try simp only [Act.put, pX]
    refine wD (by kernel_rfl) ?_ _
    have R8 := R7.set_ 2 (.slice A7 (k + 1) c7)
    have Z8 := Z7.only hst (fun h => by omega)
    have zst := hst.size
    have z7 := h7.size
    have z5 := b5.size
    have hs := jdr (sh := entrantSh) (x := x) (B1 := An) (d := cn) (D := fun _ => False) hin5 hap (fun b hb => (jai hown hb).2) on (fun b hb => hb.elim) zD2 (Only.of_below WX) h7 q7 zr (by omega)
    have zfin : w.heap.size + 4 ≤ (w7.setCell ⟨w.heap.size + 3, 2, none⟩ (.slice A7 (k + 1) c7)).heap.size := by omega
    have hng7 : ¬ jaj A7 (w.heap.size + 3) := fun hb => (q7 _ hb).elim hng (fun h => by omega)
    have o8 := jbc o7 hst (fun b hb (h : b = w.heap.size + 3) => hng7 (h ▸ hb))
    have hin8 := (hs.1.only hst (fun b h1 (h2 : b = w.heap.size + 3) => by have := h1.1; omega)).wide (T := In (w.heap.size + 4) (w7.setCell ⟨w.heap.size + 3, 2, none⟩ (.slice A7 (k + 1) c7)).heap.size) (fun b h => ⟨h.1, by have := h.2; omega⟩)
    have HN := Lib.hid (show (rs ++ [(⟨x, An, mc, cn⟩ : Hd Entrant)]).map Hd.x = xs.take (k + 1) by rw [List.map_append, HR.out, List.take_succ_eq_append_getElem hkx, HX.out]; rfl)
    go_wp2_with fail
    go_roundw
    case rel => exact ⟨k + 1, rs ++ [⟨x, An, mc, cn⟩], A7, c7, by omega, by go_num, R8, P8, Z8, by rw [List.flatMap_append]; exact o8, HN, hin8, hs.2, hng7, zfin, K8⟩
    case measure => simp [intOf]; omega
   refine aC rfl (fun K hK => ?_) aN
   ·go_simp
    refine (ji3 B0 mc cc0 0 x.card _ X2 hmb).mono ?_
    rintro e w5 ⟨An, cn, rfl, on, b5⟩
    have WX := nB w5 (.cells #[x.state, x.card.number, x.card.start, x.card.finish, .slice An mc cn] 108)
    have BA := nP w5 [x.state, x.card.number, x.card.start, x.card.finish, .slice An mc cn] 108
    have zw5 := nZ w5 (.cells #[x.state, x.card.number, x.card.start, x.card.finish, .slice An mc cn] 108)
    have R5 := R2.next b5
    have R6 := R5.next WX
    have P5 := P2.next b5
    have P6 := P5.next WX
    have Z5 := Z2.next b5
    have Z6 := Z5.next WX
    have D5 := jaa D2 b5
    have D6 := jaa D5 WX
    have K5 := K2.trans (b5.mono zK2)
    have K6 := K5.trans (WX.mono (Nat.le_trans zK2 b5.size))
    have E5 := E2.next b5
    have E6 := E5.next WX
    have own5 := jad own2 b5
    have own6 := jad own5 WX
    have hin5 := hin2.next b5
    have pk5 : w5.cell? ⟨ge, 0, none⟩ = some (.int .i64 x.state) ∧ w5.cell? ⟨ge, 1, none⟩ = some (.int .i64 x.number) ∧ w5.cell? ⟨ge, 2, none⟩ = some (.int .i64 x.start) ∧ w5.cell? ⟨ge, 3, none⟩ = some (.int .i64 x.finish) ∧ w5.cell? ⟨ge, 4, none⟩ = some (.slice B0 mc cc0) := ⟨E5.cell 0, E5.cell 1, E5.cell 2, E5.cell 3, E5.cell 4⟩
    have pk6 : (w5.alloc (.cells #[x.state, x.card.number, x.card.start, x.card.finish, .slice An mc cn] 108)).cell? ⟨ge, 0, none⟩ = some (.int .i64 x.state) ∧ (w5.alloc (.cells #[x.state, x.card.number, x.card.start, x.card.finish, .slice An mc cn] 108)).cell? ⟨ge, 1, none⟩ = some (.int .i64 x.number) ∧ (w5.alloc (.cells #[x.state, x.card.number, x.card.start, x.card.finish, .slice An mc cn] 108)).cell? ⟨ge, 2, none⟩ = some (.int .i64 x.start) ∧ (w5.alloc (.cells #[x.state, x.card.number, x.card.start, x.card.finish, .slice An mc cn] 108)).cell? ⟨ge, 3, none⟩ = some (.int .i64 x.finish) ∧ (w5.alloc (.cells #[x.state, x.card.number, x.card.start, x.card.finish, .slice An mc cn] 108)).cell? ⟨ge, 4, none⟩ = some (.slice B0 mc cc0) := ⟨E6.cell 0, E6.cell 1, E6.cell 2, E6.cell 3, E6.cell 4⟩
    have rc5 := R5.cell
    have rc6 := R6.cell
    go_wp2_with fail
    refine hK.out _ _ (by (try dsimp only); first | exact pk2 | exact pk5 | exact pk6 | exact pk7) (fun hH => ?_)
    clear hK K
    refine wQ 7 ?_
    refine wR (rs := [1, 8]) (by kernel_rfl) (by simp) ?_
    refine aC rfl (fun K hK => ?_) ?_
    ·go_simp
     refine hK.out _ _ (by (try dsimp only); first | exact pk2 | exact pk5 | exact pk6 | exact pk7) (fun hH => ?_)
     clear hK K
     try simp only [Act.put, pX]
     refine wR (rs := [8]) (by kernel_rfl) (by simp) ?_
     refine aC rfl (fun K hK => ?_) aN
     go_simp
     refine hK.out _ _ (by (try dsimp only); first | exact pk2 | exact pk5 | exact pk6 | exact pk7) (fun hH => ?_)
     clear hK K
     try simp only [Act.put, pX]
     refine wR (rs := [9]) (by kernel_rfl) (by simp) ?_
     refine aC rfl (fun K hK => ?_) aN
     refine jas rfl _ _ _ (by rfl) Tryz.underlying30 jbd rfl (by decide) (by rfl) own6 (by rfl) (m := 1) (BA.sees (s := 5) (Nat.zero_le _) rfl) (by rfl) (show k ≤ 1000000000 by omega) (by omega) (by decide) (by have := b5.size; omega) ?_
     intro A7 c7 w7 o7 h7 b7 q7
     have R7 := R6.only h7 hng
     have P7 := P6.only h7 (fun h => by have := (jai own6 h).1; omega)
     have Z7 := Z6.only h7 (fun h => by have := (jai own6 h).1; omega)
     have D7 := D6.size
     have K7 := K6.trans (b7.mono (by omega))
     have E7 := E6.only h7 (fun h => by have := (jai hown h).2; omega)
     have pk7 : w7.cell? ⟨ge, 0, none⟩ = some (.int .i64 x.state) ∧ w7.cell? ⟨ge, 1, none⟩ = some (.int .i64 x.number) ∧ w7.cell? ⟨ge, 2, none⟩ = some (.int .i64 x.start) ∧ w7.cell? ⟨ge, 3, none⟩ = some (.int .i64 x.finish) ∧ w7.cell? ⟨ge, 4, none⟩ = some (.slice B0 mc cc0) := ⟨E7.cell 0, E7.cell 1, E7.cell 2, E7.cell 3, E7.cell 4⟩
     have rc7 := R7.cell
     have rf7 := R7.frozen
     have hst : Only (fun b => b = w.heap.size + 3) w7 (w7.setCell ⟨w.heap.size + 3, 2, none⟩ (.slice A7 (k + 1) c7)) := (Only.refl (fun b => b = w.heap.size + 3) w7).setCell (p := ⟨w.heap.size + 3, 2, none⟩) rfl _
     have K8 := K7.trans (hst.below (fun b hb => by omega) (by have := K7.size; omega))
     have P8 := P7.only hst (fun h => by omega)
     have E8 := E7.only hst (fun h => by omega)
     have pk8 : (w7.setCell ⟨w.heap.size + 3, 2, none⟩ (.slice A7 (k + 1) c7)).cell? ⟨ge, 0, none⟩ = some (.int .i64 x.state) ∧ (w7.setCell ⟨w.heap.size + 3, 2, none⟩ (.slice A7 (k + 1) c7)).cell? ⟨ge, 1, none⟩ = some (.int .i64 x.number) ∧ (w7.setCell ⟨w.heap.size + 3, 2, none⟩ (.slice A7 (k + 1) c7)).cell? ⟨ge, 2, none⟩ = some (.int .i64 x.start) ∧ (w7.setCell ⟨w.heap.size + 3, 2, none⟩ (.slice A7 (k + 1) c7)).cell? ⟨ge, 3, none⟩ = some (.int .i64 x.finish) ∧ (w7.setCell ⟨w.heap.size + 3, 2, none⟩ (.slice A7 (k + 1) c7)).cell? ⟨ge, 4, none⟩ = some (.slice B0 mc cc0) := ⟨E8.cell 0, E8.cell 1, E8.cell 2, E8.cell 3, E8.cell 4⟩
     refine hK.out _ _ (by (try dsimp only); first | exact pk2 | exact pk5 | exact pk6 | exact pk7) (fun hH => ?_)
     clear hK K
     try simp only [Act.put, pX]
     refine wQ 10 ?_
     refine wR (rs := [11]) (by kernel_rfl) (by simp) ?_
     refine aC rfl (fun K hK => ?_) aN
     go_simp
     refine hK.out _ _ (by (try dsimp only); exact pk8) (fun hH => ?_)
     clear hK K
     try simp only [Act.put, pX]
     refine wD (by kernel_rfl) ?_ _
     have R8 := R7.set_ 2 (.slice A7 (k + 1) c7)
     have Z8 := Z7.only hst (fun h => by omega)
     have zst := hst.size
     have z7 := h7.size
     have z5 := b5.size
     have hs := jdr (sh := entrantSh) (x := x) (B1 := An) (d := cn) (D := fun _ => False) hin5 hap (fun b hb => (jai hown hb).2) on (fun b hb => hb.elim) zD2 (Only.of_below WX) h7 q7 zr (by omega)
     have zfin : w.heap.size + 4 ≤ (w7.setCell ⟨w.heap.size + 3, 2, none⟩ (.slice A7 (k + 1) c7)).heap.size := by omega
     have hng7 : ¬ jaj A7 (w.heap.size + 3) := fun hb => (q7 _ hb).elim hng (fun h => by omega)
     have o8 := jbc o7 hst (fun b hb (h : b = w.heap.size + 3) => hng7 (h ▸ hb))
     have hin8 := (hs.1.only hst (fun b h1 (h2 : b = w.heap.size + 3) => by have := h1.1; omega)).wide (T := In (w.heap.size + 4) (w7.setCell ⟨w.heap.size + 3, 2, none⟩ (.slice A7 (k + 1) c7)).heap.size) (fun b h => ⟨h.1, by have := h.2; omega⟩)
     have HN := Lib.hid (show (rs ++ [(⟨x, An, mc, cn⟩ : Hd Entrant)]).map Hd.x = xs.take (k + 1) by rw [List.map_append, HR.out, List.take_succ_eq_append_getElem hkx, HX.out]; rfl)
     go_wp2_with fail
     go_roundw
     case rel => exact ⟨k + 1, rs ++ [⟨x, An, mc, cn⟩], A7, c7, by omega, by go_num, R8, P8, Z8, by rw [List.flatMap_append]; exact o8, HN, hin8, hs.2, hng7, zfin, K8⟩
     case measure => simp [intOf]; omega
    refine aC rfl (fun K hK => ?_) aN
    ·go_simp
     refine hK.out _ _ (by (try dsimp only); first | exact pk2 | exact pk5 | exact pk6 | exact pk7) (fun hH => ?_)
     clear hK K
     try simp only [Act.put, pX]
     refine wR (rs := [1]) (by kernel_rfl) (by simp) ?_
     refine aC rfl (fun K hK => ?_) aN
     go_simp
     refine hK.out _ _ (by (try dsimp only); first | exact pk2 | exact pk5 | exact pk6 | exact pk7) (fun hH => ?_)
     clear hK K
     try simp only [Act.put, pX]
     refine wR (rs := [9]) (by kernel_rfl) (by simp) ?_
     refine aC rfl (fun K hK => ?_) aN
     refine jas rfl _ _ _ (by rfl) Tryz.underlying30 jbd rfl (by decide) (by rfl) own6 (by rfl) (m := 1) (BA.sees (s := 5) (Nat.zero_le _) rfl) (by rfl) (show k ≤ 1000000000 by omega) (by omega) (by decide) (by have := b5.size; omega) ?_
     intro A7 c7 w7 o7 h7 b7 q7
     have R7 := R6.only h7 hng
     have P7 := P6.only h7 (fun h => by have := (jai own6 h).1; omega)
     have Z7 := Z6.only h7 (fun h => by have := (jai own6 h).1; omega)
     have D7 := D6.size
     have K7 := K6.trans (b7.mono (by omega))
     have E7 := E6.only h7 (fun h => by have := (jai hown h).2; omega)
     have pk7 : w7.cell? ⟨ge, 0, none⟩ = some (.int .i64 x.state) ∧ w7.cell? ⟨ge, 1, none⟩ = some (.int .i64 x.number) ∧ w7.cell? ⟨ge, 2, none⟩ = some (.int .i64 x.start) ∧ w7.cell? ⟨ge, 3, none⟩ = some (.int .i64 x.finish) ∧ w7.cell? ⟨ge, 4, none⟩ = some (.slice B0 mc cc0) := ⟨E7.cell 0, E7.cell 1, E7.cell 2, E7.cell 3, E7.cell 4⟩
     have rc7 := R7.cell
     have rf7 := R7.frozen
     have hst : Only (fun b => b = w.heap.size + 3) w7 (w7.setCell ⟨w.heap.size + 3, 2, none⟩ (.slice A7 (k + 1) c7)) := (Only.refl (fun b => b = w.heap.size + 3) w7).setCell (p := ⟨w.heap.size + 3, 2, none⟩) rfl _
     have K8 := K7.trans (hst.below (fun b hb => by omega) (by have := K7.size; omega))
     have P8 := P7.only hst (fun h => by omega)
     have E8 := E7.only hst (fun h => by omega)
     have pk8 : (w7.setCell ⟨w.heap.size + 3, 2, none⟩ (.slice A7 (k + 1) c7)).cell? ⟨ge, 0, none⟩ = some (.int .i64 x.state) ∧ (w7.setCell ⟨w.heap.size + 3, 2, none⟩ (.slice A7 (k + 1) c7)).cell? ⟨ge, 1, none⟩ = some (.int .i64 x.number) ∧ (w7.setCell ⟨w.heap.size + 3, 2, none⟩ (.slice A7 (k + 1) c7)).cell? ⟨ge, 2, none⟩ = some (.int .i64 x.start) ∧ (w7.setCell ⟨w.heap.size + 3, 2, none⟩ (.slice A7 (k + 1) c7)).cell? ⟨ge, 3, none⟩ = some (.int .i64 x.finish) ∧ (w7.setCell ⟨w.heap.size + 3, 2, none⟩ (.slice A7 (k + 1) c7)).cell? ⟨ge, 4, none⟩ = some (.slice B0 mc cc0) := ⟨E8.cell 0, E8.cell 1, E8.cell 2, E8.cell 3, E8.cell 4⟩
     refine hK.out _ _ (by (try dsimp only); first | exact pk2 | exact pk5 | exact pk6 | exact pk7) (fun hH => ?_)
     clear hK K
     try simp only [Act.put, pX]
     refine wQ 10 ?_
     refine wR (rs := [11]) (by kernel_rfl) (by simp) ?_
     refine aC rfl (fun K hK => ?_) aN
     go_simp
     refine hK.out _ _ (by (try dsimp only); exact pk8) (fun hH => ?_)
     clear hK K
     try simp only [Act.put, pX]
     refine wD (by kernel_rfl) ?_ _
     have R8 := R7.set_ 2 (.slice A7 (k + 1) c7)
     have Z8 := Z7.only hst (fun h => by omega)
     have zst := hst.size
     have z7 := h7.size
     have z5 := b5.size
     have hs := jdr (sh := entrantSh) (x := x) (B1 := An) (d := cn) (D := fun _ => False) hin5 hap (fun b hb => (jai hown hb).2) on (fun b hb => hb.elim) zD2 (Only.of_below WX) h7 q7 zr (by omega)
     have zfin : w.heap.size + 4 ≤ (w7.setCell ⟨w.heap.size + 3, 2, none⟩ (.slice A7 (k + 1) c7)).heap.size := by omega
     have hng7 : ¬ jaj A7 (w.heap.size + 3) := fun hb => (q7 _ hb).elim hng (fun h => by omega)
     have o8 := jbc o7 hst (fun b hb (h : b = w.heap.size + 3) => hng7 (h ▸ hb))
     have hin8 := (hs.1.only hst (fun b h1 (h2 : b = w.heap.size + 3) => by have := h1.1; omega)).wide (T := In (w.heap.size + 4) (w7.setCell ⟨w.heap.size + 3, 2, none⟩ (.slice A7 (k + 1) c7)).heap.size) (fun b h => ⟨h.1, by have := h.2; omega⟩)
     have HN := Lib.hid (show (rs ++ [(⟨x, An, mc, cn⟩ : Hd Entrant)]).map Hd.x = xs.take (k + 1) by rw [List.map_append, HR.out, List.take_succ_eq_append_getElem hkx, HX.out]; rfl)
     go_wp2_with fail
     go_roundw
     case rel => exact ⟨k + 1, rs ++ [⟨x, An, mc, cn⟩], A7, c7, by omega, by go_num, R8, P8, Z8, by rw [List.flatMap_append]; exact o8, HN, hin8, hs.2, hng7, zfin, K8⟩
     case measure => simp [intOf]; omega
  ·obtain rfl : k = n := by omega
   have HE := Lib.hid (show rs.map Hd.x = xs by rw [HR.out, List.take_of_length_le (by omega)])
   have hlti : ¬ (k : Int) < (k : Int) := by omega
   have rc := R0.cell
   have zc := Z0.cell
   have zf := Z0.frozen
   have pc := P0.cell
   go_wp2_with fail
   have RF := ((Z0.set_ 0 (.int .i64 t)).set_ 1 (.bool cl)).set_ 2 (.slice A' k c')
   have E := (((Only.refl (fun b => b = w.heap.size + 1) wr).setCell (p := ⟨w.heap.size + 1, 0, none⟩) rfl (.int .i64 t)).setCell (p := ⟨w.heap.size + 1, 1, none⟩) rfl (.bool cl)).setCell (p := ⟨w.heap.size + 1, 2, none⟩) rfl (.slice A' k c')
   have zF := E.size
   have M : MineN entrantSh wr (fun b => w.heap.size + 2 ≤ b ∧ b < wr.heap.size) 108 188 A' k c' xs := ⟨rs, HE.out, ⟨jax hown (Nat.zero_le _), fun b hb => jai hown hb⟩, hin.wide (fun b hb => ⟨by have := hb.1; omega, hb.2⟩), hap⟩
   have M2 := (M.only E (fun b h1 (h2 : b = w.heap.size + 1) => by omega)).wide (T := In w.heap.size (((wr.setCell ⟨w.heap.size + 1, 0, none⟩ (.int .i64 t)).setCell ⟨w.heap.size + 1, 1, none⟩ (.bool cl)).setCell ⟨w.heap.size + 1, 2, none⟩ (.slice A' k c')).heap.size) (fun b hb => ⟨by omega, by omega⟩)
   have KF := K0.trans (E.below (fun b hb => by omega) K0.size)
   have e := HL.out
   subst e
   refine bodyPost_ret (results_cell_row rfl _ _ (w.heap.size + 1) _ _ (0, 0) _ rfl RF Tryz.underlying32 rfl (by kernel_rfl)) rfl ⟨A', c', rfl, M2, KF⟩
theorem jgl (t : Int) (cl : Bool) (A : Option Addr) (n c : Nat) (xs : List Entrant) (w : World) (hx : SeesN entrantSh w 0 A n xs) (hn : n ≤ 1048576) (hi : ∀ x ∈ xs, x.cnt ≤ 1048576) :
  Calls Tryz.prog 77 #[.agg #[t, cl, .slice A n c]] w (jqj w ⟨t, cl, xs⟩) := by
 have HL := Lib.hid hx.count
 have hl1 : xs.length ≤ n := by rw [HL.out]; exact Nat.le_refl _
 have hl2 : n ≤ xs.length := by rw [HL.out]; exact Nat.le_refl _
 have K0 := nB4 w (.cells #[t, cl, .slice A n c] 32) (.cells #[.int .i64 0, false, .slice none 0 0] 32) (.cells #[] 108) (.cells #[t, cl, .slice (some ⟨w.heap.size + 1 + 1, 0, none⟩) 0 0] 32)
 have P0 := nPc w [t, cl, .slice A n c] 32 (.cells #[.int .i64 0, false, .slice none 0 0] 32) (.cells #[] 108) (.cells #[t, cl, .slice (some ⟨w.heap.size + 1 + 1, 0, none⟩) 0 0] 32)
 have Z0 := nQb w (.cells #[t, cl, .slice A n c] 32) [.int .i64 0, false, .slice none 0 0] 32 (.cells #[] 108) (.cells #[t, cl, .slice (some ⟨w.heap.size + 1 + 1, 0, none⟩) 0 0] 32)
 have own0 := jd4 (ja5 (w := ((w.alloc (.cells #[t, cl, .slice A n c] 32)).alloc (.cells #[.int .i64 0, false, .slice none 0 0] 32))) (g := w.heap.size + 1 + 1) 108 5 (by simp)) (.cells #[t, cl, .slice (some ⟨w.heap.size + 1 + 1, 0, none⟩) 0 0] 32)
 have R0 := nS w (.cells #[t, cl, .slice A n c] 32) (.cells #[.int .i64 0, false, .slice none 0 0] 32) (.cells #[] 108) [t, cl, .slice (some ⟨w.heap.size + 1 + 1, 0, none⟩) 0 0] 32
 have z0 : w.heap.size + 4 ≤ ((((w.alloc (.cells #[t, cl, .slice A n c] 32)).alloc (.cells #[.int .i64 0, false, .slice none 0 0] 32)).alloc (.cells #[] 108)).alloc (.cells #[t, cl, .slice (some ⟨w.heap.size + 1 + 1, 0, none⟩) 0 0] 32)).heap.size := by simp
 go_enter Tryz.func77, Tryz.ntmps77
 go_wp2_with fail
 generalize (((w.alloc _).alloc _).alloc _).alloc _ = w0 at *
 go_loopw [4] (fun iv wr => ∃ (k : Nat) (rs : List (Hd Entrant)) (A' : Option Addr) (c' : Nat), k ≤ n ∧ iv = .int .i64 (k : Int) ∧ Blk wr (w.heap.size + 3) 32 [.int .i64 t, .bool cl, .slice A' k c'] ∧ Blk wr w.heap.size 32 [.int .i64 t, .bool cl, .slice A n c] ∧ Blk wr (w.heap.size + 1) 32 [.int .i64 0, .bool false, .slice none 0 0] ∧ wr.ownsRow (w.heap.size + 2) 108 5 (.slice A' k c') k (rs.flatMap entrantSh.enc) ∧ Hid (rs.map Hd.x = xs.take k) ∧ Inners entrantSh wr (In (w.heap.size + 4) wr.heap.size) 188 rs ∧ (∀ r ∈ rs, ∀ b, jaj r.A b → ¬ jaj A' b) ∧ ¬ jaj A' (w.heap.size + 3) ∧ w.heap.size + 4 ≤ wr.heap.size ∧ Below w.heap.size w wr) (fun iv _ => n - (intOf iv).toNat)
 case atStart => exact ⟨0, [], _, _, Nat.zero_le _, rfl, R0, P0, Z0, own0, Lib.hid rfl, Inners.nil _, by simp, (fun h => by simp [jaj, Value.ownBlock] at h), z0, K0⟩
 case round =>
  clear R0 P0 Z0 own0 z0 K0
  obtain ⟨k, rs, A', c', hk, rfl, R0, P0, Z0, hown, HR, hin, hap, hng, zr, K0⟩ := hrel
  by_cases hlt : k < n
  ·obtain ⟨b, off, B0, mc, cc0, rfl, hkx, y0, y1, y2, y3, y4, hxi⟩ := SeesEntrant.elem hx hlt
   have hmb : mc ≤ 1048576 := by
    have h1 := hi xs[k] (List.getElem_mem hkx)
    have hmc := hxi.count (by decide) (fun _ => rfl)
    unfold Entrant.cnt at h1
    omega
   obtain ⟨x, HX⟩ : ∃ x, Hid (xs[k] = x) := ⟨_, Lib.hid rfl⟩
   rw [HX.out] at y0 y1 y2 y3 hxi
   have hbw : b < w.heap.size := World.block_lt_of_cell? w _ y0
   have hlti : (k : Int) < (n : Int) := by omega
   have hSS : ∀ w' : World, Below w.heap.size w w' → w'.cell? ⟨b, off + k * 5, none⟩ = some (.int .i64 x.state) ∧ w'.cell? ⟨b, off + k * 5 + 1, none⟩ = some (.int .i64 x.number) ∧ w'.cell? ⟨b, off + k * 5 + 2, none⟩ = some (.int .i64 x.start) ∧ w'.cell? ⟨b, off + k * 5 + 3, none⟩ = some (.int .i64 x.finish) ∧ w'.cell? ⟨b, off + k * 5 + 4, none⟩ = some (.slice B0 mc cc0) := fun w' hb => ⟨(hb.cell (p := ⟨b, off + k * 5, none⟩) hbw).trans y0, (hb.cell (p := ⟨b, off + k * 5 + 1, none⟩) hbw).trans y1, (hb.cell (p := ⟨b, off + k * 5 + 2, none⟩) hbw).trans y2, (hb.cell (p := ⟨b, off + k * 5 + 3, none⟩) hbw).trans y3, (hb.cell (p := ⟨b, off + k * 5 + 4, none⟩) hbw).trans y4⟩
   obtain ⟨x0, x1, x2, x3, x4⟩ := hSS wr K0
   clear y0 y1 y2 y3 y4
   obtain ⟨w1, rfl⟩ : ∃ w' : World, w' = wr := ⟨_, rfl⟩
   have R1 := R0
   have P1 := P0
   have Z1 := Z0
   have own1 := hown
   have hin1 := hin
   have D1 := Below.refl w1.heap.size w1
   have K1 := K0
   have zK1 := K1.size
   have pc := P0.cell
   go_wp2_with fail
   clear pc
   have b2 := (Quiet.one w1).below w1.heap.size
   have R2 := R1.next b2
   have P2 := P1.next b2
   have Z2 := Z1.next b2
   have zE2 := b2.size
   have D2 := jaa D1 b2
   have K2 := K1.trans (b2.mono zK1)
   have X2 : Sees w1.drew 0 2 B0 mc (x.card.punches.flatMap Punch.enc) := hxi.below K2 (Nat.le_refl _)
   have own2 := jad own1 b2
   have hin2 := hin1.next b2
   have zK2 := K2.size
   have zD2 := D2.size
   have pk2 : w1.drew.cell? ⟨w.heap.size, 2, none⟩ = some (.slice (some ⟨b, off, none⟩) n c) ∧ w1.drew.cell? ⟨b, off + k * 5, none⟩ = some (.int .i64 x.state) ∧ w1.drew.cell? ⟨b, off + k * 5 + 1, none⟩ = some (.int .i64 x.number) ∧ w1.drew.cell? ⟨b, off + k * 5 + 2, none⟩ = some (.int .i64 x.start) ∧ w1.drew.cell? ⟨b, off + k * 5 + 3, none⟩ = some (.int .i64 x.finish) ∧ w1.drew.cell? ⟨b, off + k * 5 + 4, none⟩ = some (.slice B0 mc cc0) := ⟨P2.cell 2, hSS _ K2⟩
   have rc2 := R2.cell
   refine wp_region_held_drew (S := fun w' => w'.cell? ⟨w.heap.size, 2, none⟩ = some (.slice (some ⟨b, off, none⟩) n c) ∧ w'.cell? ⟨b, off + k * 5, none⟩ = some (.int .i64 x.state) ∧ w'.cell? ⟨b, off + k * 5 + 1, none⟩ = some (.int .i64 x.number) ∧ w'.cell? ⟨b, off + k * 5 + 2, none⟩ = some (.int .i64 x.start) ∧ w'.cell? ⟨b, off + k * 5 + 3, none⟩ = some (.int .i64 x.finish) ∧ w'.cell? ⟨b, off + k * 5 + 4, none⟩ = some (.slice B0 mc cc0)) (by kernel_rfl) (by (try dsimp only); first | exact pk2 | exact pk5 | exact pk6 | exact pk7) (fun hH => ?_)
   refine wQ 0 ?_
   refine wQ 2 ?_
   refine wQ 3 ?_
   refine wQ 4 ?_
   refine wQ 5 ?_
   refine wQ 6 ?_
   refine wQ 7 ?_
   refine wQ 8 ?_
   refine wQ 9 ?_
   refine wQ 10 ?_
   refine wQ 11 ?_
   refine wQ 12 ?_
   refine wQ 13 ?_
   refine wR (rs := [1, 14]) (by kernel_rfl) (by simp) ?_
   refine aC rfl (fun K hK => ?_) ?_
   ·go_simp
    refine hK.out _ _ (by (try dsimp only); first | exact pk2 | exact pk5 | exact pk6 | exact pk7) (fun hH => ?_)
    clear hK K
    try simp only [Act.put, pX]
    refine wR (rs := [14]) (by kernel_rfl) (by simp) ?_
    refine aC rfl (fun K hK => ?_) aN
    go_simp
    refine (jgu B0 mc cc0 0 x.card _ X2 hmb).mono ?_
    rintro e w5 ⟨An, cn, rfl, on, b5⟩
    have WX := nB w5 (.cells #[x.state, x.card.number, x.card.start, x.card.finish, .slice An mc cn] 108)
    have BA := nP w5 [x.state, x.card.number, x.card.start, x.card.finish, .slice An mc cn] 108
    have zw5 := nZ w5 (.cells #[x.state, x.card.number, x.card.start, x.card.finish, .slice An mc cn] 108)
    have R5 := R2.next b5
    have R6 := R5.next WX
    have P5 := P2.next b5
    have P6 := P5.next WX
    have Z5 := Z2.next b5
    have Z6 := Z5.next WX
    have D5 := jaa D2 b5
    have D6 := jaa D5 WX
    have K5 := K2.trans (b5.mono zK2)
    have K6 := K5.trans (WX.mono (Nat.le_trans zK2 b5.size))
    have hz5 := b5.size
    have own5 := jad own2 b5
    have own6 := jad own5 WX
    have hin5 := hin2.next b5
    have pk5 : w5.cell? ⟨w.heap.size, 2, none⟩ = some (.slice (some ⟨b, off, none⟩) n c) ∧ w5.cell? ⟨b, off + k * 5, none⟩ = some (.int .i64 x.state) ∧ w5.cell? ⟨b, off + k * 5 + 1, none⟩ = some (.int .i64 x.number) ∧ w5.cell? ⟨b, off + k * 5 + 2, none⟩ = some (.int .i64 x.start) ∧ w5.cell? ⟨b, off + k * 5 + 3, none⟩ = some (.int .i64 x.finish) ∧ w5.cell? ⟨b, off + k * 5 + 4, none⟩ = some (.slice B0 mc cc0) := ⟨P5.cell 2, hSS _ K5⟩
    have pk6 : (w5.alloc (.cells #[x.state, x.card.number, x.card.start, x.card.finish, .slice An mc cn] 108)).cell? ⟨w.heap.size, 2, none⟩ = some (.slice (some ⟨b, off, none⟩) n c) ∧ (w5.alloc (.cells #[x.state, x.card.number, x.card.start, x.card.finish, .slice An mc cn] 108)).cell? ⟨b, off + k * 5, none⟩ = some (.int .i64 x.state) ∧ (w5.alloc (.cells #[x.state, x.card.number, x.card.start, x.card.finish, .slice An mc cn] 108)).cell? ⟨b, off + k * 5 + 1, none⟩ = some (.int .i64 x.number) ∧ (w5.alloc (.cells #[x.state, x.card.number, x.card.start, x.card.finish, .slice An mc cn] 108)).cell? ⟨b, off + k * 5 + 2, none⟩ = some (.int .i64 x.start) ∧ (w5.alloc (.cells #[x.state, x.card.number, x.card.start, x.card.finish, .slice An mc cn] 108)).cell? ⟨b, off + k * 5 + 3, none⟩ = some (.int .i64 x.finish) ∧ (w5.alloc (.cells #[x.state, x.card.number, x.card.start, x.card.finish, .slice An mc cn] 108)).cell? ⟨b, off + k * 5 + 4, none⟩ = some (.slice B0 mc cc0) := ⟨P6.cell 2, hSS _ K6⟩
    have rc5 := R5.cell
    have rc6 := R6.cell
    go_wp2_with fail
    refine hK.out _ _ (by (try dsimp only); first | exact pk2 | exact pk5 | exact pk6 | exact pk7) (fun hH => ?_)
    clear hK K
    refine wQ 15 ?_
    refine wR (rs := [16]) (by kernel_rfl) (by simp) ?_
    refine aC rfl (fun K hK => ?_) aN
    go_simp
    refine hK.out _ _ (by (try dsimp only); first | exact pk2 | exact pk5 | exact pk6 | exact pk7) (fun hH => ?_)
    clear hK K
    try simp only [Act.put, pX]
    refine wR (rs := [17]) (by kernel_rfl) (by simp) ?_
    refine aC rfl (fun K hK => ?_) aN
    refine jas rfl _ _ _ (by rfl) Tryz.underlying30 jbd rfl (by decide) (by rfl) own6 (by rfl) (m := 1) (BA.sees (s := 5) (Nat.zero_le _) rfl) (by rfl) (show k ≤ 1000000000 by omega) (by omega) (by decide) (by have := b5.size; omega) ?_
    intro A7 c7 w7 o7 h7 b7 q7
    have R7 := R6.only h7 hng
    have P7 := P6.only h7 (fun h => by have := (jai own6 h).1; omega)
    have Z7 := Z6.only h7 (fun h => by have := (jai own6 h).1; omega)
    have D7 := D6.size
    have K7 := K6.trans (b7.mono (by omega))
    have hz7 := h7.size
    have pk7 : w7.cell? ⟨w.heap.size, 2, none⟩ = some (.slice (some ⟨b, off, none⟩) n c) ∧ w7.cell? ⟨b, off + k * 5, none⟩ = some (.int .i64 x.state) ∧ w7.cell? ⟨b, off + k * 5 + 1, none⟩ = some (.int .i64 x.number) ∧ w7.cell? ⟨b, off + k * 5 + 2, none⟩ = some (.int .i64 x.start) ∧ w7.cell? ⟨b, off + k * 5 + 3, none⟩ = some (.int .i64 x.finish) ∧ w7.cell? ⟨b, off + k * 5 + 4, none⟩ = some (.slice B0 mc cc0) := ⟨P7.cell 2, hSS _ K7⟩
    have rc7 := R7.cell
    have rf7 := R7.frozen
    have hst : Only (fun b => b = w.heap.size + 3) w7 (w7.setCell ⟨w.heap.size + 3, 2, none⟩ (.slice A7 (k + 1) c7)) := (Only.refl (fun b => b = w.heap.size + 3) w7).setCell (p := ⟨w.heap.size + 3, 2, none⟩) rfl _
    have K8 := K7.trans (hst.below (fun b hb => by omega) (by have := K7.size; omega))
    have P8 := P7.only hst (fun h => by omega)
    have hz8 := hst.size
    have pk8 : (w7.setCell ⟨w.heap.size + 3, 2, none⟩ (.slice A7 (k + 1) c7)).cell? ⟨w.heap.size, 2, none⟩ = some (.slice (some ⟨b, off, none⟩) n c) ∧ (w7.setCell ⟨w.heap.size + 3, 2, none⟩ (.slice A7 (k + 1) c7)).cell? ⟨b, off + k * 5, none⟩ = some (.int .i64 x.state) ∧ (w7.setCell ⟨w.heap.size + 3, 2, none⟩ (.slice A7 (k + 1) c7)).cell? ⟨b, off + k * 5 + 1, none⟩ = some (.int .i64 x.number) ∧ (w7.setCell ⟨w.heap.size + 3, 2, none⟩ (.slice A7 (k + 1) c7)).cell? ⟨b, off + k * 5 + 2, none⟩ = some (.int .i64 x.start) ∧ (w7.setCell ⟨w.heap.size + 3, 2, none⟩ (.slice A7 (k + 1) c7)).cell? ⟨b, off + k * 5 + 3, none⟩ = some (.int .i64 x.finish) ∧ (w7.setCell ⟨w.heap.size + 3, 2, none⟩ (.slice A7 (k + 1) c7)).cell? ⟨b, off + k * 5 + 4, none⟩ = some (.slice B0 mc cc0) := ⟨P8.cell 2, hSS _ K8⟩
    refine hK.out _ _ (by (try dsimp only); first | exact pk2 | exact pk5 | exact pk6 | exact pk7) (fun hH => ?_)
    clear hK K
    try simp only [Act.put, pX]
    refine wQ 18 ?_
    refine wR (rs := [19]) (by kernel_rfl) (by simp) ?_
    refine aC rfl (fun K hK => ?_) aN
    go_simp
    refine hK.out _ _ (by (try dsimp only); exact pk8) (fun hH => ?_)
    clear hK K
    try simp only [Act.put, pX]
    refine wD (by kernel_rfl) ?_ _
    have R8 := R7.set_ 2 (.slice A7 (k + 1) c7)
    have Z8 := Z7.only hst (fun h => by omega)
    have zst := hst.size
    have z7 := h7.size
    have z5 := b5.size
    have hs := jdr (sh := entrantSh) (x := x) (B1 := An) (d := cn) (D := fun _ => False) hin5 hap (fun b hb => (jai hown hb).2) on (fun b hb => hb.elim) zD2 (Only.of_below WX) h7 q7 zr (by omega)
    have zfin : w.heap.size + 4 ≤ (w7.setCell ⟨w.heap.size + 3, 2, none⟩ (.slice A7 (k + 1) c7)).heap.size := by omega
    have hng7 : ¬ jaj A7 (w.heap.size + 3) := fun hb => (q7 _ hb).elim hng (fun h => by omega)
    have o8 := jbc o7 hst (fun b hb (h : b = w.heap.size + 3) => hng7 (h ▸ hb))
    have hin8 := (hs.1.only hst (fun b h1 (h2 : b = w.heap.size + 3) => by have := h1.1; omega)).wide (T := In (w.heap.size + 4) (w7.setCell ⟨w.heap.size + 3, 2, none⟩ (.slice A7 (k + 1) c7)).heap.size) (fun b h => ⟨h.1, by have := h.2; omega⟩)
    have HN := Lib.hid (show (rs ++ [(⟨x, An, mc, cn⟩ : Hd Entrant)]).map Hd.x = xs.take (k + 1) by rw [List.map_append, HR.out, List.take_succ_eq_append_getElem hkx, HX.out]; rfl)
    go_wp2_with fail
    go_roundw
    case rel => exact ⟨k + 1, rs ++ [⟨x, An, mc, cn⟩], A7, c7, by omega, by go_num, R8, P8, Z8, by rw [List.flatMap_append]; exact o8, HN, hin8, hs.2, hng7, zfin, K8⟩
    case measure => simp [intOf]; omega
   refine aC rfl (fun K hK => ?_) aN
   ·go_simp
    refine (jgu B0 mc cc0 0 x.card _ X2 hmb).mono ?_
    rintro e w5 ⟨An, cn, rfl, on, b5⟩
    have WX := nB w5 (.cells #[x.state, x.card.number, x.card.start, x.card.finish, .slice An mc cn] 108)
    have BA := nP w5 [x.state, x.card.number, x.card.start, x.card.finish, .slice An mc cn] 108
    have zw5 := nZ w5 (.cells #[x.state, x.card.number, x.card.start, x.card.finish, .slice An mc cn] 108)
    have R5 := R2.next b5
    have R6 := R5.next WX
    have P5 := P2.next b5
    have P6 := P5.next WX
    have Z5 := Z2.next b5
    have Z6 := Z5.next WX
    have D5 := jaa D2 b5
    have D6 := jaa D5 WX
    have K5 := K2.trans (b5.mono zK2)
    have K6 := K5.trans (WX.mono (Nat.le_trans zK2 b5.size))
    have hz5 := b5.size
    have own5 := jad own2 b5
    have own6 := jad own5 WX
    have hin5 := hin2.next b5
    have pk5 : w5.cell? ⟨w.heap.size, 2, none⟩ = some (.slice (some ⟨b, off, none⟩) n c) ∧ w5.cell? ⟨b, off + k * 5, none⟩ = some (.int .i64 x.state) ∧ w5.cell? ⟨b, off + k * 5 + 1, none⟩ = some (.int .i64 x.number) ∧ w5.cell? ⟨b, off + k * 5 + 2, none⟩ = some (.int .i64 x.start) ∧ w5.cell? ⟨b, off + k * 5 + 3, none⟩ = some (.int .i64 x.finish) ∧ w5.cell? ⟨b, off + k * 5 + 4, none⟩ = some (.slice B0 mc cc0) := ⟨P5.cell 2, hSS _ K5⟩
    have pk6 : (w5.alloc (.cells #[x.state, x.card.number, x.card.start, x.card.finish, .slice An mc cn] 108)).cell? ⟨w.heap.size, 2, none⟩ = some (.slice (some ⟨b, off, none⟩) n c) ∧ (w5.alloc (.cells #[x.state, x.card.number, x.card.start, x.card.finish, .slice An mc cn] 108)).cell? ⟨b, off + k * 5, none⟩ = some (.int .i64 x.state) ∧ (w5.alloc (.cells #[x.state, x.card.number, x.card.start, x.card.finish, .slice An mc cn] 108)).cell? ⟨b, off + k * 5 + 1, none⟩ = some (.int .i64 x.number) ∧ (w5.alloc (.cells #[x.state, x.card.number, x.card.start, x.card.finish, .slice An mc cn] 108)).cell? ⟨b, off + k * 5 + 2, none⟩ = some (.int .i64 x.start) ∧ (w5.alloc (.cells #[x.state, x.card.number, x.card.start, x.card.finish, .slice An mc cn] 108)).cell? ⟨b, off + k * 5 + 3, none⟩ = some (.int .i64 x.finish) ∧ (w5.alloc (.cells #[x.state, x.card.number, x.card.start, x.card.finish, .slice An mc cn] 108)).cell? ⟨b, off + k * 5 + 4, none⟩ = some (.slice B0 mc cc0) := ⟨P6.cell 2, hSS _ K6⟩
    have rc5 := R5.cell
    have rc6 := R6.cell
    go_wp2_with fail
    refine hK.out _ _ (by (try dsimp only); first | exact pk2 | exact pk5 | exact pk6 | exact pk7) (fun hH => ?_)
    clear hK K
    refine wQ 15 ?_
    refine wR (rs := [1, 16]) (by kernel_rfl) (by simp) ?_
    refine aC rfl (fun K hK => ?_) ?_
    ·go_simp
     refine hK.out _ _ (by (try dsimp only); first | exact pk2 | exact pk5 | exact pk6 | exact pk7) (fun hH => ?_)
     clear hK K
     try simp only [Act.put, pX]
     refine wR (rs := [16]) (by kernel_rfl) (by simp) ?_
     refine aC rfl (fun K hK => ?_) aN
     go_simp
     refine hK.out _ _ (by (try dsimp only); first | exact pk2 | exact pk5 | exact pk6 | exact pk7) (fun hH => ?_)
     clear hK K
     try simp only [Act.put, pX]
     refine wR (rs := [17]) (by kernel_rfl) (by simp) ?_
     refine aC rfl (fun K hK => ?_) aN
     refine jas rfl _ _ _ (by rfl) Tryz.underlying30 jbd rfl (by decide) (by rfl) own6 (by rfl) (m := 1) (BA.sees (s := 5) (Nat.zero_le _) rfl) (by rfl) (show k ≤ 1000000000 by omega) (by omega) (by decide) (by have := b5.size; omega) ?_
     intro A7 c7 w7 o7 h7 b7 q7
     have R7 := R6.only h7 hng
     have P7 := P6.only h7 (fun h => by have := (jai own6 h).1; omega)
     have Z7 := Z6.only h7 (fun h => by have := (jai own6 h).1; omega)
     have D7 := D6.size
     have K7 := K6.trans (b7.mono (by omega))
     have hz7 := h7.size
     have pk7 : w7.cell? ⟨w.heap.size, 2, none⟩ = some (.slice (some ⟨b, off, none⟩) n c) ∧ w7.cell? ⟨b, off + k * 5, none⟩ = some (.int .i64 x.state) ∧ w7.cell? ⟨b, off + k * 5 + 1, none⟩ = some (.int .i64 x.number) ∧ w7.cell? ⟨b, off + k * 5 + 2, none⟩ = some (.int .i64 x.start) ∧ w7.cell? ⟨b, off + k * 5 + 3, none⟩ = some (.int .i64 x.finish) ∧ w7.cell? ⟨b, off + k * 5 + 4, none⟩ = some (.slice B0 mc cc0) := ⟨P7.cell 2, hSS _ K7⟩
     have rc7 := R7.cell
     have rf7 := R7.frozen
     have hst : Only (fun b => b = w.heap.size + 3) w7 (w7.setCell ⟨w.heap.size + 3, 2, none⟩ (.slice A7 (k + 1) c7)) := (Only.refl (fun b => b = w.heap.size + 3) w7).setCell (p := ⟨w.heap.size + 3, 2, none⟩) rfl _
     have K8 := K7.trans (hst.below (fun b hb => by omega) (by have := K7.size; omega))
     have P8 := P7.only hst (fun h => by omega)
     have hz8 := hst.size
     have pk8 : (w7.setCell ⟨w.heap.size + 3, 2, none⟩ (.slice A7 (k + 1) c7)).cell? ⟨w.heap.size, 2, none⟩ = some (.slice (some ⟨b, off, none⟩) n c) ∧ (w7.setCell ⟨w.heap.size + 3, 2, none⟩ (.slice A7 (k + 1) c7)).cell? ⟨b, off + k * 5, none⟩ = some (.int .i64 x.state) ∧ (w7.setCell ⟨w.heap.size + 3, 2, none⟩ (.slice A7 (k + 1) c7)).cell? ⟨b, off + k * 5 + 1, none⟩ = some (.int .i64 x.number) ∧ (w7.setCell ⟨w.heap.size + 3, 2, none⟩ (.slice A7 (k + 1) c7)).cell? ⟨b, off + k * 5 + 2, none⟩ = some (.int .i64 x.start) ∧ (w7.setCell ⟨w.heap.size + 3, 2, none⟩ (.slice A7 (k + 1) c7)).cell? ⟨b, off + k * 5 + 3, none⟩ = some (.int .i64 x.finish) ∧ (w7.setCell ⟨w.heap.size + 3, 2, none⟩ (.slice A7 (k + 1) c7)).cell? ⟨b, off + k * 5 + 4, none⟩ = some (.slice B0 mc cc0) := ⟨P8.cell 2, hSS _ K8⟩
     refine hK.out _ _ (by (try dsimp only); first | exact pk2 | exact pk5 | exact pk6 | exact pk7) (fun hH => ?_)
     clear hK K
     try simp only [Act.put, pX]
     refine wQ 18 ?_
     refine wR (rs := [19]) (by kernel_rfl) (by simp) ?_
     refine aC rfl (fun K hK => ?_) aN
     go_simp
     refine hK.out _ _ (by (try dsimp only); exact pk8) (fun hH => ?_)
     clear hK K
     try simp only [Act.put, pX]
     refine wD (by kernel_rfl) ?_ _
     have R8 := R7.set_ 2 (.slice A7 (k + 1) c7)
     have Z8 := Z7.only hst (fun h => by omega)
     have zst := hst.size
     have z7 := h7.size
     have z5 := b5.size
     have hs := jdr (sh := entrantSh) (x := x) (B1 := An) (d := cn) (D := fun _ => False) hin5 hap (fun b hb => (jai hown hb).2) on (fun b hb => hb.elim) zD2 (Only.of_below WX) h7 q7 zr (by omega)
     have zfin : w.heap.size + 4 ≤ (w7.setCell ⟨w.heap.size + 3, 2, none⟩ (.slice A7 (k + 1) c7)).heap.size := by omega
     have hng7 : ¬ jaj A7 (w.heap.size + 3) := fun hb => (q7 _ hb).elim hng (fun h => by omega)
     have o8 := jbc o7 hst (fun b hb (h : b = w.heap.size + 3) => hng7 (h ▸ hb))
     have hin8 := (hs.1.only hst (fun b h1 (h2 : b = w.heap.size + 3) => by have := h1.1; omega)).wide (T := In (w.heap.size + 4) (w7.setCell ⟨w.heap.size + 3, 2, none⟩ (.slice A7 (k + 1) c7)).heap.size) (fun b h => ⟨h.1, by have := h.2; omega⟩)
     have HN := Lib.hid (show (rs ++ [(⟨x, An, mc, cn⟩ : Hd Entrant)]).map Hd.x = xs.take (k + 1) by rw [List.map_append, HR.out, List.take_succ_eq_append_getElem hkx, HX.out]; rfl)
     go_wp2_with fail
     go_roundw
     case rel => exact ⟨k + 1, rs ++ [⟨x, An, mc, cn⟩], A7, c7, by omega, by go_num, R8, P8, Z8, by rw [List.flatMap_append]; exact o8, HN, hin8, hs.2, hng7, zfin, K8⟩
     case measure => simp [intOf]; omega
    refine aC rfl (fun K hK => ?_) aN
    ·go_simp
     refine hK.out _ _ (by (try dsimp only); first | exact pk2 | exact pk5 | exact pk6 | exact pk7) (fun hH => ?_)
     clear hK K
     try simp only [Act.put, pX]
     refine wR (rs := [1]) (by kernel_rfl) (by simp) ?_
     refine aC rfl (fun K hK => ?_) aN
     go_simp
     refine hK.out _ _ (by (try dsimp only); first | exact pk2 | exact pk5 | exact pk6 | exact pk7) (fun hH => ?_)
     clear hK K
     try simp only [Act.put, pX]
     refine wR (rs := [17]) (by kernel_rfl) (by simp) ?_
     refine aC rfl (fun K hK => ?_) aN
     refine jas rfl _ _ _ (by rfl) Tryz.underlying30 jbd rfl (by decide) (by rfl) own6 (by rfl) (m := 1) (BA.sees (s := 5) (Nat.zero_le _) rfl) (by rfl) (show k ≤ 1000000000 by omega) (by omega) (by decide) (by have := b5.size; omega) ?_
     intro A7 c7 w7 o7 h7 b7 q7
     have R7 := R6.only h7 hng
     have P7 := P6.only h7 (fun h => by have := (jai own6 h).1; omega)
     have Z7 := Z6.only h7 (fun h => by have := (jai own6 h).1; omega)
     have D7 := D6.size
     have K7 := K6.trans (b7.mono (by omega))
     have hz7 := h7.size
     have pk7 : w7.cell? ⟨w.heap.size, 2, none⟩ = some (.slice (some ⟨b, off, none⟩) n c) ∧ w7.cell? ⟨b, off + k * 5, none⟩ = some (.int .i64 x.state) ∧ w7.cell? ⟨b, off + k * 5 + 1, none⟩ = some (.int .i64 x.number) ∧ w7.cell? ⟨b, off + k * 5 + 2, none⟩ = some (.int .i64 x.start) ∧ w7.cell? ⟨b, off + k * 5 + 3, none⟩ = some (.int .i64 x.finish) ∧ w7.cell? ⟨b, off + k * 5 + 4, none⟩ = some (.slice B0 mc cc0) := ⟨P7.cell 2, hSS _ K7⟩
     have rc7 := R7.cell
     have rf7 := R7.frozen
     have hst : Only (fun b => b = w.heap.size + 3) w7 (w7.setCell ⟨w.heap.size + 3, 2, none⟩ (.slice A7 (k + 1) c7)) := (Only.refl (fun b => b = w.heap.size + 3) w7).setCell (p := ⟨w.heap.size + 3, 2, none⟩) rfl _
     have K8 := K7.trans (hst.below (fun b hb => by omega) (by have := K7.size; omega))
     have P8 := P7.only hst (fun h => by omega)
     have hz8 := hst.size
     have pk8 : (w7.setCell ⟨w.heap.size + 3, 2, none⟩ (.slice A7 (k + 1) c7)).cell? ⟨w.heap.size, 2, none⟩ = some (.slice (some ⟨b, off, none⟩) n c) ∧ (w7.setCell ⟨w.heap.size + 3, 2, none⟩ (.slice A7 (k + 1) c7)).cell? ⟨b, off + k * 5, none⟩ = some (.int .i64 x.state) ∧ (w7.setCell ⟨w.heap.size + 3, 2, none⟩ (.slice A7 (k + 1) c7)).cell? ⟨b, off + k * 5 + 1, none⟩ = some (.int .i64 x.number) ∧ (w7.setCell ⟨w.heap.size + 3, 2, none⟩ (.slice A7 (k + 1) c7)).cell? ⟨b, off + k * 5 + 2, none⟩ = some (.int .i64 x.start) ∧ (w7.setCell ⟨w.heap.size + 3, 2, none⟩ (.slice A7 (k + 1) c7)).cell? ⟨b, off + k * 5 + 3, none⟩ = some (.int .i64 x.finish) ∧ (w7.setCell ⟨w.heap.size + 3, 2, none⟩ (.slice A7 (k + 1) c7)).cell? ⟨b, off + k * 5 + 4, none⟩ = some (.slice B0 mc cc0) := ⟨P8.cell 2, hSS _ K8⟩
     refine hK.out _ _ (by (try dsimp only); first | exact pk2 | exact pk5 | exact pk6 | exact pk7) (fun hH => ?_)
     clear hK K
     try simp only [Act.put, pX]
     refine wQ 18 ?_
     refine wR (rs := [19]) (by kernel_rfl) (by simp) ?_
     refine aC rfl (fun K hK => ?_) aN
     go_simp
     refine hK.out _ _ (by (try dsimp only); exact pk8) (fun hH => ?_)
     clear hK K
     try simp only [Act.put, pX]
     refine wD (by kernel_rfl) ?_ _
     have R8 := R7.set_ 2 (.slice A7 (k + 1) c7)
     have Z8 := Z7.only hst (fun h => by omega)
     have zst := hst.size
     have z7 := h7.size
     have z5 := b5.size
     have hs := jdr (sh := entrantSh) (x := x) (B1 := An) (d := cn) (D := fun _ => False) hin5 hap (fun b hb => (jai hown hb).2) on (fun b hb => hb.elim) zD2 (Only.of_below WX) h7 q7 zr (by omega)
     have zfin : w.heap.size + 4 ≤ (w7.setCell ⟨w.heap.size + 3, 2, none⟩ (.slice A7 (k + 1) c7)).heap.size := by omega
     have hng7 : ¬ jaj A7 (w.heap.size + 3) := fun hb => (q7 _ hb).elim hng (fun h => by omega)
     have o8 := jbc o7 hst (fun b hb (h : b = w.heap.size + 3) => hng7 (h ▸ hb))
     have hin8 := (hs.1.only hst (fun b h1 (h2 : b = w.heap.size + 3) => by have := h1.1; omega)).wide (T := In (w.heap.size + 4) (w7.setCell ⟨w.heap.size + 3, 2, none⟩ (.slice A7 (k + 1) c7)).heap.size) (fun b h => ⟨h.1, by have := h.2; omega⟩)
     have HN := Lib.hid (show (rs ++ [(⟨x, An, mc, cn⟩ : Hd Entrant)]).map Hd.x = xs.take (k + 1) by rw [List.map_append, HR.out, List.take_succ_eq_append_getElem hkx, HX.out]; rfl)
     go_wp2_with fail
     go_roundw
     case rel => exact ⟨k + 1, rs ++ [⟨x, An, mc, cn⟩], A7, c7, by omega, by go_num, R8, P8, Z8, by rw [List.flatMap_append]; exact o8, HN, hin8, hs.2, hng7, zfin, K8⟩
     case measure => simp [intOf]; omega
  ·obtain rfl : k = n := by omega
   have HE := Lib.hid (show rs.map Hd.x = xs by rw [HR.out, List.take_of_length_le (by omega)])
   have hlti : ¬ (k : Int) < (k : Int) := by omega
   have rc := R0.cell
   have zc := Z0.cell
   have zf := Z0.frozen
   have pc := P0.cell
   go_wp2_with fail
   have RF := ((Z0.set_ 0 (.int .i64 t)).set_ 1 (.bool cl)).set_ 2 (.slice A' k c')
   have E := (((Only.refl (fun b => b = w.heap.size + 1) wr).setCell (p := ⟨w.heap.size + 1, 0, none⟩) rfl (.int .i64 t)).setCell (p := ⟨w.heap.size + 1, 1, none⟩) rfl (.bool cl)).setCell (p := ⟨w.heap.size + 1, 2, none⟩) rfl (.slice A' k c')
   have zF := E.size
   have M : MineN entrantSh wr (fun b => w.heap.size + 2 ≤ b ∧ b < wr.heap.size) 108 188 A' k c' xs := ⟨rs, HE.out, ⟨jax hown (Nat.zero_le _), fun b hb => jai hown hb⟩, hin.wide (fun b hb => ⟨by have := hb.1; omega, hb.2⟩), hap⟩
   have M2 := (M.only E (fun b h1 (h2 : b = w.heap.size + 1) => by omega)).wide (T := In w.heap.size (((wr.setCell ⟨w.heap.size + 1, 0, none⟩ (.int .i64 t)).setCell ⟨w.heap.size + 1, 1, none⟩ (.bool cl)).setCell ⟨w.heap.size + 1, 2, none⟩ (.slice A' k c')).heap.size) (fun b hb => ⟨by omega, by omega⟩)
   have KF := K0.trans (E.below (fun b hb => by omega) K0.size)
   have e := HL.out
   subst e
   refine bodyPost_ret (results_cell_row rfl _ _ (w.heap.size + 1) _ _ (0, 0) _ rfl RF Tryz.underlying32 rfl (by kernel_rfl)) rfl ⟨A', c', rfl, M2, KF⟩
theorem jc4 (t : Int) (cl : Bool) (l : Log) (A : Option Addr) (n c : Nat) (xs : List Entrant) (w : World) (hx : SeesN entrantSh w 0 A n xs) (hn : n ≤ 1048576) (hi : ∀ x ∈ xs, x.cnt ≤ 1048576) :
  Calls Tryz.prog 47 #[.agg #[t, cl, .slice A n c, l.durable, l.pending, l.count]] w (jqm w ⟨t, cl, xs⟩ l) := by
 have K0 := nB2 w (.cells #[t, cl, .slice A n c, l.durable, l.pending, l.count] 35) (.cells #[.int .i64 0, false, .slice none 0 0, .string ⟨#[]⟩, .string ⟨#[]⟩, .int .i64 0] 35)
 have P0 := nPa w [t, cl, .slice A n c, l.durable, l.pending, l.count] 35 (.cells #[.int .i64 0, false, .slice none 0 0, .string ⟨#[]⟩, .string ⟨#[]⟩, .int .i64 0] 35)
 have Q0 := nQ w (.cells #[t, cl, .slice A n c, l.durable, l.pending, l.count] 35) [.int .i64 0, false, .slice none 0 0, .string ⟨#[]⟩, .string ⟨#[]⟩, .int .i64 0] 35
 have z0 : ((w.alloc (.cells #[t, cl, .slice A n c, l.durable, l.pending, l.count] 35)).alloc (.cells #[.int .i64 0, false, .slice none 0 0, .string ⟨#[]⟩, .string ⟨#[]⟩, .int .i64 0] 35)).heap.size = w.heap.size + 2 := by simp
 go_enter Tryz.func47, Tryz.ntmps47
 go_wp2_with fail
 generalize (w.alloc _).alloc _ = w0 at *
 have b := (Quiet.one w0).below w0.heap.size
 have P2 := P0.next b
 have Q2 := Q0.next b
 have K2 := jaa K0 b
 have zb := b.size
 clear b P0 Q0 K0
 refine wp_region_held_drew (S := fun w' => w'.cell? ⟨w.heap.size, 0, none⟩ = some (.int .i64 t) ∧ w'.cell? ⟨w.heap.size, 1, none⟩ = some (.bool cl) ∧ w'.cell? ⟨w.heap.size, 2, none⟩ = some (.slice A n c) ∧ w'.cell? ⟨w.heap.size, 3, none⟩ = some (.string l.durable) ∧ w'.cell? ⟨w.heap.size, 4, none⟩ = some (.string l.pending) ∧ w'.cell? ⟨w.heap.size, 5, none⟩ = some (.int .i64 l.count)) (by kernel_rfl) (by (try dsimp only); first | exact ⟨P2.cell 0, P2.cell 1, P2.cell 2, P2.cell 3, P2.cell 4, P2.cell 5⟩ | exact pk3) (fun hH => ?_)
 generalize w0.drew = w2 at *
 refine wQ 0 ?_
 refine wQ 1 ?_
 refine wQ 3 ?_
 refine wQ 4 ?_
 refine wR (rs := [2]) (by kernel_rfl) (by simp) ?_
 refine aC rfl (fun K hK => ?_) aN
 go_simp
 refine (jfp t cl A n c xs _ (hx.below K2 (Nat.le_refl _)) hn hi).mono ?_
 rintro e w3 ⟨A1, c1, rfl, M1, b3⟩
 have P3 := P2.next b3
 have Q3 := Q2.next b3
 have K3 := jaa K2 b3
 have pk3 : w3.cell? ⟨w.heap.size, 0, none⟩ = some (.int .i64 t) ∧ w3.cell? ⟨w.heap.size, 1, none⟩ = some (.bool cl) ∧ w3.cell? ⟨w.heap.size, 2, none⟩ = some (.slice A n c) ∧ w3.cell? ⟨w.heap.size, 3, none⟩ = some (.string l.durable) ∧ w3.cell? ⟨w.heap.size, 4, none⟩ = some (.string l.pending) ∧ w3.cell? ⟨w.heap.size, 5, none⟩ = some (.int .i64 l.count) := ⟨P3.cell 0, P3.cell 1, P3.cell 2, P3.cell 3, P3.cell 4, P3.cell 5⟩
 have qc := Q3.cell
 have qf := Q3.frozen
 have EF := (((((((Only.refl (fun b => b = w.heap.size + 1) w3).setCell (p := ⟨w.heap.size + 1, 0, none⟩) rfl (.int .i64 t)).setCell (p := ⟨w.heap.size + 1, 1, none⟩) rfl (.bool cl)).setCell (p := ⟨w.heap.size + 1, 2, none⟩) rfl (.slice A1 xs.length c1)).setCell (p := ⟨w.heap.size + 1, 3, none⟩) rfl (.string l.durable)).setCell (p := ⟨w.heap.size + 1, 4, none⟩) rfl (.string l.pending)).setCell (p := ⟨w.heap.size + 1, 5, none⟩) rfl (.int .i64 l.count))
 have P4 := P3.only EF (fun h => by omega)
 go_wp2_with fail
 refine hK.out _ _ (by (try dsimp only); first | exact ⟨P2.cell 0, P2.cell 1, P2.cell 2, P2.cell 3, P2.cell 4, P2.cell 5⟩ | exact pk3) (fun hH => ?_)
 clear hK K
 refine wQ 5 ?_
 refine wR (rs := [6]) (by kernel_rfl) (by simp) ?_
 refine aC rfl (fun K hK => ?_) aN
 go_simp
 refine hK.out _ _ (by (try dsimp only); exact ⟨P4.cell 0, P4.cell 1, P4.cell 2, P4.cell 3, P4.cell 4, P4.cell 5⟩) (fun hH => ?_)
 clear hK K
 try simp only [Act.put, pX]
 refine wD (by kernel_rfl) ?_ _
 go_wp2_with fail
 have RF := ((((((Q3.set_ 0 (.int .i64 t)).set_ 1 (.bool cl)).set_ 2 (.slice A1 xs.length c1)).set_ 3 (.string l.durable)).set_ 4 (.string l.pending)).set_ 5 (.int .i64 l.count))
 have zF := EF.size
 have z3 := b3.size
 have z2 := K2.size
 have M2 := (M1.only EF (fun b h1 (h2 : b = w.heap.size + 1) => by have := h1.1; omega)).wide (T := In w.heap.size ((((((w3.setCell ⟨w.heap.size + 1, 0, none⟩ (.int .i64 t)).setCell ⟨w.heap.size + 1, 1, none⟩ (.bool cl)).setCell ⟨w.heap.size + 1, 2, none⟩ (.slice A1 xs.length c1)).setCell ⟨w.heap.size + 1, 3, none⟩ (.string l.durable)).setCell ⟨w.heap.size + 1, 4, none⟩ (.string l.pending)).setCell ⟨w.heap.size + 1, 5, none⟩ (.int .i64 l.count)).heap.size) (fun b hb => ⟨by have := hb.1; omega, by have := hb.2; omega⟩)
 refine bodyPost_ret (results_cell_row rfl _ _ (w.heap.size + 1) _ _ (0, 0) _ rfl RF Tryz.underlying35 rfl (by kernel_rfl)) rfl ⟨A1, c1, rfl, M2, ?_⟩
 exact K3.trans (EF.below (fun b hb => by omega) (by omega))
theorem jj5 (t : Int) (cl : Bool) (l : Log) (A : Option Addr) (n c : Nat) (xs : List Entrant) (w : World) (hx : SeesN entrantSh w 0 A n xs) (hn : n ≤ 1048576) (hi : ∀ x ∈ xs, x.cnt ≤ 1048576) :
  Calls Tryz.prog 41 #[.agg #[t, cl, .slice A n c, l.durable, l.pending, l.count]] w (jqm w ⟨t, cl, xs⟩ l) := by
 have K0 := nB2 w (.cells #[t, cl, .slice A n c, l.durable, l.pending, l.count] 35) (.cells #[.int .i64 0, false, .slice none 0 0, .string ⟨#[]⟩, .string ⟨#[]⟩, .int .i64 0] 35)
 have P0 := nPa w [t, cl, .slice A n c, l.durable, l.pending, l.count] 35 (.cells #[.int .i64 0, false, .slice none 0 0, .string ⟨#[]⟩, .string ⟨#[]⟩, .int .i64 0] 35)
 have Q0 := nQ w (.cells #[t, cl, .slice A n c, l.durable, l.pending, l.count] 35) [.int .i64 0, false, .slice none 0 0, .string ⟨#[]⟩, .string ⟨#[]⟩, .int .i64 0] 35
 have z0 : ((w.alloc (.cells #[t, cl, .slice A n c, l.durable, l.pending, l.count] 35)).alloc (.cells #[.int .i64 0, false, .slice none 0 0, .string ⟨#[]⟩, .string ⟨#[]⟩, .int .i64 0] 35)).heap.size = w.heap.size + 2 := by simp
 go_enter Tryz.func41, Tryz.ntmps41
 go_wp2_with fail
 generalize (w.alloc _).alloc _ = w0 at *
 have b := (Quiet.one w0).below w0.heap.size
 have P2 := P0.next b
 have Q2 := Q0.next b
 have K2 := jaa K0 b
 have zb := b.size
 clear b P0 Q0 K0
 refine wp_region_held_drew (S := fun w' => w'.cell? ⟨w.heap.size, 0, none⟩ = some (.int .i64 t) ∧ w'.cell? ⟨w.heap.size, 1, none⟩ = some (.bool cl) ∧ w'.cell? ⟨w.heap.size, 2, none⟩ = some (.slice A n c) ∧ w'.cell? ⟨w.heap.size, 3, none⟩ = some (.string l.durable) ∧ w'.cell? ⟨w.heap.size, 4, none⟩ = some (.string l.pending) ∧ w'.cell? ⟨w.heap.size, 5, none⟩ = some (.int .i64 l.count)) (by kernel_rfl) (by (try dsimp only); first | exact ⟨P2.cell 0, P2.cell 1, P2.cell 2, P2.cell 3, P2.cell 4, P2.cell 5⟩ | exact pk3) (fun hH => ?_)
 generalize w0.drew = w2 at *
 refine wQ 0 ?_
 refine wQ 1 ?_
 refine wQ 3 ?_
 refine wQ 4 ?_
 refine wR (rs := [2]) (by kernel_rfl) (by simp) ?_
 refine aC rfl (fun K hK => ?_) aN
 go_simp
 refine (jgl t cl A n c xs _ (hx.below K2 (Nat.le_refl _)) hn hi).mono ?_
 rintro e w3 ⟨A1, c1, rfl, M1, b3⟩
 have P3 := P2.next b3
 have Q3 := Q2.next b3
 have K3 := jaa K2 b3
 have pk3 : w3.cell? ⟨w.heap.size, 0, none⟩ = some (.int .i64 t) ∧ w3.cell? ⟨w.heap.size, 1, none⟩ = some (.bool cl) ∧ w3.cell? ⟨w.heap.size, 2, none⟩ = some (.slice A n c) ∧ w3.cell? ⟨w.heap.size, 3, none⟩ = some (.string l.durable) ∧ w3.cell? ⟨w.heap.size, 4, none⟩ = some (.string l.pending) ∧ w3.cell? ⟨w.heap.size, 5, none⟩ = some (.int .i64 l.count) := ⟨P3.cell 0, P3.cell 1, P3.cell 2, P3.cell 3, P3.cell 4, P3.cell 5⟩
 have qc := Q3.cell
 have qf := Q3.frozen
 have EF := (((((((Only.refl (fun b => b = w.heap.size + 1) w3).setCell (p := ⟨w.heap.size + 1, 0, none⟩) rfl (.int .i64 t)).setCell (p := ⟨w.heap.size + 1, 1, none⟩) rfl (.bool cl)).setCell (p := ⟨w.heap.size + 1, 2, none⟩) rfl (.slice A1 xs.length c1)).setCell (p := ⟨w.heap.size + 1, 3, none⟩) rfl (.string l.durable)).setCell (p := ⟨w.heap.size + 1, 4, none⟩) rfl (.string l.pending)).setCell (p := ⟨w.heap.size + 1, 5, none⟩) rfl (.int .i64 l.count))
 have P4 := P3.only EF (fun h => by omega)
 go_wp2_with fail
 refine hK.out _ _ (by (try dsimp only); first | exact ⟨P2.cell 0, P2.cell 1, P2.cell 2, P2.cell 3, P2.cell 4, P2.cell 5⟩ | exact pk3) (fun hH => ?_)
 clear hK K
 refine wQ 5 ?_
 refine wR (rs := [6]) (by kernel_rfl) (by simp) ?_
 refine aC rfl (fun K hK => ?_) aN
 go_simp
 refine hK.out _ _ (by (try dsimp only); exact ⟨P4.cell 0, P4.cell 1, P4.cell 2, P4.cell 3, P4.cell 4, P4.cell 5⟩) (fun hH => ?_)
 clear hK K
 try simp only [Act.put, pX]
 refine wD (by kernel_rfl) ?_ _
 go_wp2_with fail
 have RF := ((((((Q3.set_ 0 (.int .i64 t)).set_ 1 (.bool cl)).set_ 2 (.slice A1 xs.length c1)).set_ 3 (.string l.durable)).set_ 4 (.string l.pending)).set_ 5 (.int .i64 l.count))
 have zF := EF.size
 have z3 := b3.size
 have z2 := K2.size
 have M2 := (M1.only EF (fun b h1 (h2 : b = w.heap.size + 1) => by have := h1.1; omega)).wide (T := In w.heap.size ((((((w3.setCell ⟨w.heap.size + 1, 0, none⟩ (.int .i64 t)).setCell ⟨w.heap.size + 1, 1, none⟩ (.bool cl)).setCell ⟨w.heap.size + 1, 2, none⟩ (.slice A1 xs.length c1)).setCell ⟨w.heap.size + 1, 3, none⟩ (.string l.durable)).setCell ⟨w.heap.size + 1, 4, none⟩ (.string l.pending)).setCell ⟨w.heap.size + 1, 5, none⟩ (.int .i64 l.count)).heap.size) (fun b hb => ⟨by have := hb.1; omega, by have := hb.2; omega⟩)
 refine bodyPost_ret (results_cell_row rfl _ _ (w.heap.size + 1) _ _ (0, 0) _ rfl RF Tryz.underlying35 rfl (by kernel_rfl)) rfl ⟨A1, c1, rfl, M2, ?_⟩
 exact K3.trans (EF.below (fun b hb => by omega) (by omega))
end Go.Proofs.YtflpcdffmpfdpaaGreatDoor
