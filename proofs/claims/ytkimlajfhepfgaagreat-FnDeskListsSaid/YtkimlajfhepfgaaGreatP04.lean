/- Joined texts of this proof: CurCd, ShelfJZ, NewDIW, NewDI, NewDSW, NewDS, NewK. -/
import Derived.Deep.CutBlock
import Derived.Shelf.Small.Bits
import Derived.Shelf.Small.Wraps
import Derived.Shelf.Strconv.Itoa0
import Derived.Shelf.Sort.Plain
import Derived.Shelf.Slices.Turned
import Derived.Ground.Names2Prog
import Derived.Shelf.Slices.CompactI
import Derived.Shelf.Slices.SearchI
import Derived.Shelf.Slices.Cells
import Derived.Shelf.Slices.In.SortNone
import Derived.Test.YtkimlajfhepfgaaGreatChecked
import Derived.Test.YtkimlajfhepfgaaGreatP03
import Derived.Test.YtkimlajfhepfgaaGreatP01
namespace Go.Proofs.YtkimlajfhepfgaaGreat
open Go.RowKit

/-- A card under way: in block gc, its punches in memory of the call's own. -/
structure CardD (w wr : World) (g gc m : Nat) (num st fin : Int) (P : Option Addr) (kp cp : Nat) (ps : List Punch) : Prop where
 box : Blk wr gc 31 [.int .i64 num, .int .i64 st, .int .i64 fin, .slice P kp cp]
 res : Blk wr w.heap.size 31 [.int .i64 0, .int .i64 0, .int .i64 0, .slice none 0 0]
 own : wr.ownsRow w.heap.size 109 2 (.slice P kp cp) kp (ps.flatMap Punch.enc)
 far : ∀ b, OwnB P b → w.heap.size < b ∧ b ≠ gc
 cur : Cur wr g m
 only : Only (fun b => b = g) w wr
 nums : g < w.heap.size ∧ w.heap.size < gc
section
variable {w wr wv w4 : World} {g gc m m' : Nat} {num st fin : Int} {P P2 : Option Addr} {kp cp cp2 : Nat} {ps : List Punch}
theorem CardD.more (h : CardD w wr g gc m num st fin P kp cp ps) (hm : m ≤ m') : CardD w wr g gc m' num st fin P kp cp ps := { h with cur := h.cur.more hm }
theorem CardD.below (h : CardD w wr g gc m num st fin P kp cp ps) (hb : Below wr.heap.size wr wv) : CardD w wv g gc m num st fin P kp cp ps :=
 ⟨h.box.next hb, h.res.next hb, own_below h.own hb, h.far, h.cur.next hb, h.only.then_ hb, h.nums⟩
theorem CardD.drawn (h : CardD w wr g gc m num st fin P kp cp ps) (hc : Cur wv g m') (ho : Only (fun b => b = g) wr wv) : CardD w wv g gc m' num st fin P kp cp ps := by
 have hn := h.nums
 exact ⟨h.box.only ho (fun (e : _ = _) => by omega), h.res.only ho (fun (e : _ = _) => by omega), own_only h.own ho (fun b hb (e : b = g) => by have := (h.far b hb).1; omega), h.far, hc, h.only.trans ho, hn⟩
theorem CardD.set (h : CardD w wr g gc m num st fin P kp cp ps) (i : Nat) (u : Value) {num' st' fin' : Int} (he : [.int .i64 num, .int .i64 st, .int .i64 fin, .slice P kp cp].set i u = [.int .i64 num', .int .i64 st', .int .i64 fin', .slice P kp cp]) : CardD w (wr.setCell ⟨gc, i, none⟩ u) g gc m num' st' fin' P kp cp ps := by
 have hS : Only (fun b => b = gc) wr (wr.setCell ⟨gc, i, none⟩ u) := only_set (Only.refl _ _) i _
 have hn := h.nums
 refine ⟨by have := h.box.set_ i u; rwa [he] at this, h.res.only hS (fun (e : _ = _) => by omega), own_only h.own hS (fun b hb (e : _ = _) => (h.far b hb).2 e), h.far, h.cur.keep hS (fun (e : _ = _) => by omega) (fun b (e : _ = _) => by omega), only_new h.only (by show w.heap.size ≤ gc; omega) _, hn⟩
theorem CardD.push (h : CardD w wr g gc m num st fin P kp cp ps) {x : Punch} (o4 : w4.ownsRow w.heap.size 109 2 (.slice P2 (kp + 1) cp2) (kp + 1) (ps.flatMap Punch.enc ++ x.enc)) (h4 : Only (OwnB P) wr w4) (q4 : ∀ b, OwnB P2 b → OwnB P b ∨ wr.heap.size ≤ b) :
  CardD w (w4.setCell ⟨gc, 3, none⟩ (.slice P2 (kp + 1) cp2)) g gc m num st fin P2 (kp + 1) cp2 (ps ++ [x]) := by
 have hn := h.nums
 have hl := h.box.lt
 have far2 : ∀ b, OwnB P2 b → w.heap.size < b ∧ b ≠ gc := fun b hb => by
  rcases q4 b hb with h5 | h5
  ·exact h.far b h5
  ·exact ⟨by omega, by omega⟩
 have b1 := h.box.only h4 (fun hb => (h.far _ hb).2 rfl)
 have hS : Only (fun b => b = gc) w4 (w4.setCell ⟨gc, 3, none⟩ (.slice P2 (kp + 1) cp2)) := only_set (Only.refl _ _) 3 _
 have c4 := h.cur.keep h4 (fun hb => by have := (h.far _ hb).1; omega) (fun b hb => by have := (h.far _ hb).1; omega)
 have o1 := h.only
 have w4o : Only (fun b => b = g) w w4 := ⟨h4.os.trans o1.os, h4.tape.trans o1.tape, h4.output.trans o1.output, Nat.le_trans o1.size h4.size, fun i hi hS => (h4.block i (Nat.lt_of_lt_of_le hi o1.size) (fun hb => by have := (h.far _ hb).1; omega)).trans (o1.block i hi hS)⟩
 exact ⟨b1.set_ 3 _, (h.res.only h4 (fun hb => by have := (h.far _ hb).1; omega)).only hS (fun (e : _ = _) => by omega), own_only (by rw [List.flatMap_append, List.flatMap_singleton]; exact o4) hS (fun b hb (e : _ = _) => (far2 b hb).2 e), far2, c4.keep hS (fun (e : _ = _) => by omega) (fun b (e : _ = _) => by omega), only_new w4o (by show w.heap.size ≤ gc; omega) _, hn⟩
theorem CardD.done (h : CardD w wr g gc m num st fin P kp cp ps) (hk : kp ≤ 12) (hm : m ≤ m') : DrawnCard w g m' (.returned (.agg #[.int .i64 num, .int .i64 st, .int .i64 fin, .slice P kp cp])) ((((wr.setCell ⟨w.heap.size, 0, none⟩ (.int .i64 num)).setCell ⟨w.heap.size, 1, none⟩ (.int .i64 st)).setCell ⟨w.heap.size, 2, none⟩ (.int .i64 fin)).setCell ⟨w.heap.size, 3, none⟩ (.slice P kp cp)) := by
 have hn := h.nums
 have hS : Only (fun b => b = w.heap.size) wr ((((wr.setCell ⟨w.heap.size, 0, none⟩ (.int .i64 num)).setCell ⟨w.heap.size, 1, none⟩ (.int .i64 st)).setCell ⟨w.heap.size, 2, none⟩ (.int .i64 fin)).setCell ⟨w.heap.size, 3, none⟩ (.slice P kp cp)) := only_set (only_set (only_set (only_set (Only.refl _ _) 0 _) 1 _) 2 _) 3 _
 exact ⟨P, kp, cp, ⟨num, st, fin, ps⟩, rfl, own_only h.own hS (fun b hb (e : _ = _) => by have := (h.far b hb).1; omega), hk, (h.cur.more hm).keep hS (fun (e : _ = _) => by omega) (fun b (e : _ = _) => by omega), only_new (only_new (only_new (only_new h.only (Nat.le_refl _) _) (Nat.le_refl _) _) (Nat.le_refl _) _) (Nat.le_refl _) _⟩
end

set_option maxRecDepth 100000 in
set_option maxHeartbeats 8000000 in
theorem card_any (g n lo k c : Nat) (B : Option Addr) (cs : List Int) (w : World) (h : Cur w g n) (hn : n ≤ 700000) (hx : Sees w lo 1 B k (ints cs)) (hlo : g < lo) (hk : k ≤ 14) :
  Calls Tryz.prog 105 #[.pointer (some ⟨g, 0, none⟩), .slice B k c] w (DrawnCard w g (n + 100)) := by
 have U0 : Below w.heap.size w (w.alloc (.cells #[.int .i64 0, .int .i64 0, .int .i64 0, .slice none 0 0] 31)) := (Below.refl _ _).alloc (Nat.le_refl _) _
 have R0 : Blk (w.alloc (.cells #[.int .i64 0, .int .i64 0, .int .i64 0, .slice none 0 0] 31)) w.heap.size 31 [.int .i64 0, .int .i64 0, .int .i64 0, .slice none 0 0] := Blk.at_ rfl
 have z0 : (w.alloc (.cells #[.int .i64 0, .int .i64 0, .int .i64 0, .slice none 0 0] 31)).heap.size = w.heap.size + 1 := by simp
 have hg := h.lt
 have hc0 := h.next U0
 have o0 : Only (fun b => b = g) w (w.alloc (.cells #[.int .i64 0, .int .i64 0, .int .i64 0, .slice none 0 0] 31)) := .of_below U0
 go_enter Tryz.func105, Tryz.ntmps105
 go_wp2_with fail
 generalize (w.alloc (.cells #[.int .i64 0, .int .i64 0, .int .i64 0, .slice none 0 0] 31)) = w0 at *
 have U1 : Below w0.heap.size w0 (w0.alloc (.cells #[.int .i64 1, .int .i64 17, .int .i64 9999] 3)) := (Below.refl _ _).alloc (Nat.le_refl _) _
 have BQ : Blk (w0.alloc (.cells #[.int .i64 1, .int .i64 17, .int .i64 9999] 3)) (w.heap.size + 1) 3 (ints [1, 17, 9999]) := Blk.at_ z0
 have hl0 := hc0.lt
 refine (among_any g _ (w.heap.size + 1) 3 3 [1, 17, 9999] _ BQ (by omega) (hc0.next U1) (by omega) rfl (by decide) (by decide)).mono ?_
 rintro e w1 ⟨num, rfl, -, c1, o1⟩
 replace R0 := (R0.next U1).only o1 (fun (e : _ = _) => by omega)
 replace o0 := (o0.then_ U1).trans o1
 clear U1 BQ hl0 hc0 h z0
 have U1 : Below w1.heap.size w1 (w1.alloc (.cells #[.int .i64 0, .int .i64 600, .int .i64 3600] 3)) := (Below.refl _ _).alloc (Nat.le_refl _) _
 have BQ : Blk (w1.alloc (.cells #[.int .i64 0, .int .i64 600, .int .i64 3600] 3)) w1.heap.size 3 (ints [0, 600, 3600]) := Blk.at_ rfl
 have hl0 := c1.lt
 go_wp2_with fail
 refine (among_any g _ w1.heap.size 3 3 [0, 600, 3600] _ BQ (by omega) (c1.next U1) (by omega) rfl (by decide) (by decide)).mono ?_
 rintro e w2 ⟨st, rfl, hst, c2, o2⟩
 replace R0 := (R0.next U1).only o2 (fun (e : _ = _) => by omega)
 replace o0 := (o0.then_ U1).trans o2
 have hst2 : 0 ≤ st ∧ st ≤ 3600 := by simp at hst; omega
 clear U1 BQ hl0 c1 o1 o2 hst
 have hz2 := R0.lt
 have hz3 := c2.lt
 have UE : Below w2.heap.size w2 (w2.alloc (.cells #[] 109)) := (Below.refl _ _).alloc (Nat.le_refl _) _
 have UB : Below (w2.alloc (.cells #[] 109)).heap.size (w2.alloc (.cells #[] 109)) ((w2.alloc (.cells #[] 109)).alloc (.cells #[.int .i64 num, .int .i64 st, .int .i64 0, .slice (some ⟨w2.heap.size, 0, none⟩) 0 0] 31)) := (Below.refl _ _).alloc (Nat.le_refl _) _
 have D : CardD w ((w2.alloc (.cells #[] 109)).alloc (.cells #[.int .i64 num, .int .i64 st, .int .i64 0, .slice (some ⟨w2.heap.size, 0, none⟩) 0 0] 31)) g (w2.heap.size + 1) (n + 4) num st 0 (some ⟨w2.heap.size, 0, none⟩) 0 0 [] :=
  ⟨Blk.at_ (by simp), (R0.next UE).next UB, own_base (own_below (own_empty w2 109 2) UB) (by omega), fun b hb => by
    obtain rfl : w2.heap.size = b := by simpa [OwnB, Value.ownBlock] using hb
    exact ⟨by omega, by omega⟩, (c2.next UE).next UB, (o0.then_ UE).then_ UB, by omega, by omega⟩
 clear UE UB R0 c2 o0 hz2 hz3 U0
 have bc := D.box.cell
 have bf := D.box.frozen
 go_upto_block 0 with fail
 generalize ((w2.alloc (.cells #[] 109)).alloc (.cells #[.int .i64 num, .int .i64 st, .int .i64 0, .slice (some ⟨w2.heap.size, 0, none⟩) 0 0] 31)) = wz at *
 generalize hgc : w2.heap.size + 1 = gc at *
 clear hgc
 clear bc bf hg
 go_cut [6] from 18 to 80 (fun s6 wr => ∃ (a : Int) (P : Option Addr) (kp cp : Nat) (ps : List Punch), s6 = .int .i64 a ∧ (0 ≤ a ∧ a ≤ 9000) ∧ kp ≤ 12 ∧ CardD w wr g gc (n + 4 + 6 * 14) num st 0 P kp cp ps)
 case first =>
  go_wp2_with fail
  go_loopw [6, 7] (fun s6 s7 wr => ∃ (a : Int) (j : Nat) (P : Option Addr) (kp cp : Nat) (ps : List Punch), s6 = .int .i64 a ∧ s7 = .int .i64 (j : Int) ∧ (0 ≤ a ∧ a ≤ 3600 + 260 * (j : Int)) ∧ j ≤ k ∧ kp ≤ 12 ∧ CardD w wr g gc (n + 4 + 6 * j) num st 0 P kp cp ps) (fun _ i _ => k - (intOf i).toNat)
  case atStart => exact ⟨st, 0, _, 0, 0, [], rfl, rfl, ⟨by omega, by omega⟩, Nat.zero_le _, by omega, D⟩
  case round =>
   clear D
   obtain ⟨a, j, P, kp, cp, ps, rfl, rfl, ⟨ha0, ha1⟩, hjk, hkp, D⟩ := hrel
   have bc := D.box.cell
   by_cases hlt : j < k
   ·by_cases hlp : kp < 12
    ·have hlt1 : (j : Int) < (k : Int) := by omega
     have hlp1 : (kp : Int) < 12 := by omega
     have UA : Below wr.heap.size wr (wr.alloc (.cells #[.int .i64 0, .int .i64 30, .int .i64 60, .int .i64 100, .int .i64 250] 3)) := (Below.refl _ _).alloc (Nat.le_refl _) _
     have BL : Blk (wr.alloc (.cells #[.int .i64 0, .int .i64 30, .int .i64 60, .int .i64 100, .int .i64 250] 3)) wr.heap.size 3 (ints [0, 30, 60, 100, 250]) := Blk.at_ rfl
     have DA := D.below UA
     have hgl := D.cur.lt
     go_wp2_with fail
     refine (among_any g _ wr.heap.size 5 3 [0, 30, 60, 100, 250] _ BL (by omega) DA.cur (by omega) rfl (by decide) (by decide)).mono ?_
     rintro e w3 ⟨x, rfl, hxm, c2_, o2_⟩
     have D3 := DA.drawn c2_ o2_
     clear UA BL DA c2_ o2_ hgl
     have hx2 : 0 ≤ x ∧ x ≤ 250 := by simp at hxm; omega
     clear hxm bc D
     obtain ⟨a3, ha3⟩ : ∃ a3, a + x = a3 := ⟨_, rfl⟩
     have hwr : IntKind.i64.wrap (a + x) = a3 := by rw [IntWalk.i64_in _ (by omega)]; exact ha3
     have ha30 : 0 ≤ a3 := by omega
     have ha31 : a3 ≤ 3600 + 260 * (j : Int) + 250 := by omega
     go_wp2_with fail
     try rw [ha3]
     refine (pick_any 8 g _ _ D3.cur (by omega) (by decide) (by decide)).mono ?_
     rintro e w4 ⟨r, rfl, hr, c4, o4⟩
     have D4 := D3.drawn c4 o4
     clear D3 c4 o4 ha0 ha1 hx2 ha3 hwr
     have hr7 : r ≤ 7 := hr
     clear hr
     go_upto_block 2 with fail
     go_cut [6] from 37 to 65 (fun s6 wr => ∃ (a : Int) (P : Option Addr) (kp cp : Nat) (ps : List Punch), s6 = .int .i64 a ∧ (0 ≤ a ∧ a ≤ 3600 + 260 * (j : Int) + 260) ∧ kp ≤ 12 ∧ CardD w wr g gc (n + 4 + 6 * j + 6) num st 0 P kp cp ps)
     case first =>
      by_cases r0 : r = 0
      ·subst r0
       go_wp2_with fail
       go_roundw
       case rel => exact ⟨a3, j + 1, P, kp, cp, ps, rfl, by go_num, ⟨by omega, by omega⟩, by omega, by omega, D4.more (by omega)⟩
       case measure => simp [intOf]; omega
      have e0 : ((r : Int) == 0) = false := beq_eq_false_iff_ne.2 (by omega)
      by_cases r1 : r = 1
      ·subst r1
       go_wp2_with fail
       have Dq := D4.below ((Quiet.one w4).below _)
       have U4 : Below w4.heap.size w4 (w4.alloc (.cells #[.int .i64 31, .int .i64 50, .int .i64 77] 3)).drew := bel_then ((Below.refl _ _).alloc (Nat.le_refl _) _) ((Quiet.one _).below _)
       have BL : Blk (w4.alloc (.cells #[.int .i64 31, .int .i64 50, .int .i64 77] 3)).drew w4.heap.size 3 (ints [31, 50, 77]) := (show Blk (w4.alloc (.cells #[.int .i64 31, .int .i64 50, .int .i64 77] 3)) w4.heap.size 3 (ints [31, 50, 77]) from Blk.at_ rfl).next ((Quiet.one _).below _)
       have D1 := D4.below U4
       have hgl := D4.cur.lt
       have pg := Dq.box.cell
       have pg1 := D1.box.cell
       refine wp_region_held_drew (S := fun w' => True) (by kernel_rfl) (by trivial) (fun hH => ?_)
       refine wT (i := 0) (v := ?_) rfl (by kernel_rfl) (by kernel_rfl) (by kernel_rfl) (fun _ _ _ h => h) (Or.inl ⟨by rfl, ?_⟩) (by assumption) ?_
       rotate_left 1
       ·(intro w hSw; (try dsimp only at hSw); go_simp; try with_reducible rfl)
       simp only [Act.put, pX]
       refine wT (i := 2) (v := ?_) rfl (by kernel_rfl) (by kernel_rfl) (by kernel_rfl) (fun _ _ _ h => h) (Or.inl ⟨by rfl, ?_⟩) (by assumption) ?_
       rotate_left 1
       ·(intro w hSw; (try dsimp only at hSw); go_simp; try with_reducible rfl)
       simp only [Act.put, pX]
       refine wT (i := 5) (v := ?_) rfl (by kernel_rfl) (by kernel_rfl) (by kernel_rfl) (fun _ _ _ h => h) (Or.inl ⟨by rfl, ?_⟩) (by assumption) ?_
       rotate_left 1
       ·(intro w hSw; (try dsimp only at hSw); go_simp; try with_reducible rfl)
       simp only [Act.put, pX]
       refine wR (rs := [1, 3]) (by kernel_rfl) (by simp) ?_
       refine aC rfl (fun K hK => ?_) ?_
       ·go_simp
        refine hK.out _ _ (by trivial) (fun hH => ?_)
        clear hK K
        try simp only [Act.put, pX]
        refine wR (rs := [3]) (by kernel_rfl) (by simp) ?_
        refine aC rfl (fun K hK => ?_) aN
        go_simp
        refine hK.out _ _ (by trivial) (fun hH => ?_)
        clear hK K
        try simp only [Act.put, pX]
        refine wR (rs := [4]) (by kernel_rfl) (by simp) ?_
        refine aC rfl (fun K hK => ?_) aN
        go_simp
        refine (among_any g _ w4.heap.size 3 3 [31, 50, 77] _ BL (by omega) D1.cur (by omega) rfl (by decide) (by decide)).mono ?_
        rintro e w3 ⟨cv, rfl, -, c3, o3⟩
        have D3 := D1.drawn c3 o3
        have pg3 := D3.box.cell
        have U5 : Below w3.heap.size w3 (w3.alloc (.cells #[.int .i64 cv, .int .i64 a3] 109)) := (Below.refl _ _).alloc (Nat.le_refl _) _
        have BP : Blk (w3.alloc (.cells #[.int .i64 cv, .int .i64 a3] 109)) w3.heap.size 109 [.int .i64 cv, .int .i64 a3] := Blk.at_ rfl
        have D5 := D3.below U5
        have pg5 := D5.box.cell
        have hsw := D5.res.lt
        go_wp2_with fail
        refine hK.out _ _ (by trivial) (fun hH => ?_)
        clear hK K
        refine wT (i := 6) (v := ?_) rfl (by kernel_rfl) (by kernel_rfl) (by kernel_rfl) (fun _ _ _ h => h) (Or.inl ⟨by rfl, ?_⟩) (by assumption) ?_
        rotate_left 1
        ·(intro w hSw; (try dsimp only at hSw); go_simp; try with_reducible rfl)
        simp only [Act.put, pX]
        refine wR (rs := [7]) (by kernel_rfl) (by simp) ?_
        refine aC rfl (fun K hK => ?_) aN
        go_simp
        refine hK.out _ _ (by trivial) (fun hH => ?_)
        clear hK K
        try simp only [Act.put, pX]
        refine wR (rs := [8]) (by kernel_rfl) (by simp) ?_
        refine aC rfl (fun K hK => ?_) aN
        refine step_cat rfl _ _ _ (by rfl) Tryz.underlying29 info_impl_Punch rfl (by decide) (by rfl) D5.own (by rfl) (m := 1) (BP.sees (s := 2) (Nat.zero_le _) rfl) (by rfl) (by omega) (by omega) (by decide) (Nat.le_of_lt hsw) ?_
        intro A6 c6 w6 o6 h6 b6 q6
        have Bg6 := D5.box.only h6 (fun hb => (D5.far _ hb).2 rfl)
        have pg6 := Bg6.cell
        have fg6 := Bg6.frozen
        have D6 := D5.push (x := ⟨cv, a3⟩) o6 h6 q6
        refine hK.out _ _ (by trivial) (fun hH => ?_)
        clear hK K
        try simp only [Act.put, pX]
        refine wT (i := 9) (v := ?_) rfl (by kernel_rfl) (by kernel_rfl) (by kernel_rfl) (fun _ _ _ h => h) (Or.inl ⟨by rfl, ?_⟩) (by assumption) ?_
        rotate_left 1
        ·(intro w hSw; (try dsimp only at hSw); go_simp; try with_reducible rfl)
        simp only [Act.put, pX]
        refine wR (rs := [10]) (by kernel_rfl) (by simp) ?_
        refine aC rfl (fun K hK => ?_) aN
        go_simp
        refine hK.out _ _ (by trivial) (fun hH => ?_)
        clear hK K
        try simp only [Act.put, pX]
        refine wD (by kernel_rfl) ?_ _
        go_wp2_with fail
        go_meet
        exact ⟨_, A6, kp + 1, c6, _, by go_num, ⟨by omega, by omega⟩, by omega, D6.more (by omega)⟩
       refine aC rfl (fun K hK => ?_) aN
       ·go_simp
        refine hK.out _ _ (by trivial) (fun hH => ?_)
        clear hK K
        try simp only [Act.put, pX]
        refine wR (rs := [1, 4]) (by kernel_rfl) (by simp) ?_
        refine aC rfl (fun K hK => ?_) ?_
        ·go_simp
         refine hK.out _ _ (by trivial) (fun hH => ?_)
         clear hK K
         try simp only [Act.put, pX]
         refine wR (rs := [4]) (by kernel_rfl) (by simp) ?_
         refine aC rfl (fun K hK => ?_) aN
         go_simp
         refine (among_any g _ w4.heap.size 3 3 [31, 50, 77] _ BL (by omega) D1.cur (by omega) rfl (by decide) (by decide)).mono ?_
         rintro e w3 ⟨cv, rfl, -, c3, o3⟩
         have D3 := D1.drawn c3 o3
         have pg3 := D3.box.cell
         have U5 : Below w3.heap.size w3 (w3.alloc (.cells #[.int .i64 cv, .int .i64 a3] 109)) := (Below.refl _ _).alloc (Nat.le_refl _) _
         have BP : Blk (w3.alloc (.cells #[.int .i64 cv, .int .i64 a3] 109)) w3.heap.size 109 [.int .i64 cv, .int .i64 a3] := Blk.at_ rfl
         have D5 := D3.below U5
         have pg5 := D5.box.cell
         have hsw := D5.res.lt
         go_wp2_with fail
         refine hK.out _ _ (by trivial) (fun hH => ?_)
         clear hK K
         refine wT (i := 6) (v := ?_) rfl (by kernel_rfl) (by kernel_rfl) (by kernel_rfl) (fun _ _ _ h => h) (Or.inl ⟨by rfl, ?_⟩) (by assumption) ?_
         rotate_left 1
         ·(intro w hSw; (try dsimp only at hSw); go_simp; try with_reducible rfl)
         simp only [Act.put, pX]
         refine wR (rs := [7]) (by kernel_rfl) (by simp) ?_
         refine aC rfl (fun K hK => ?_) aN
         go_simp
         refine hK.out _ _ (by trivial) (fun hH => ?_)
         clear hK K
         try simp only [Act.put, pX]
         refine wR (rs := [8]) (by kernel_rfl) (by simp) ?_
         refine aC rfl (fun K hK => ?_) aN
         refine step_cat rfl _ _ _ (by rfl) Tryz.underlying29 info_impl_Punch rfl (by decide) (by rfl) D5.own (by rfl) (m := 1) (BP.sees (s := 2) (Nat.zero_le _) rfl) (by rfl) (by omega) (by omega) (by decide) (Nat.le_of_lt hsw) ?_
         intro A6 c6 w6 o6 h6 b6 q6
         have Bg6 := D5.box.only h6 (fun hb => (D5.far _ hb).2 rfl)
         have pg6 := Bg6.cell
         have fg6 := Bg6.frozen
         have D6 := D5.push (x := ⟨cv, a3⟩) o6 h6 q6
         refine hK.out _ _ (by trivial) (fun hH => ?_)
         clear hK K
         try simp only [Act.put, pX]
         refine wT (i := 9) (v := ?_) rfl (by kernel_rfl) (by kernel_rfl) (by kernel_rfl) (fun _ _ _ h => h) (Or.inl ⟨by rfl, ?_⟩) (by assumption) ?_
         rotate_left 1
         ·(intro w hSw; (try dsimp only at hSw); go_simp; try with_reducible rfl)
         simp only [Act.put, pX]
         refine wR (rs := [10]) (by kernel_rfl) (by simp) ?_
         refine aC rfl (fun K hK => ?_) aN
         go_simp
         refine hK.out _ _ (by trivial) (fun hH => ?_)
         clear hK K
         try simp only [Act.put, pX]
         refine wD (by kernel_rfl) ?_ _
         go_wp2_with fail
         go_meet
         exact ⟨_, A6, kp + 1, c6, _, by go_num, ⟨by omega, by omega⟩, by omega, D6.more (by omega)⟩
        refine aC rfl (fun K hK => ?_) aN
        ·go_simp
         refine (among_any g _ w4.heap.size 3 3 [31, 50, 77] _ BL (by omega) D1.cur (by omega) rfl (by decide) (by decide)).mono ?_
         rintro e w3 ⟨cv, rfl, -, c3, o3⟩
         have D3 := D1.drawn c3 o3
         have pg3 := D3.box.cell
         have U5 : Below w3.heap.size w3 (w3.alloc (.cells #[.int .i64 cv, .int .i64 a3] 109)) := (Below.refl _ _).alloc (Nat.le_refl _) _
         have BP : Blk (w3.alloc (.cells #[.int .i64 cv, .int .i64 a3] 109)) w3.heap.size 109 [.int .i64 cv, .int .i64 a3] := Blk.at_ rfl
         have D5 := D3.below U5
         have pg5 := D5.box.cell
         have hsw := D5.res.lt
         go_wp2_with fail
         refine hK.out _ _ (by trivial) (fun hH => ?_)
         clear hK K
         refine wT (i := 6) (v := ?_) rfl (by kernel_rfl) (by kernel_rfl) (by kernel_rfl) (fun _ _ _ h => h) (Or.inl ⟨by rfl, ?_⟩) (by assumption) ?_
         rotate_left 1
         ·(intro w hSw; (try dsimp only at hSw); go_simp; try with_reducible rfl)
         simp only [Act.put, pX]
         refine wR (rs := [1, 7]) (by kernel_rfl) (by simp) ?_
         refine aC rfl (fun K hK => ?_) ?_
         ·go_simp
          refine hK.out _ _ (by trivial) (fun hH => ?_)
          clear hK K
          try simp only [Act.put, pX]
          refine wR (rs := [7]) (by kernel_rfl) (by simp) ?_
          refine aC rfl (fun K hK => ?_) aN
          go_simp
          refine hK.out _ _ (by trivial) (fun hH => ?_)
          clear hK K
          try simp only [Act.put, pX]
          refine wR (rs := [8]) (by kernel_rfl) (by simp) ?_
          refine aC rfl (fun K hK => ?_) aN
          refine step_cat rfl _ _ _ (by rfl) Tryz.underlying29 info_impl_Punch rfl (by decide) (by rfl) D5.own (by rfl) (m := 1) (BP.sees (s := 2) (Nat.zero_le _) rfl) (by rfl) (by omega) (by omega) (by decide) (Nat.le_of_lt hsw) ?_
          intro A6 c6 w6 o6 h6 b6 q6
          have Bg6 := D5.box.only h6 (fun hb => (D5.far _ hb).2 rfl)
          have pg6 := Bg6.cell
          have fg6 := Bg6.frozen
          have D6 := D5.push (x := ⟨cv, a3⟩) o6 h6 q6
          refine hK.out _ _ (by trivial) (fun hH => ?_)
          clear hK K
          try simp only [Act.put, pX]
          refine wT (i := 9) (v := ?_) rfl (by kernel_rfl) (by kernel_rfl) (by kernel_rfl) (fun _ _ _ h => h) (Or.inl ⟨by rfl, ?_⟩) (by assumption) ?_
          rotate_left 1
          ·(intro w hSw; (try dsimp only at hSw); go_simp; try with_reducible rfl)
          simp only [Act.put, pX]
          refine wR (rs := [10]) (by kernel_rfl) (by simp) ?_
          refine aC rfl (fun K hK => ?_) aN
          go_simp
          refine hK.out _ _ (by trivial) (fun hH => ?_)
          clear hK K
          try simp only [Act.put, pX]
          refine wD (by kernel_rfl) ?_ _
          go_wp2_with fail
          go_meet
          exact ⟨_, A6, kp + 1, c6, _, by go_num, ⟨by omega, by omega⟩, by omega, D6.more (by omega)⟩
         refine aC rfl (fun K hK => ?_) aN
         ·go_simp
          refine hK.out _ _ (by trivial) (fun hH => ?_)
          clear hK K
          try simp only [Act.put, pX]
          refine wR (rs := [1]) (by kernel_rfl) (by simp) ?_
          refine aC rfl (fun K hK => ?_) aN
          go_simp
          refine hK.out _ _ (by trivial) (fun hH => ?_)
          clear hK K
          try simp only [Act.put, pX]
          refine wR (rs := [8]) (by kernel_rfl) (by simp) ?_
          refine aC rfl (fun K hK => ?_) aN
          refine step_cat rfl _ _ _ (by rfl) Tryz.underlying29 info_impl_Punch rfl (by decide) (by rfl) D5.own (by rfl) (m := 1) (BP.sees (s := 2) (Nat.zero_le _) rfl) (by rfl) (by omega) (by omega) (by decide) (Nat.le_of_lt hsw) ?_
          intro A6 c6 w6 o6 h6 b6 q6
          have Bg6 := D5.box.only h6 (fun hb => (D5.far _ hb).2 rfl)
          have pg6 := Bg6.cell
          have fg6 := Bg6.frozen
          have D6 := D5.push (x := ⟨cv, a3⟩) o6 h6 q6
          refine hK.out _ _ (by trivial) (fun hH => ?_)
          clear hK K
          try simp only [Act.put, pX]
          refine wT (i := 9) (v := ?_) rfl (by kernel_rfl) (by kernel_rfl) (by kernel_rfl) (fun _ _ _ h => h) (Or.inl ⟨by rfl, ?_⟩) (by assumption) ?_
          rotate_left 1
          ·(intro w hSw; (try dsimp only at hSw); go_simp; try with_reducible rfl)
          simp only [Act.put, pX]
          refine wR (rs := [10]) (by kernel_rfl) (by simp) ?_
          refine aC rfl (fun K hK => ?_) aN
          go_simp
          refine hK.out _ _ (by trivial) (fun hH => ?_)
          clear hK K
          try simp only [Act.put, pX]
          refine wD (by kernel_rfl) ?_ _
          go_wp2_with fail
          go_meet
          exact ⟨_, A6, kp + 1, c6, _, by go_num, ⟨by omega, by omega⟩, by omega, D6.more (by omega)⟩
      have e1 : ((r : Int) == 1) = false := beq_eq_false_iff_ne.2 (by omega)
      by_cases r2 : r = 2
      ·subst r2
       obtain ⟨b, off, rfl, hxk, hcv⟩ := (hx.draw D4.only hlo).int hlt
       obtain ⟨cv, hcve⟩ : ∃ cv, cs[j] = cv := ⟨_, rfl⟩
       rw [hcve] at hcv
       have hbz : b < w4.heap.size := by
        rcases Nat.lt_or_ge b w4.heap.size with h5 | h5
        ·exact h5
        ·simp [World.cell?, Array.getElem?_eq_none h5] at hcv
       have hbw : b < w.heap.size := by
        obtain ⟨b2, o2, e2, -, h5, -⟩ := hx.at' (by omega)
        injection e2 with e2
        injection e2 with e3
        omega
       go_wp2_with fail
       have U4 : Below w4.heap.size w4 (w4.alloc (.cells #[.int .i64 cv, .int .i64 a3] 109)).drew := bel_then ((Below.refl _ _).alloc (Nat.le_refl _) _) ((Quiet.one _).below _)
       have BP : Blk (w4.alloc (.cells #[.int .i64 cv, .int .i64 a3] 109)).drew w4.heap.size 109 [.int .i64 cv, .int .i64 a3] := (show Blk (w4.alloc (.cells #[.int .i64 cv, .int .i64 a3] 109)) w4.heap.size 109 [.int .i64 cv, .int .i64 a3] from Blk.at_ rfl).next ((Quiet.one _).below _)
       have Dq := D4.below ((Quiet.one w4).below _)
       have DB := D4.below U4
       have hsw := DB.res.lt
       have pg := Dq.box.cell
       have pgA := DB.box.cell
       have hcq : w4.drew.cell? ⟨b, off + j, none⟩ = some (.int .i64 cv) := hcv
       have hcA : (w4.alloc (.cells #[.int .i64 cv, .int .i64 a3] 109)).drew.cell? ⟨b, off + j, none⟩ = some (.int .i64 cv) := (U4.cell (p := ⟨b, off + j, none⟩) hbz).trans hcv
       have hbP : ∀ u, OwnB P u → b ≠ u := fun u hu => by have := (D4.far u hu).1; omega
       refine wp_region_held_drew (S := fun w' => w'.cell? ⟨b, off + j, none⟩ = some (.int .i64 cv)) (by kernel_rfl) (by (try dsimp only); first | exact hcq | exact hcA | exact hc6) (fun hH => ?_)
       refine wT (i := 0) (v := ?_) rfl (by kernel_rfl) (by kernel_rfl) (by kernel_rfl) (fun _ _ _ h => h) (Or.inl ⟨by rfl, ?_⟩) (by assumption) ?_
       rotate_left 1
       ·(intro w hSw; (try dsimp only at hSw); go_simp; try with_reducible rfl)
       simp only [Act.put, pX]
       refine wT (i := 2) (v := ?_) rfl (by kernel_rfl) (by kernel_rfl) (by kernel_rfl) (fun _ _ _ h => h) (Or.inl ⟨by rfl, ?_⟩) (by assumption) ?_
       rotate_left 1
       ·(intro w hSw; (try dsimp only at hSw); go_simp; try with_reducible rfl)
       simp only [Act.put, pX]
       refine wT (i := 3) (v := ?_) rfl (by kernel_rfl) (by kernel_rfl) (by kernel_rfl) (fun _ _ _ h => h) (Or.inl ⟨by rfl, ?_⟩) (by assumption) ?_
       rotate_left 1
       ·(intro w hSw; (try dsimp only at hSw); go_simp; try with_reducible rfl)
       simp only [Act.put, pX]
       refine wT (i := 4) (v := ?_) rfl (by kernel_rfl) (by kernel_rfl) (by kernel_rfl) (fun _ _ _ h => h) (Or.inl ⟨by rfl, ?_⟩) (by assumption) ?_
       rotate_left 1
       ·(intro w hSw; (try dsimp only at hSw); go_simp; try with_reducible rfl)
       simp only [Act.put, pX]
       refine wT (i := 5) (v := ?_) rfl (by kernel_rfl) (by kernel_rfl) (by kernel_rfl) (fun _ _ _ h => h) (Or.inl ⟨by rfl, ?_⟩) (by assumption) ?_
       rotate_left 1
       ·(intro w hSw; (try dsimp only at hSw); go_simp; try with_reducible rfl)
       simp only [Act.put, pX]
       refine wT (i := 6) (v := ?_) rfl (by kernel_rfl) (by kernel_rfl) (by kernel_rfl) (fun _ _ _ h => h) (Or.inl ⟨by rfl, ?_⟩) (by assumption) ?_
       rotate_left 1
       ·(intro w hSw; (try dsimp only at hSw); go_simp; try with_reducible rfl)
       simp only [Act.put, pX]
       refine wT (i := 7) (v := ?_) rfl (by kernel_rfl) (by kernel_rfl) (by kernel_rfl) (fun _ _ _ h => h) (Or.inl ⟨by rfl, ?_⟩) (by assumption) ?_
       rotate_left 1
       ·(intro w hSw; (try dsimp only at hSw); go_simp; try with_reducible rfl)
       simp only [Act.put, pX]
       refine wR (rs := [1, 8]) (by kernel_rfl) (by simp) ?_
       refine aC rfl (fun K hK => ?_) ?_
       ·go_simp
        refine hK.out _ _ (by (try dsimp only); first | exact hcq | exact hcA | exact hc6) (fun hH => ?_)
        clear hK K
        try simp only [Act.put, pX]
        refine wR (rs := [8]) (by kernel_rfl) (by simp) ?_
        refine aC rfl (fun K hK => ?_) aN
        go_simp
        refine hK.out _ _ (by (try dsimp only); first | exact hcq | exact hcA | exact hc6) (fun hH => ?_)
        clear hK K
        try simp only [Act.put, pX]
        refine wR (rs := [9]) (by kernel_rfl) (by simp) ?_
        refine aC rfl (fun K hK => ?_) aN
        refine step_cat rfl _ _ _ (by rfl) Tryz.underlying29 info_impl_Punch rfl (by decide) (by rfl) DB.own (by rfl) (m := 1) (BP.sees (s := 2) (Nat.zero_le _) rfl) (by rfl) (by omega) (by omega) (by decide) (Nat.le_of_lt hsw) ?_
        intro A6 c6 w6 o6 h6 b6 q6
        have Bg6 := DB.box.only h6 (fun hb => (DB.far _ hb).2 rfl)
        have pg6 := Bg6.cell
        have fg6 := Bg6.frozen
        have D6 := DB.push (x := ⟨cv, a3⟩) o6 h6 q6
        have hc6 : w6.cell? ⟨b, off + j, none⟩ = some (.int .i64 cv) := (World.cell?_of_block (h6.block b (Nat.lt_of_lt_of_le hbz U4.size) (fun hu => hbP b hu rfl))).trans hcA
        have hc7 : (w6.setCell ⟨gc, 3, none⟩ (.slice A6 (kp + 1) c6)).cell? ⟨b, off + j, none⟩ = some (.int .i64 cv) := (World.cell?_of_block ((only_set (Only.refl (fun u => u = gc) w6) 3 (.slice A6 (kp + 1) c6)).block b (Nat.lt_of_lt_of_le (Nat.lt_of_lt_of_le hbz U4.size) h6.size) (fun (e : b = gc) => by have := D6.nums; omega))).trans hc6
        refine hK.out _ _ (by (try dsimp only); first | exact hcq | exact hcA | exact hc6) (fun hH => ?_)
        clear hK K
        try simp only [Act.put, pX]
        refine wT (i := 10) (v := ?_) rfl (by kernel_rfl) (by kernel_rfl) (by kernel_rfl) (fun _ _ _ h => h) (Or.inl ⟨by rfl, ?_⟩) (by assumption) ?_
        rotate_left 1
        ·(intro w hSw; (try dsimp only at hSw); go_simp; try with_reducible rfl)
        simp only [Act.put, pX]
        refine wR (rs := [11]) (by kernel_rfl) (by simp) ?_
        refine aC rfl (fun K hK => ?_) aN
        go_simp
        refine hK.out _ _ (by (try dsimp only); exact hc7) (fun hH => ?_)
        clear hK K
        try simp only [Act.put, pX]
        refine wD (by kernel_rfl) ?_ _
        go_wp2_with fail
        go_meet
        exact ⟨_, A6, kp + 1, c6, _, by go_num, ⟨by omega, by omega⟩, by omega, D6.more (by omega)⟩
       refine aC rfl (fun K hK => ?_) aN
       ·go_simp
        refine hK.out _ _ (by (try dsimp only); first | exact hcq | exact hcA | exact hc6) (fun hH => ?_)
        clear hK K
        try simp only [Act.put, pX]
        refine wR (rs := [1]) (by kernel_rfl) (by simp) ?_
        refine aC rfl (fun K hK => ?_) aN
        go_simp
        refine hK.out _ _ (by (try dsimp only); first | exact hcq | exact hcA | exact hc6) (fun hH => ?_)
        clear hK K
        try simp only [Act.put, pX]
        refine wR (rs := [9]) (by kernel_rfl) (by simp) ?_
        refine aC rfl (fun K hK => ?_) aN
        refine step_cat rfl _ _ _ (by rfl) Tryz.underlying29 info_impl_Punch rfl (by decide) (by rfl) DB.own (by rfl) (m := 1) (BP.sees (s := 2) (Nat.zero_le _) rfl) (by rfl) (by omega) (by omega) (by decide) (Nat.le_of_lt hsw) ?_
        intro A6 c6 w6 o6 h6 b6 q6
        have Bg6 := DB.box.only h6 (fun hb => (DB.far _ hb).2 rfl)
        have pg6 := Bg6.cell
        have fg6 := Bg6.frozen
        have D6 := DB.push (x := ⟨cv, a3⟩) o6 h6 q6
        have hc6 : w6.cell? ⟨b, off + j, none⟩ = some (.int .i64 cv) := (World.cell?_of_block (h6.block b (Nat.lt_of_lt_of_le hbz U4.size) (fun hu => hbP b hu rfl))).trans hcA
        have hc7 : (w6.setCell ⟨gc, 3, none⟩ (.slice A6 (kp + 1) c6)).cell? ⟨b, off + j, none⟩ = some (.int .i64 cv) := (World.cell?_of_block ((only_set (Only.refl (fun u => u = gc) w6) 3 (.slice A6 (kp + 1) c6)).block b (Nat.lt_of_lt_of_le (Nat.lt_of_lt_of_le hbz U4.size) h6.size) (fun (e : b = gc) => by have := D6.nums; omega))).trans hc6
        refine hK.out _ _ (by (try dsimp only); first | exact hcq | exact hcA | exact hc6) (fun hH => ?_)
        clear hK K
        try simp only [Act.put, pX]
        refine wT (i := 10) (v := ?_) rfl (by kernel_rfl) (by kernel_rfl) (by kernel_rfl) (fun _ _ _ h => h) (Or.inl ⟨by rfl, ?_⟩) (by assumption) ?_
        rotate_left 1
        ·(intro w hSw; (try dsimp only at hSw); go_simp; try with_reducible rfl)
        simp only [Act.put, pX]
        refine wR (rs := [11]) (by kernel_rfl) (by simp) ?_
        refine aC rfl (fun K hK => ?_) aN
        go_simp
        refine hK.out _ _ (by (try dsimp only); exact hc7) (fun hH => ?_)
        clear hK K
        try simp only [Act.put, pX]
        refine wD (by kernel_rfl) ?_ _
        go_wp2_with fail
        go_meet
        exact ⟨_, A6, kp + 1, c6, _, by go_num, ⟨by omega, by omega⟩, by omega, D6.more (by omega)⟩
      have e2 : ((r : Int) == 2) = false := beq_eq_false_iff_ne.2 (by omega)
      go_wp2_with fail
      go_meet
      exact ⟨a3, P, kp, cp, ps, rfl, ⟨by omega, by omega⟩, by omega, D4.more (by omega)⟩
     case rest =>
      obtain ⟨a, P, kp, cp, ps, rfl, ⟨ha0, ha1⟩, hkp, D⟩ := hcut
      obtain ⟨w5, rfl⟩ : ∃ w' : World, w' = wc := ⟨_, rfl⟩
      clear D4 hlp hlp1
      have bc := D.box.cell
      by_cases hlp : kp < 12
      ·have hlp1 : (kp : Int) < 12 := by omega
       obtain ⟨b, off, rfl, hxk, hcv⟩ := (hx.draw D.only hlo).int hlt
       obtain ⟨cv, hcve⟩ : ∃ cv, cs[j] = cv := ⟨_, rfl⟩
       rw [hcve] at hcv
       have hbz : b < w5.heap.size := by
        rcases Nat.lt_or_ge b w5.heap.size with h5 | h5
        ·exact h5
        ·simp [World.cell?, Array.getElem?_eq_none h5] at hcv
       have hbw : b < w.heap.size := by
        obtain ⟨b2, o2, e2, -, h5, -⟩ := hx.at' (by omega)
        injection e2 with e2
        injection e2 with e3
        omega
       go_wp2_with fail
       have U4 : Below w5.heap.size w5 (w5.alloc (.cells #[.int .i64 cv, .int .i64 a] 109)).drew := bel_then ((Below.refl _ _).alloc (Nat.le_refl _) _) ((Quiet.one _).below _)
       have BP : Blk (w5.alloc (.cells #[.int .i64 cv, .int .i64 a] 109)).drew w5.heap.size 109 [.int .i64 cv, .int .i64 a] := (show Blk (w5.alloc (.cells #[.int .i64 cv, .int .i64 a] 109)) w5.heap.size 109 [.int .i64 cv, .int .i64 a] from Blk.at_ rfl).next ((Quiet.one _).below _)
       have Dq := D.below ((Quiet.one w5).below _)
       have DB := D.below U4
       have hsw := DB.res.lt
       have pg := Dq.box.cell
       have pgA := DB.box.cell
       have hcq : w5.drew.cell? ⟨b, off + j, none⟩ = some (.int .i64 cv) := hcv
       have hcA : (w5.alloc (.cells #[.int .i64 cv, .int .i64 a] 109)).drew.cell? ⟨b, off + j, none⟩ = some (.int .i64 cv) := (U4.cell (p := ⟨b, off + j, none⟩) hbz).trans hcv
       have hbP : ∀ u, OwnB P u → b ≠ u := fun u hu => by have := (D.far u hu).1; omega
       refine wp_region_held_drew (S := fun w' => w'.cell? ⟨b, off + j, none⟩ = some (.int .i64 cv)) (by kernel_rfl) (by (try dsimp only); first | exact hcq | exact hcA | exact hc6) (fun hH => ?_)
       refine wT (i := 0) (v := ?_) rfl (by kernel_rfl) (by kernel_rfl) (by kernel_rfl) (fun _ _ _ h => h) (Or.inl ⟨by rfl, ?_⟩) (by assumption) ?_
       rotate_left 1
       ·(intro w hSw; (try dsimp only at hSw); go_simp; try with_reducible rfl)
       simp only [Act.put, pX]
       refine wT (i := 2) (v := ?_) rfl (by kernel_rfl) (by kernel_rfl) (by kernel_rfl) (fun _ _ _ h => h) (Or.inl ⟨by rfl, ?_⟩) (by assumption) ?_
       rotate_left 1
       ·(intro w hSw; (try dsimp only at hSw); go_simp; try with_reducible rfl)
       simp only [Act.put, pX]
       refine wT (i := 3) (v := ?_) rfl (by kernel_rfl) (by kernel_rfl) (by kernel_rfl) (fun _ _ _ h => h) (Or.inl ⟨by rfl, ?_⟩) (by assumption) ?_
       rotate_left 1
       ·(intro w hSw; (try dsimp only at hSw); go_simp; try with_reducible rfl)
       simp only [Act.put, pX]
       refine wT (i := 4) (v := ?_) rfl (by kernel_rfl) (by kernel_rfl) (by kernel_rfl) (fun _ _ _ h => h) (Or.inl ⟨by rfl, ?_⟩) (by assumption) ?_
       rotate_left 1
       ·(intro w hSw; (try dsimp only at hSw); go_simp; try with_reducible rfl)
       simp only [Act.put, pX]
       refine wT (i := 5) (v := ?_) rfl (by kernel_rfl) (by kernel_rfl) (by kernel_rfl) (fun _ _ _ h => h) (Or.inl ⟨by rfl, ?_⟩) (by assumption) ?_
       rotate_left 1
       ·(intro w hSw; (try dsimp only at hSw); go_simp; try with_reducible rfl)
       simp only [Act.put, pX]
       refine wT (i := 6) (v := ?_) rfl (by kernel_rfl) (by kernel_rfl) (by kernel_rfl) (fun _ _ _ h => h) (Or.inl ⟨by rfl, ?_⟩) (by assumption) ?_
       rotate_left 1
       ·(intro w hSw; (try dsimp only at hSw); go_simp; try with_reducible rfl)
       simp only [Act.put, pX]
       refine wT (i := 7) (v := ?_) rfl (by kernel_rfl) (by kernel_rfl) (by kernel_rfl) (fun _ _ _ h => h) (Or.inl ⟨by rfl, ?_⟩) (by assumption) ?_
       rotate_left 1
       ·(intro w hSw; (try dsimp only at hSw); go_simp; try with_reducible rfl)
       simp only [Act.put, pX]
       refine wR (rs := [1, 8]) (by kernel_rfl) (by simp) ?_
       refine aC rfl (fun K hK => ?_) ?_
       ·go_simp
        refine hK.out _ _ (by (try dsimp only); first | exact hcq | exact hcA | exact hc6) (fun hH => ?_)
        clear hK K
        try simp only [Act.put, pX]
        refine wR (rs := [8]) (by kernel_rfl) (by simp) ?_
        refine aC rfl (fun K hK => ?_) aN
        go_simp
        refine hK.out _ _ (by (try dsimp only); first | exact hcq | exact hcA | exact hc6) (fun hH => ?_)
        clear hK K
        try simp only [Act.put, pX]
        refine wR (rs := [9]) (by kernel_rfl) (by simp) ?_
        refine aC rfl (fun K hK => ?_) aN
        refine step_cat rfl _ _ _ (by rfl) Tryz.underlying29 info_impl_Punch rfl (by decide) (by rfl) DB.own (by rfl) (m := 1) (BP.sees (s := 2) (Nat.zero_le _) rfl) (by rfl) (by omega) (by omega) (by decide) (Nat.le_of_lt hsw) ?_
        intro A6 c6 w6 o6 h6 b6 q6
        have Bg6 := DB.box.only h6 (fun hb => (DB.far _ hb).2 rfl)
        have pg6 := Bg6.cell
        have fg6 := Bg6.frozen
        have D6 := DB.push (x := ⟨cv, a⟩) o6 h6 q6
        have hc6 : w6.cell? ⟨b, off + j, none⟩ = some (.int .i64 cv) := (World.cell?_of_block (h6.block b (Nat.lt_of_lt_of_le hbz U4.size) (fun hu => hbP b hu rfl))).trans hcA
        have hc7 : (w6.setCell ⟨gc, 3, none⟩ (.slice A6 (kp + 1) c6)).cell? ⟨b, off + j, none⟩ = some (.int .i64 cv) := (World.cell?_of_block ((only_set (Only.refl (fun u => u = gc) w6) 3 (.slice A6 (kp + 1) c6)).block b (Nat.lt_of_lt_of_le (Nat.lt_of_lt_of_le hbz U4.size) h6.size) (fun (e : b = gc) => by have := D6.nums; omega))).trans hc6
        refine hK.out _ _ (by (try dsimp only); first | exact hcq | exact hcA | exact hc6) (fun hH => ?_)
        clear hK K
        try simp only [Act.put, pX]
        refine wT (i := 10) (v := ?_) rfl (by kernel_rfl) (by kernel_rfl) (by kernel_rfl) (fun _ _ _ h => h) (Or.inl ⟨by rfl, ?_⟩) (by assumption) ?_
        rotate_left 1
        ·(intro w hSw; (try dsimp only at hSw); go_simp; try with_reducible rfl)
        simp only [Act.put, pX]
        refine wR (rs := [11]) (by kernel_rfl) (by simp) ?_
        refine aC rfl (fun K hK => ?_) aN
        go_simp
        refine hK.out _ _ (by (try dsimp only); exact hc7) (fun hH => ?_)
        clear hK K
        try simp only [Act.put, pX]
        refine wD (by kernel_rfl) ?_ _
        go_wp2_with fail
        go_roundw
        case rel => exact ⟨a, j + 1, A6, kp + 1, c6, _, rfl, by go_num, ⟨by omega, by omega⟩, by omega, by omega, D6.more (by omega)⟩
        case measure => simp [intOf]; omega
       refine aC rfl (fun K hK => ?_) aN
       ·go_simp
        refine hK.out _ _ (by (try dsimp only); first | exact hcq | exact hcA | exact hc6) (fun hH => ?_)
        clear hK K
        try simp only [Act.put, pX]
        refine wR (rs := [1]) (by kernel_rfl) (by simp) ?_
        refine aC rfl (fun K hK => ?_) aN
        go_simp
        refine hK.out _ _ (by (try dsimp only); first | exact hcq | exact hcA | exact hc6) (fun hH => ?_)
        clear hK K
        try simp only [Act.put, pX]
        refine wR (rs := [9]) (by kernel_rfl) (by simp) ?_
        refine aC rfl (fun K hK => ?_) aN
        refine step_cat rfl _ _ _ (by rfl) Tryz.underlying29 info_impl_Punch rfl (by decide) (by rfl) DB.own (by rfl) (m := 1) (BP.sees (s := 2) (Nat.zero_le _) rfl) (by rfl) (by omega) (by omega) (by decide) (Nat.le_of_lt hsw) ?_
        intro A6 c6 w6 o6 h6 b6 q6
        have Bg6 := DB.box.only h6 (fun hb => (DB.far _ hb).2 rfl)
        have pg6 := Bg6.cell
        have fg6 := Bg6.frozen
        have D6 := DB.push (x := ⟨cv, a⟩) o6 h6 q6
        have hc6 : w6.cell? ⟨b, off + j, none⟩ = some (.int .i64 cv) := (World.cell?_of_block (h6.block b (Nat.lt_of_lt_of_le hbz U4.size) (fun hu => hbP b hu rfl))).trans hcA
        have hc7 : (w6.setCell ⟨gc, 3, none⟩ (.slice A6 (kp + 1) c6)).cell? ⟨b, off + j, none⟩ = some (.int .i64 cv) := (World.cell?_of_block ((only_set (Only.refl (fun u => u = gc) w6) 3 (.slice A6 (kp + 1) c6)).block b (Nat.lt_of_lt_of_le (Nat.lt_of_lt_of_le hbz U4.size) h6.size) (fun (e : b = gc) => by have := D6.nums; omega))).trans hc6
        refine hK.out _ _ (by (try dsimp only); first | exact hcq | exact hcA | exact hc6) (fun hH => ?_)
        clear hK K
        try simp only [Act.put, pX]
        refine wT (i := 10) (v := ?_) rfl (by kernel_rfl) (by kernel_rfl) (by kernel_rfl) (fun _ _ _ h => h) (Or.inl ⟨by rfl, ?_⟩) (by assumption) ?_
        rotate_left 1
        ·(intro w hSw; (try dsimp only at hSw); go_simp; try with_reducible rfl)
        simp only [Act.put, pX]
        refine wR (rs := [11]) (by kernel_rfl) (by simp) ?_
        refine aC rfl (fun K hK => ?_) aN
        go_simp
        refine hK.out _ _ (by (try dsimp only); exact hc7) (fun hH => ?_)
        clear hK K
        try simp only [Act.put, pX]
        refine wD (by kernel_rfl) ?_ _
        go_wp2_with fail
        go_roundw
        case rel => exact ⟨a, j + 1, A6, kp + 1, c6, _, rfl, by go_num, ⟨by omega, by omega⟩, by omega, by omega, D6.more (by omega)⟩
        case measure => simp [intOf]; omega
      ·have hlp1 : ¬ (kp : Int) < 12 := by omega
       go_wp2_with fail
       go_roundw
       case rel => exact ⟨a, j + 1, P, kp, cp, ps, rfl, by go_num, ⟨by omega, by omega⟩, by omega, by omega, D.more (by omega)⟩
       case measure => simp [intOf]; omega
    ·have hlt1 : (j : Int) < (k : Int) := by omega
     have hlp1 : ¬ (kp : Int) < 12 := by omega
     go_wp2_with fail
     go_meet
     exact ⟨a, P, kp, cp, ps, rfl, ⟨by omega, by omega⟩, by omega, D.more (by omega)⟩
   ·have hlt1 : ¬ (j : Int) < (k : Int) := by omega
    go_wp2_with fail
    go_meet
    exact ⟨a, P, kp, cp, ps, rfl, ⟨by omega, by omega⟩, by omega, D.more (by omega)⟩
 case rest =>
  clear D
  obtain ⟨a, P, kp, cp, ps, rfl, ⟨ha0, ha1⟩, hkp, D⟩ := hcut
  obtain ⟨w5, rfl⟩ : ∃ w' : World, w' = wc := ⟨_, rfl⟩
  have UA : Below w5.heap.size w5 (w5.alloc (.cells #[.int .i64 0, .int .i64 20, .int .i64 400] 3)) := (Below.refl _ _).alloc (Nat.le_refl _) _
  have BL : Blk (w5.alloc (.cells #[.int .i64 0, .int .i64 20, .int .i64 400] 3)) w5.heap.size 3 (ints [0, 20, 400]) := Blk.at_ rfl
  have DA := D.below UA
  have hgl := D.cur.lt
  go_wp2_with fail
  refine (among_any g _ w5.heap.size 3 3 [0, 20, 400] _ BL (by omega) DA.cur (by omega) rfl (by decide) (by decide)).mono ?_
  rintro e w6 ⟨x, rfl, hxm, c2_, o2_⟩
  have D6 := DA.drawn c2_ o2_
  clear UA BL DA c2_ o2_ hgl
  have hx2 : 0 ≤ x ∧ x ≤ 400 := by simp at hxm; omega
  clear hxm D
  obtain ⟨fin, hfin⟩ : ∃ fin, a + x = fin := ⟨_, rfl⟩
  have hwr : IntKind.i64.wrap (a + x) = fin := by rw [IntWalk.i64_in _ (by omega)]; exact hfin
  have bc := D6.box.cell
  have bf := D6.box.frozen
  have D7 := D6.set 2 (.int .i64 fin) (fin' := fin) (num' := num) (st' := st) rfl
  go_wp2_with fail
  try rw [hfin]
  generalize w6.setCell ⟨gc, 2, none⟩ (.int .i64 fin) = w7 at *
  clear D6 bc bf
  refine (pick_any 24 g _ _ D7.cur (by omega) (by decide) (by decide)).mono ?_
  rintro e w8 ⟨r, rfl, hr, c8, o8⟩
  have D8 := D7.drawn c8 o8
  clear D7 c8 o8 hr hwr hfin hx2
  go_upto_block 3 with fail
  go_cut [] from 89 to 112 (fun wr => ∃ (num st fin : Int), CardD w wr g gc (n + 100) num st fin P kp cp ps)
  case first =>
   have bc := D8.box.cell
   have bf := D8.box.frozen
   by_cases r0 : r = 0 ∨ r = 1
   ·have D9 := D8.set 2 (.int .i64 (-1)) (fin' := -1) (num' := num) (st' := st) rfl
    rcases r0 with rfl | rfl
    ·go_wp2_with fail
     go_meet
     exact ⟨_, _, _, D9.more (by omega)⟩
    ·go_wp2_with fail
     go_meet
     exact ⟨_, _, _, D9.more (by omega)⟩
   have e0 : ((r : Int) == 0) = false := beq_eq_false_iff_ne.2 (by omega)
   have e1 : ((r : Int) == 1) = false := beq_eq_false_iff_ne.2 (by omega)
   clear r0
   by_cases r2 : r = 2
   ·subst r2
    clear bc bf
    have UA : Below w8.heap.size w8 (w8.alloc (.cells #[.int .i64 0, .int .i64 10000] 3)) := (Below.refl _ _).alloc (Nat.le_refl _) _
    have BL : Blk (w8.alloc (.cells #[.int .i64 0, .int .i64 10000] 3)) w8.heap.size 3 (ints [0, 10000]) := Blk.at_ rfl
    have DA := D8.below UA
    have hgl := D8.cur.lt
    go_wp2_with fail
    refine (among_any g _ w8.heap.size 2 3 [0, 10000] _ BL (by omega) DA.cur (by omega) rfl (by decide) (by decide)).mono ?_
    rintro e w9 ⟨y, rfl, -, c2_, o2_⟩
    have D9 := DA.drawn c2_ o2_
    clear UA BL DA c2_ o2_ hgl
    have bc := D9.box.cell
    have bf := D9.box.frozen
    have D10 := D9.set 0 (.int .i64 y) (num' := y) (st' := st) (fin' := fin) rfl
    go_wp2_with fail
    go_meet
    exact ⟨_, _, _, D10.more (by omega)⟩
   have e2 : ((r : Int) == 2) = false := beq_eq_false_iff_ne.2 (by omega)
   by_cases r3 : r = 3
   ·subst r3
    clear bc bf
    obtain ⟨a1, ha1'⟩ : ∃ a1, a + 1 = a1 := ⟨_, rfl⟩
    have hwr : IntKind.i64.wrap (a + 1) = a1 := by rw [IntWalk.i64_in _ (by omega)]; exact ha1'
    have UA : Below w8.heap.size w8 (w8.alloc (.cells #[.int .i64 (-1), .int .i64 36001, .int .i64 a1, .int .i64 36000] 3)) := (Below.refl _ _).alloc (Nat.le_refl _) _
    have BL : Blk (w8.alloc (.cells #[.int .i64 (-1), .int .i64 36001, .int .i64 a1, .int .i64 36000] 3)) w8.heap.size 3 (ints [-1, 36001, a1, 36000]) := Blk.at_ rfl
    have DA := D8.below UA
    have hgl := D8.cur.lt
    go_wp2_with fail
    try rw [ha1']
    refine (among_any g _ w8.heap.size 4 3 [-1, 36001, a1, 36000] _ BL (by omega) DA.cur (by omega) rfl (by decide) (by decide)).mono ?_
    rintro e w9 ⟨y, rfl, -, c2_, o2_⟩
    have D9 := DA.drawn c2_ o2_
    clear UA BL DA c2_ o2_ hgl
    have bc := D9.box.cell
    have bf := D9.box.frozen
    have D10 := D9.set 1 (.int .i64 y) (num' := num) (st' := y) (fin' := fin) rfl
    go_wp2_with fail
    go_meet
    exact ⟨_, _, _, D10.more (by omega)⟩
   have e3 : ((r : Int) == 3) = false := beq_eq_false_iff_ne.2 (by omega)
   by_cases r4 : r = 4
   ·subst r4
    obtain ⟨s1, hs1⟩ : ∃ s1, st - 1 = s1 := ⟨_, rfl⟩
    have hwr : IntKind.i64.wrap (st - 1) = s1 := by rw [IntWalk.i64_in _ (by omega)]; exact hs1
    have D10 := D8.set 2 (.int .i64 s1) (num' := num) (st' := st) (fin' := s1) rfl
    go_wp2_with fail
    try rw [hs1]
    go_meet
    exact ⟨_, _, _, D10.more (by omega)⟩
   have e4 : ((r : Int) == 4) = false := beq_eq_false_iff_ne.2 (by omega)
   go_wp2_with fail
   go_meet
   exact ⟨_, _, _, D8.more (by omega)⟩
  case rest =>
   obtain ⟨num, st, fin, D⟩ := hcut
   obtain ⟨w10, rfl⟩ : ∃ w' : World, w' = wc := ⟨_, rfl⟩
   clear D8
   have bc := D.box.cell
   have rf := D.res.frozen
   have rc := D.res.cell
   have hne : gc ≠ w.heap.size := by have := D.nums; omega
   go_wp2_with fail
   refine bodyPost_ret (v := .agg #[.int .i64 num, .int .i64 st, .int .i64 fin, .slice P kp cp]) (by simp [results, Tryz.results105, go_sem, rc]) rfl ?_
   exact D.done hkp (Nat.le_refl _)

end Go.Proofs.YtkimlajfhepfgaaGreat

namespace Go.Proofs.YtkimlajfhepfgaaGreat
open Go.Shelf
def sh_lays189_ren : Go.Shelf.Ren := ⟨fun | 189 => 67 | 125 => 102 | 257 => 104 | 128 => 120 | 129 => 121 | 294 => 122 | 295 => 123 | 296 => 124 | 297 => 125 | 298 => 126 | 299 => 127 | 216 => 128 | 300 => 129 | 301 => 130 | 328 => 138 | 329 => 134 | 330 => 135 | 331 => 139 | 332 => 140 | 215 => 103 | 343 => 142 | n => n, fun | 28 => 24 | 3 => 3 | 46 => 106 | 0 => 0 | 51 => 122 | 53 => 57 | 4 => 4 | 183 => 115 | 182 => 114 | 131 => 119 | 5 => 5 | 9 => 9 | 218 => 131 | 222 => 135 | 228 => 139 | 229 => 140 | n => n, fun | n => n⟩
theorem sh_lays189 : Go.Proofs.Lays.n189 Tryz.prog sh_lays189_ren := {
  mixed := by kernel_rfl
  f125 := Tryz.func102.trans (congrArg some (by kernel_rfl))
  f128 := Tryz.func120.trans (congrArg some (by kernel_rfl))
  f129 := Tryz.func121.trans (congrArg some (by kernel_rfl))
  f189 := Tryz.func67.trans (congrArg some (by kernel_rfl))
  f215 := Tryz.func103.trans (congrArg some (by kernel_rfl))
  f216 := Tryz.func128.trans (congrArg some (by kernel_rfl))
  f257 := Tryz.func104.trans (congrArg some (by kernel_rfl))
  f294 := Tryz.func122.trans (congrArg some (by kernel_rfl))
  f295 := Tryz.func123.trans (congrArg some (by kernel_rfl))
  f296 := Tryz.func124.trans (congrArg some (by kernel_rfl))
  f297 := Tryz.func125.trans (congrArg some (by kernel_rfl))
  f298 := Tryz.func126.trans (congrArg some (by kernel_rfl))
  f299 := Tryz.func127.trans (congrArg some (by kernel_rfl))
  f300 := Tryz.func129.trans (congrArg some (by kernel_rfl))
  f301 := Tryz.func130.trans (congrArg some (by kernel_rfl))
  f328 := Tryz.func138.trans (congrArg some (by kernel_rfl))
  f329 := Tryz.func134.trans (congrArg some (by kernel_rfl))
  f330 := Tryz.func135.trans (congrArg some (by kernel_rfl))
  f331 := Tryz.func139.trans (congrArg some (by kernel_rfl))
  f332 := Tryz.func140.trans (congrArg some (by kernel_rfl))
  f343 := Tryz.func142.trans (congrArg some (by kernel_rfl))
  t0 := Tryz.underlying0
  a0 := Tryz.isAgg0
  z0 := Tryz.sizeOf0
  v0 := Tryz.zeroValue0
  t3 := Tryz.underlying3
  a3 := Tryz.isAgg3
  z3 := Tryz.sizeOf3
  v3 := Tryz.zeroValue3
  t4 := Tryz.underlying4
  a4 := Tryz.isAgg4
  z4 := Tryz.sizeOf4
  v4 := Tryz.zeroValue4
  t5 := Tryz.underlying5
  a5 := Tryz.isAgg5
  z5 := Tryz.sizeOf5
  v5 := Tryz.zeroValue5
  t9 := Tryz.underlying9
  a9 := Tryz.isAgg9
  z9 := Tryz.sizeOf9
  v9 := Tryz.zeroValue9
  t28 := Tryz.underlying24
  a28 := Tryz.isAgg24
  z28 := Tryz.sizeOf24
  v28 := Tryz.zeroValue24
  t46 := Tryz.underlying106
  a46 := Tryz.isAgg106
  z46 := Tryz.sizeOf106
  v46 := Tryz.zeroValue106
  t51 := Tryz.underlying122
  a51 := Tryz.isAgg122
  z51 := Tryz.sizeOf122
  v51 := Tryz.zeroValue122
  t53 := Tryz.underlying57
  a53 := Tryz.isAgg57
  z53 := Tryz.sizeOf57
  v53 := Tryz.zeroValue57
  t131 := Tryz.underlying119
  a131 := Tryz.isAgg119
  z131 := Tryz.sizeOf119
  v131 := Tryz.zeroValue119
  t182 := Tryz.underlying114
  a182 := Tryz.isAgg114
  z182 := Tryz.sizeOf114
  v182 := Tryz.zeroValue114
  t183 := Tryz.underlying115
  a183 := Tryz.isAgg115
  z183 := Tryz.sizeOf115
  v183 := Tryz.zeroValue115
  t218 := Tryz.underlying131
  a218 := Tryz.isAgg131
  z218 := Tryz.sizeOf131
  v218 := Tryz.zeroValue131
  t222 := Tryz.underlying135
  a222 := Tryz.isAgg135
  z222 := Tryz.sizeOf135
  v222 := Tryz.zeroValue135
  t228 := Tryz.underlying139
  a228 := Tryz.isAgg139
  z228 := Tryz.sizeOf139
  v228 := Tryz.zeroValue139
  t229 := Tryz.underlying140
  a229 := Tryz.isAgg140
  z229 := Tryz.sizeOf140
  v229 := Tryz.zeroValue140 }
open Go.Sort Go.RowKit in
theorem sh_slices_Sort_int (blk off cap : Nat) (zs : List Int) (w : World) (hH : Holds (Value.int .i64) w blk off zs.toArray) (hblk : blk < w.heap.size) (hsz : zs.length < 4611686018427387904) :
    Calls Tryz.prog 67 #[.slice (some ⟨blk, off, none⟩) zs.length cap] w fun e w' =>
      e = .returned (.tuple #[]) ∧ ∃ n os, w' = grow (putRow (Value.int .i64) (Sort.ahead w n) blk off (zs.mergeSort fun x y => decide (x ≤ y)).toArray) os := Any.slices_Sort_int sh_lays189 blk off cap zs w hH hblk hsz
def sh_laysNm220_ren : Go.Shelf.Ren := ⟨fun | 20 => 68 | n => n, fun | 22 => 24 | 3 => 3 | 4 => 4 | 0 => 0 | n => n, fun | n => n⟩
theorem sh_laysNm220 : Go.Proofs.Lays2.n20 Tryz.prog sh_laysNm220_ren := {
  mixed := by kernel_rfl
  f20 := Tryz.func68.trans (congrArg some (by kernel_rfl))
  t0 := Tryz.underlying0
  a0 := Tryz.isAgg0
  z0 := Tryz.sizeOf0
  v0 := Tryz.zeroValue0
  t3 := Tryz.underlying3
  a3 := Tryz.isAgg3
  z3 := Tryz.sizeOf3
  v3 := Tryz.zeroValue3
  t4 := Tryz.underlying4
  a4 := Tryz.isAgg4
  z4 := Tryz.sizeOf4
  v4 := Tryz.zeroValue4
  t22 := Tryz.underlying24
  a22 := Tryz.isAgg24
  z22 := Tryz.sizeOf24
  v22 := Tryz.zeroValue24
  i3 := by kernel_rfl }
open Go.RowKit Go.Lib Go.Sort in
open Go.RowKit Go.Lib Go.Sort in
theorem sh_slices_Compact_int (blk off cap : Nat) (zs : List Int) (w : World) (hH : Holds (Value.int .i64) w blk off zs.toArray) (hsz : zs.length ≤ 9223372036854775807) (hcap : zs.length ≤ cap) :
    Calls Tryz.prog 68 #[.slice (some ⟨blk, off, none⟩) zs.length cap] w fun e w' => e = .returned (.slice (some ⟨blk, off, none⟩) (Lib.compact zs).length cap) ∧ ∃ q, w' = putRow (Value.int .i64) (Sort.ahead w q) blk off (Lib.compact zs ++ List.replicate (zs.length - (Lib.compact zs).length) 0).toArray := Any.slices_Compact_int sh_laysNm220 blk off cap zs w hH hsz hcap
open Go.RowKit Go.Lib Go.Sort in
theorem sh_slices_Compact_int_empty (a : Option Addr) (cap : Nat) (w : World) :
    Calls Tryz.prog 68 #[.slice a 0 cap] w fun e w' => e = .returned (.slice a 0 cap) ∧ w' = w := Any.slices_Compact_int_empty sh_laysNm220 a cap w
open Go.RowKit Go.Lib Go.Sort in
open Go.RowKit Go.Sort in
theorem sh_slices_Sort_int_none (p : Option Addr) (cap : Nat) (w : World) :
    Calls Tryz.prog 67 #[.slice p 0 cap] w fun e w' => e = .returned (.tuple #[]) ∧ w' = w := Any.slices_Sort_int_none sh_lays189 p cap w
end Go.Proofs.YtkimlajfhepfgaaGreat

namespace Go.Proofs.YtkimlajfhepfgaaGreat
open Go.RowKit

set_option maxRecDepth 100000 in
set_option maxHeartbeats 16000000 in
theorem newDeskN_any (h : DeskH) (d : DeskV) (w : World) (hs : SeesDesk w 0 h d) (hn : DeskFit 1048576 h d) :
  Calls Tryz.prog 49 #[.agg #[.slice h.A0 h.n0 h.c0, .slice h.A1 h.n1 h.c1, .slice h.A2 h.n2 h.c2, .slice h.A3 h.n3 h.c3, .slice h.A4 h.n4 h.c4]] w (GivesDeskN w d) := by
 obtain ⟨A0, n0, c0, A1, n1, c1, A2, n2, c2, A3, n3, c3, A4, n4, c4⟩ := h
 obtain ⟨s0, s1, s2, s3, s4⟩ := hs
 obtain ⟨ft0, ft1, ft2, fx2, ft3, ft4, fx4⟩ := hn
 dsimp only at *
 have HF := Lib.hid (fun (A0' A1' A2' A3' A4' : Option Addr) (c0' c1' c2' c3' c4' : Nat) => show DeskFit 1048576 ⟨A0', d.codes.length, c0', A1', d.known.length, c1', A2', d.queue.length, c2', A3', n3, c3', A4', d.trouble.length, c4'⟩ d from
  ⟨by rw [s0.icount]; exact ft0, by rw [s1.icount]; exact ft1, by rw [s2.count]; exact ft2, fx2, ft3, by rw [s4.count]; exact ft4, fx4⟩)
 have KB0 : Below w.heap.size w ((w.alloc (.cells #[.slice A0 n0 c0, .slice A1 n1 c1, .slice A2 n2 c2, .slice A3 n3 c3, .slice A4 n4 c4] 28)).alloc (.cells #[(.slice none 0 0), (.slice none 0 0), (.slice none 0 0), (.slice none 0 0), (.slice none 0 0)] 28)) := ((Below.refl w.heap.size w).alloc (Nat.le_refl _) _).alloc (by simp) _
 have P : Blk ((w.alloc (.cells #[.slice A0 n0 c0, .slice A1 n1 c1, .slice A2 n2 c2, .slice A3 n3 c3, .slice A4 n4 c4] 28)).alloc (.cells #[(.slice none 0 0), (.slice none 0 0), (.slice none 0 0), (.slice none 0 0), (.slice none 0 0)] 28)) w.heap.size 28 [.slice A0 n0 c0, .slice A1 n1 c1, .slice A2 n2 c2, .slice A3 n3 c3, .slice A4 n4 c4] := (Blk.at_ rfl).alloc _
 have R : Blk ((w.alloc (.cells #[.slice A0 n0 c0, .slice A1 n1 c1, .slice A2 n2 c2, .slice A3 n3 c3, .slice A4 n4 c4] 28)).alloc (.cells #[(.slice none 0 0), (.slice none 0 0), (.slice none 0 0), (.slice none 0 0), (.slice none 0 0)] 28)) (w.heap.size + 1) 28 [(.slice none 0 0), (.slice none 0 0), (.slice none 0 0), (.slice none 0 0), (.slice none 0 0)] := Blk.at_ (by simp)
 have z0 : w.heap.size + 2 ≤ ((w.alloc (.cells #[.slice A0 n0 c0, .slice A1 n1 c1, .slice A2 n2 c2, .slice A3 n3 c3, .slice A4 n4 c4] 28)).alloc (.cells #[(.slice none 0 0), (.slice none 0 0), (.slice none 0 0), (.slice none 0 0), (.slice none 0 0)] 28)).heap.size := by simp
 go_enter Tryz.func49, Tryz.ntmps49
 go_wp2_with fail
 generalize ((w.alloc (.cells #[.slice A0 n0 c0, .slice A1 n1 c1, .slice A2 n2 c2, .slice A3 n3 c3, .slice A4 n4 c4] 28)).alloc (.cells #[(.slice none 0 0), (.slice none 0 0), (.slice none 0 0), (.slice none 0 0), (.slice none 0 0)] 28)) = w0 at *
 have J1 := (Quiet.one w0).below w0.heap.size
 have KB1 := bel_then KB0 J1
 have y1 := J1.size
 replace P := P.next J1
 replace R := R.next J1
 refine wp_region_held_drew (S := fun w' => w'.cell? ⟨w.heap.size, 0, none⟩ = some (.slice A0 n0 c0) ∧ w'.cell? ⟨w.heap.size, 1, none⟩ = some (.slice A1 n1 c1) ∧ w'.cell? ⟨w.heap.size, 2, none⟩ = some (.slice A2 n2 c2) ∧ w'.cell? ⟨w.heap.size, 3, none⟩ = some (.slice A3 n3 c3) ∧ w'.cell? ⟨w.heap.size, 4, none⟩ = some (.slice A4 n4 c4)) (by kernel_rfl) (by exact ⟨P.cell 0, P.cell 1, P.cell 2, P.cell 3, P.cell 4⟩) (fun hH => ?_)
 generalize w0.drew = wi1 at *
 clear J1
 refine wT (i := 0) (v := ?_) rfl (by kernel_rfl) (by kernel_rfl) (by kernel_rfl) (fun _ _ _ h => h) (Or.inl ⟨by rfl, ?_⟩) (by assumption) ?_
 rotate_left 1
 ·(intro w hS; (try dsimp only at hS); go_simp; try with_reducible rfl)
 (try simp only [Act.put, pX])
 refine wT (i := 1) (v := ?_) rfl (by kernel_rfl) (by kernel_rfl) (by kernel_rfl) (fun _ _ _ h => h) (Or.inl ⟨by rfl, ?_⟩) (by assumption) ?_
 rotate_left 1
 ·(intro w hS; (try dsimp only at hS); go_simp; try with_reducible rfl)
 (try simp only [Act.put, pX])
 refine wT (i := 3) (v := ?_) rfl (by kernel_rfl) (by kernel_rfl) (by kernel_rfl) (fun _ _ _ h => h) (Or.inl ⟨by rfl, ?_⟩) (by assumption) ?_
 rotate_left 1
 ·(intro w hS; (try dsimp only at hS); go_simp; try with_reducible rfl)
 (try simp only [Act.put, pX])
 refine wT (i := 4) (v := ?_) rfl (by kernel_rfl) (by kernel_rfl) (by kernel_rfl) (fun _ _ _ h => h) (Or.inl ⟨by rfl, ?_⟩) (by assumption) ?_
 rotate_left 1
 ·(intro w hS; (try dsimp only at hS); go_simp; try with_reducible rfl)
 (try simp only [Act.put, pX])
 refine wT (i := 6) (v := ?_) rfl (by kernel_rfl) (by kernel_rfl) (by kernel_rfl) (fun _ _ _ h => h) (Or.inl ⟨by rfl, ?_⟩) (by assumption) ?_
 rotate_left 1
 ·(intro w hS; (try dsimp only at hS); go_simp; try with_reducible rfl)
 (try simp only [Act.put, pX])
 refine wT (i := 7) (v := ?_) rfl (by kernel_rfl) (by kernel_rfl) (by kernel_rfl) (fun _ _ _ h => h) (Or.inl ⟨by rfl, ?_⟩) (by assumption) ?_
 rotate_left 1
 ·(intro w hS; (try dsimp only at hS); go_simp; try with_reducible rfl)
 (try simp only [Act.put, pX])
 refine wT (i := 10) (v := ?_) rfl (by kernel_rfl) (by kernel_rfl) (by kernel_rfl) (fun _ _ _ h => h) (Or.inl ⟨by rfl, ?_⟩) (by assumption) ?_
 rotate_left 1
 ·(intro w hS; (try dsimp only at hS); go_simp; try with_reducible rfl)
 (try simp only [Act.put, pX])
 refine wT (i := 11) (v := ?_) rfl (by kernel_rfl) (by kernel_rfl) (by kernel_rfl) (fun _ _ _ h => h) (Or.inl ⟨by rfl, ?_⟩) (by assumption) ?_
 rotate_left 1
 ·(intro w hS; (try dsimp only at hS); go_simp; try with_reducible rfl)
 (try simp only [Act.put, pX])
 refine wT (i := 13) (v := ?_) rfl (by kernel_rfl) (by kernel_rfl) (by kernel_rfl) (fun _ _ _ h => h) (Or.inl ⟨by rfl, ?_⟩) (by assumption) ?_
 rotate_left 1
 ·(intro w hS; (try dsimp only at hS); go_simp; try with_reducible rfl)
 (try simp only [Act.put, pX])
 refine wT (i := 14) (v := ?_) rfl (by kernel_rfl) (by kernel_rfl) (by kernel_rfl) (fun _ _ _ h => h) (Or.inl ⟨by rfl, ?_⟩) (by assumption) ?_
 rotate_left 1
 ·(intro w hS; (try dsimp only at hS); go_simp; try with_reducible rfl)
 (try simp only [Act.put, pX])
 refine wR (rs := [2, 9]) (by kernel_rfl) (by simp) ?_
 refine aC rfl (fun K hK => ?_) ?_
 ·go_simp
  refine (copyInts_any _ _ c0 0 d.codes _ (s0.below KB1 (Nat.le_refl _)) ft0).mono ?_
  rintro e wi2 ⟨B0, e0, rfl, oo, b2⟩
  have KB2 := bel_then KB1 b2
  have y2 := b2.size
  replace P := P.next b2
  replace R := R.next b2
  have M0 := Mine.of oo
  clear oo
  go_wp2_with fail
  refine hK.out _ _ (by exact ⟨P.cell 0, P.cell 1, P.cell 2, P.cell 3, P.cell 4⟩) (fun hH => ?_)
  clear hK K
  refine wR (rs := [5, 9]) (by kernel_rfl) (by simp) ?_
  refine aC rfl (fun K hK => ?_) ?_
  ·go_simp
   refine (copyInts_any _ _ c1 0 d.known _ (s1.below KB2 (Nat.le_refl _)) ft1).mono ?_
   rintro e wi3 ⟨B1, e1, rfl, oo, b3⟩
   have KB3 := bel_then KB2 b3
   have y3 := b3.size
   replace P := P.next b3
   replace R := R.next b3
   replace M0 := M0.next b3
   have M1 := Mine.of oo
   clear oo
   go_wp2_with fail
   refine hK.out _ _ (by exact ⟨P.cell 0, P.cell 1, P.cell 2, P.cell 3, P.cell 4⟩) (fun hH => ?_)
   clear hK K
   refine wR (rs := [8, 9]) (by kernel_rfl) (by simp) ?_
   refine aC rfl (fun K hK => ?_) ?_
   ·go_simp
    refine (newCards_any _ _ c2 d.queue _ (s2.below KB3 (Nat.le_refl _)) ft2 fx2).mono ?_
    rintro e wi4 ⟨B2, e2, rfl, M2, b4⟩
    have KB4 := bel_then KB3 b4
    have y4 := b4.size
    replace P := P.next b4
    replace R := R.next b4
    replace M0 := M0.next b4
    replace M1 := M1.next b4
    go_wp2_with fail
    refine hK.out _ _ (by exact ⟨P.cell 0, P.cell 1, P.cell 2, P.cell 3, P.cell 4⟩) (fun hH => ?_)
    clear hK K
    refine wR (rs := [9]) (by kernel_rfl) (by simp) ?_
    refine aC rfl (fun K hK => ?_) aN
    go_simp
    have U5 : Below wi4.heap.size wi4 (wi4.alloc (.cells #[] 41)) := (Below.refl _ _).alloc (Nat.le_refl _) _
    have KB5 := bel_then KB4 U5
    have y5 := U5.size
    replace P := P.next U5
    replace R := R.next U5
    replace M0 := M0.next U5
    replace M1 := M1.next U5
    replace M2 := M2.next U5
    have own := own_empty wi4 41 3
    have z5 : wi4.heap.size + 1 ≤ (wi4.alloc (.cells #[] 41)).heap.size := by simp
    refine hK.out _ _ (by exact ⟨P.cell 0, P.cell 1, P.cell 2, P.cell 3, P.cell 4⟩) (fun hH => ?_)
    clear hK K
    (try simp only [Act.put, pX])
    generalize (wi4.alloc (.cells #[] 41)) = wi5 at *
    refine wR (rs := [12]) (by kernel_rfl) (by simp) ?_
    refine aC rfl (fun K hK => ?_) aN
    refine step_cat rfl _ _ _ (by rfl) Tryz.underlying26 info_impl_DeskRow rfl (by decide) (by rfl) own (by rfl) (m := n3) (s3.below KB5 (Nat.le_refl _)) (row_all _) (by omega) (by omega) (by decide) (by omega) ?_
    intro B3 e3 wi6 o3 h3 b6 q3
    simp only [Nat.zero_add, List.nil_append] at o3
    (try simp only [Nat.zero_add])
    have KB6 := KB5.trans (b6.mono (by omega))
    have y6 := h3.size
    replace P := P.only h3 (own_not own (by omega))
    replace R := R.only h3 (own_not own (by omega))
    replace M0 := M0.only h3 (fun b h1 h2 => by have h5 : wi4.heap.size = b := (by simpa [OwnB, Value.ownBlock] using h2); have := h1.1; have := h1.2; omega)
    replace M1 := M1.only h3 (fun b h1 h2 => by have h5 : wi4.heap.size = b := (by simpa [OwnB, Value.ownBlock] using h2); have := h1.1; have := h1.2; omega)
    replace M2 := M2.only h3 (fun b h1 h2 => by have h5 : wi4.heap.size = b := (by simpa [OwnB, Value.ownBlock] using h2); have := h1.1; have := h1.2; omega)
    have M3 := (Mine.of o3).exact_
    have hcap3 := own_cap o3
    have q33 : ∀ b, OwnB B3 b → b = wi4.heap.size ∨ (wi5.heap.size ≤ b ∧ b < wi6.heap.size) := fun b hb => by
     have h8 := (own_top o3 hb).2
     rcases q3 b hb with h5 | h5
     ·exact .inl (by simpa [OwnB, Value.ownBlock, eq_comm] using h5)
     ·exact .inr ⟨h5, h8⟩
    clear own o3 q3 h3
    refine hK.out _ _ (by exact ⟨P.cell 0, P.cell 1, P.cell 2, P.cell 3, P.cell 4⟩) (fun hH => ?_)
    clear hK K
    (try simp only [Act.put, pX])
    refine wR (rs := [15]) (by kernel_rfl) (by simp) ?_
    refine aC rfl (fun K hK => ?_) aN
    go_simp
    refine (newCards_any _ _ c4 d.trouble _ (s4.below KB6 (Nat.le_refl _)) ft4 fx4).mono ?_
    rintro e wi7 ⟨B4, e4, rfl, M4, b7⟩
    have KB7 := bel_then KB6 b7
    have y7 := b7.size
    replace P := P.next b7
    replace R := R.next b7
    replace M0 := M0.next b7
    replace M1 := M1.next b7
    replace M2 := M2.next b7
    replace M3 := M3.next b7
    go_wp2_with fail
    refine hK.out _ _ (by exact ⟨P.cell 0, P.cell 1, P.cell 2, P.cell 3, P.cell 4⟩) (fun hH => ?_)
    clear hK K
    refine wT (i := 16) (v := ?_) rfl (by kernel_rfl) (by kernel_rfl) (by kernel_rfl) (fun _ _ _ h => h) (Or.inl ⟨by rfl, ?_⟩) (by assumption) ?_
    rotate_left 1
    ·(intro w hS; (try dsimp only at hS); go_simp; try with_reducible rfl)
    (try simp only [Act.put, pX])
    refine wR (rs := [17]) (by kernel_rfl) (by simp) ?_
    refine aC rfl (fun K hK => ?_) aN
    have rc := R.cell
    have rf := R.frozen
    go_simp
    have PF := (((((P.far (p := ⟨w.heap.size + 1, 0, none⟩) (by show w.heap.size ≠ w.heap.size + 1; omega) (.slice B0 d.codes.length e0)).far (p := ⟨w.heap.size + 1, 1, none⟩) (by show w.heap.size ≠ w.heap.size + 1; omega) (.slice B1 d.known.length e1)).far (p := ⟨w.heap.size + 1, 2, none⟩) (by show w.heap.size ≠ w.heap.size + 1; omega) (.slice B2 d.queue.length e2)).far (p := ⟨w.heap.size + 1, 3, none⟩) (by show w.heap.size ≠ w.heap.size + 1; omega) (.slice B3 n3 e3)).far (p := ⟨w.heap.size + 1, 4, none⟩) (by show w.heap.size ≠ w.heap.size + 1; omega) (.slice B4 d.trouble.length e4))
    have EF := ((((((Only.refl (fun b => b = w.heap.size + 1) wi7).setCell (p := ⟨w.heap.size + 1, 0, none⟩) rfl (.slice B0 d.codes.length e0)).setCell (p := ⟨w.heap.size + 1, 1, none⟩) rfl (.slice B1 d.known.length e1)).setCell (p := ⟨w.heap.size + 1, 2, none⟩) rfl (.slice B2 d.queue.length e2)).setCell (p := ⟨w.heap.size + 1, 3, none⟩) rfl (.slice B3 n3 e3)).setCell (p := ⟨w.heap.size + 1, 4, none⟩) rfl (.slice B4 d.trouble.length e4))
    have RF := (((((R.set_ 0 (.slice B0 d.codes.length e0)).set_ 1 (.slice B1 d.known.length e1)).set_ 2 (.slice B2 d.queue.length e2)).set_ 3 (.slice B3 n3 e3)).set_ 4 (.slice B4 d.trouble.length e4))
    refine hK.out _ _ (by exact ⟨PF.cell 0, PF.cell 1, PF.cell 2, PF.cell 3, PF.cell 4⟩) (fun hH => ?_)
    clear hK K rc rf
    refine wD (by kernel_rfl) ?_ _
    go_wp2_with fail
    have zF := EF.size
    replace M0 := M0.only EF (fun b h1 h2 => by have := h1.1; have := h1.2; omega)
    replace M1 := M1.only EF (fun b h1 h2 => by have := h1.1; have := h1.2; omega)
    replace M2 := M2.only EF (fun b h1 h2 => by have := h1.1; have := h1.2; omega)
    replace M3 := M3.only EF (fun b h1 h2 => by rcases q33 b h1 with h5 | h5 <;> omega)
    replace M4 := M4.only EF (fun b h1 h2 => by have := h1.1; have := h1.2; omega)
    refine bodyPost_ret (results_cell_row rfl _ _ (w.heap.size + 1) _ _ (0, 0) _ rfl RF Tryz.underlying28 rfl (by kernel_rfl)) rfl ⟨⟨B0, d.codes.length, e0, B1, d.known.length, e1, B2, d.queue.length, e2, B3, n3, e3, B4, d.trouble.length, e4⟩, rfl, MineD.of5 M0 M1 M2 M3 M4 (fun b h1 => by have := h1.1; have := h1.2; exact ⟨by omega, by omega⟩) (fun b h1 => by have := h1.1; have := h1.2; exact ⟨by omega, by omega⟩) (fun b h1 => by have := h1.1; have := h1.2; exact ⟨by omega, by omega⟩) (fun b h1 => by rcases q33 b h1 with h5 | h5 <;> exact ⟨by omega, by omega⟩) (fun b h1 => by have := h1.1; have := h1.2; exact ⟨by omega, by omega⟩) (fun b h1 h2 => by have := h1.1; have := h1.2; have := h2.1; have := h2.2; omega) (fun b h1 h2 => by have := h1.1; have := h1.2; have := h2.1; have := h2.2; omega) (fun b h1 h2 => by have := h1.1; have := h1.2; rcases q33 b h2 with h5 | h5 <;> omega) (fun b h1 h2 => by have := h1.1; have := h1.2; have := h2.1; have := h2.2; omega) (fun b h1 h2 => by have := h1.1; have := h1.2; have := h2.1; have := h2.2; omega) (fun b h1 h2 => by have := h1.1; have := h1.2; rcases q33 b h2 with h5 | h5 <;> omega) (fun b h1 h2 => by have := h1.1; have := h1.2; have := h2.1; have := h2.2; omega) (fun b h1 h2 => by have := h1.1; have := h1.2; rcases q33 b h2 with h5 | h5 <;> omega) (fun b h1 h2 => by have := h1.1; have := h1.2; have := h2.1; have := h2.2; omega) (fun b h1 h2 => by have := h2.1; have := h2.2; rcases q33 b h1 with h5 | h5 <;> omega), HF.out _ _ _ _ _ _ _ _ _ _, hcap3, mineN_cap M2, ?_⟩
    exact KB7.trans (EF.below (fun k hk => by omega) (by omega))
   refine aC rfl (fun K hK => ?_) aN
   ·go_simp
    have U4 : Below wi3.heap.size wi3 (wi3.alloc (.cells #[] 41)) := (Below.refl _ _).alloc (Nat.le_refl _) _
    have KB4 := bel_then KB3 U4
    have y4 := U4.size
    replace P := P.next U4
    replace R := R.next U4
    replace M0 := M0.next U4
    replace M1 := M1.next U4
    have own := own_empty wi3 41 3
    have z4 : wi3.heap.size + 1 ≤ (wi3.alloc (.cells #[] 41)).heap.size := by simp
    refine hK.out _ _ (by exact ⟨P.cell 0, P.cell 1, P.cell 2, P.cell 3, P.cell 4⟩) (fun hH => ?_)
    clear hK K
    (try simp only [Act.put, pX])
    generalize (wi3.alloc (.cells #[] 41)) = wi4 at *
    refine wR (rs := [8]) (by kernel_rfl) (by simp) ?_
    refine aC rfl (fun K hK => ?_) aN
    go_simp
    refine (newCards_any _ _ c2 d.queue _ (s2.below KB4 (Nat.le_refl _)) ft2 fx2).mono ?_
    rintro e wi5 ⟨B2, e2, rfl, M2, b5⟩
    have KB5 := bel_then KB4 b5
    have y5 := b5.size
    replace P := P.next b5
    replace R := R.next b5
    replace M0 := M0.next b5
    replace M1 := M1.next b5
    replace own := own_below own b5
    go_wp2_with fail
    refine hK.out _ _ (by exact ⟨P.cell 0, P.cell 1, P.cell 2, P.cell 3, P.cell 4⟩) (fun hH => ?_)
    clear hK K
    refine wR (rs := [12]) (by kernel_rfl) (by simp) ?_
    refine aC rfl (fun K hK => ?_) aN
    refine step_cat rfl _ _ _ (by rfl) Tryz.underlying26 info_impl_DeskRow rfl (by decide) (by rfl) own (by rfl) (m := n3) (s3.below KB5 (Nat.le_refl _)) (row_all _) (by omega) (by omega) (by decide) (by omega) ?_
    intro B3 e3 wi6 o3 h3 b6 q3
    simp only [Nat.zero_add, List.nil_append] at o3
    (try simp only [Nat.zero_add])
    have KB6 := KB5.trans (b6.mono (by omega))
    have y6 := h3.size
    replace P := P.only h3 (own_not own (by omega))
    replace R := R.only h3 (own_not own (by omega))
    replace M0 := M0.only h3 (fun b h1 h2 => by have h5 : wi3.heap.size = b := (by simpa [OwnB, Value.ownBlock] using h2); have := h1.1; have := h1.2; omega)
    replace M1 := M1.only h3 (fun b h1 h2 => by have h5 : wi3.heap.size = b := (by simpa [OwnB, Value.ownBlock] using h2); have := h1.1; have := h1.2; omega)
    replace M2 := M2.only h3 (fun b h1 h2 => by have h5 : wi3.heap.size = b := (by simpa [OwnB, Value.ownBlock] using h2); have := h1.1; have := h1.2; omega)
    have M3 := (Mine.of o3).exact_
    have hcap3 := own_cap o3
    have q33 : ∀ b, OwnB B3 b → b = wi3.heap.size ∨ (wi5.heap.size ≤ b ∧ b < wi6.heap.size) := fun b hb => by
     have h8 := (own_top o3 hb).2
     rcases q3 b hb with h5 | h5
     ·exact .inl (by simpa [OwnB, Value.ownBlock, eq_comm] using h5)
     ·exact .inr ⟨h5, h8⟩
    clear own o3 q3 h3
    refine hK.out _ _ (by exact ⟨P.cell 0, P.cell 1, P.cell 2, P.cell 3, P.cell 4⟩) (fun hH => ?_)
    clear hK K
    (try simp only [Act.put, pX])
    refine wR (rs := [15]) (by kernel_rfl) (by simp) ?_
    refine aC rfl (fun K hK => ?_) aN
    go_simp
    refine (newCards_any _ _ c4 d.trouble _ (s4.below KB6 (Nat.le_refl _)) ft4 fx4).mono ?_
    rintro e wi7 ⟨B4, e4, rfl, M4, b7⟩
    have KB7 := bel_then KB6 b7
    have y7 := b7.size
    replace P := P.next b7
    replace R := R.next b7
    replace M0 := M0.next b7
    replace M1 := M1.next b7
    replace M2 := M2.next b7
    replace M3 := M3.next b7
    go_wp2_with fail
    refine hK.out _ _ (by exact ⟨P.cell 0, P.cell 1, P.cell 2, P.cell 3, P.cell 4⟩) (fun hH => ?_)
    clear hK K
    refine wT (i := 16) (v := ?_) rfl (by kernel_rfl) (by kernel_rfl) (by kernel_rfl) (fun _ _ _ h => h) (Or.inl ⟨by rfl, ?_⟩) (by assumption) ?_
    rotate_left 1
    ·(intro w hS; (try dsimp only at hS); go_simp; try with_reducible rfl)
    (try simp only [Act.put, pX])
    refine wR (rs := [17]) (by kernel_rfl) (by simp) ?_
    refine aC rfl (fun K hK => ?_) aN
    have rc := R.cell
    have rf := R.frozen
    go_simp
    have PF := (((((P.far (p := ⟨w.heap.size + 1, 0, none⟩) (by show w.heap.size ≠ w.heap.size + 1; omega) (.slice B0 d.codes.length e0)).far (p := ⟨w.heap.size + 1, 1, none⟩) (by show w.heap.size ≠ w.heap.size + 1; omega) (.slice B1 d.known.length e1)).far (p := ⟨w.heap.size + 1, 2, none⟩) (by show w.heap.size ≠ w.heap.size + 1; omega) (.slice B2 d.queue.length e2)).far (p := ⟨w.heap.size + 1, 3, none⟩) (by show w.heap.size ≠ w.heap.size + 1; omega) (.slice B3 n3 e3)).far (p := ⟨w.heap.size + 1, 4, none⟩) (by show w.heap.size ≠ w.heap.size + 1; omega) (.slice B4 d.trouble.length e4))
    have EF := ((((((Only.refl (fun b => b = w.heap.size + 1) wi7).setCell (p := ⟨w.heap.size + 1, 0, none⟩) rfl (.slice B0 d.codes.length e0)).setCell (p := ⟨w.heap.size + 1, 1, none⟩) rfl (.slice B1 d.known.length e1)).setCell (p := ⟨w.heap.size + 1, 2, none⟩) rfl (.slice B2 d.queue.length e2)).setCell (p := ⟨w.heap.size + 1, 3, none⟩) rfl (.slice B3 n3 e3)).setCell (p := ⟨w.heap.size + 1, 4, none⟩) rfl (.slice B4 d.trouble.length e4))
    have RF := (((((R.set_ 0 (.slice B0 d.codes.length e0)).set_ 1 (.slice B1 d.known.length e1)).set_ 2 (.slice B2 d.queue.length e2)).set_ 3 (.slice B3 n3 e3)).set_ 4 (.slice B4 d.trouble.length e4))
    refine hK.out _ _ (by exact ⟨PF.cell 0, PF.cell 1, PF.cell 2, PF.cell 3, PF.cell 4⟩) (fun hH => ?_)
    clear hK K rc rf
    refine wD (by kernel_rfl) ?_ _
    go_wp2_with fail
    have zF := EF.size
    replace M0 := M0.only EF (fun b h1 h2 => by have := h1.1; have := h1.2; omega)
    replace M1 := M1.only EF (fun b h1 h2 => by have := h1.1; have := h1.2; omega)
    replace M2 := M2.only EF (fun b h1 h2 => by have := h1.1; have := h1.2; omega)
    replace M3 := M3.only EF (fun b h1 h2 => by rcases q33 b h1 with h5 | h5 <;> omega)
    replace M4 := M4.only EF (fun b h1 h2 => by have := h1.1; have := h1.2; omega)
    refine bodyPost_ret (results_cell_row rfl _ _ (w.heap.size + 1) _ _ (0, 0) _ rfl RF Tryz.underlying28 rfl (by kernel_rfl)) rfl ⟨⟨B0, d.codes.length, e0, B1, d.known.length, e1, B2, d.queue.length, e2, B3, n3, e3, B4, d.trouble.length, e4⟩, rfl, MineD.of5 M0 M1 M2 M3 M4 (fun b h1 => by have := h1.1; have := h1.2; exact ⟨by omega, by omega⟩) (fun b h1 => by have := h1.1; have := h1.2; exact ⟨by omega, by omega⟩) (fun b h1 => by have := h1.1; have := h1.2; exact ⟨by omega, by omega⟩) (fun b h1 => by rcases q33 b h1 with h5 | h5 <;> exact ⟨by omega, by omega⟩) (fun b h1 => by have := h1.1; have := h1.2; exact ⟨by omega, by omega⟩) (fun b h1 h2 => by have := h1.1; have := h1.2; have := h2.1; have := h2.2; omega) (fun b h1 h2 => by have := h1.1; have := h1.2; have := h2.1; have := h2.2; omega) (fun b h1 h2 => by have := h1.1; have := h1.2; rcases q33 b h2 with h5 | h5 <;> omega) (fun b h1 h2 => by have := h1.1; have := h1.2; have := h2.1; have := h2.2; omega) (fun b h1 h2 => by have := h1.1; have := h1.2; have := h2.1; have := h2.2; omega) (fun b h1 h2 => by have := h1.1; have := h1.2; rcases q33 b h2 with h5 | h5 <;> omega) (fun b h1 h2 => by have := h1.1; have := h1.2; have := h2.1; have := h2.2; omega) (fun b h1 h2 => by have := h1.1; have := h1.2; rcases q33 b h2 with h5 | h5 <;> omega) (fun b h1 h2 => by have := h1.1; have := h1.2; have := h2.1; have := h2.2; omega) (fun b h1 h2 => by have := h2.1; have := h2.2; rcases q33 b h1 with h5 | h5 <;> omega), HF.out _ _ _ _ _ _ _ _ _ _, hcap3, mineN_cap M2, ?_⟩
    exact KB7.trans (EF.below (fun k hk => by omega) (by omega))
  refine aC rfl (fun K hK => ?_) aN
  ·go_simp
   have U3 : Below wi2.heap.size wi2 (wi2.alloc (.cells #[] 41)) := (Below.refl _ _).alloc (Nat.le_refl _) _
   have KB3 := bel_then KB2 U3
   have y3 := U3.size
   replace P := P.next U3
   replace R := R.next U3
   replace M0 := M0.next U3
   have own := own_empty wi2 41 3
   have z3 : wi2.heap.size + 1 ≤ (wi2.alloc (.cells #[] 41)).heap.size := by simp
   refine hK.out _ _ (by exact ⟨P.cell 0, P.cell 1, P.cell 2, P.cell 3, P.cell 4⟩) (fun hH => ?_)
   clear hK K
   (try simp only [Act.put, pX])
   generalize (wi2.alloc (.cells #[] 41)) = wi3 at *
   refine wR (rs := [5]) (by kernel_rfl) (by simp) ?_
   refine aC rfl (fun K hK => ?_) aN
   go_simp
   refine (copyInts_any _ _ c1 0 d.known _ (s1.below KB3 (Nat.le_refl _)) ft1).mono ?_
   rintro e wi4 ⟨B1, e1, rfl, oo, b4⟩
   have KB4 := bel_then KB3 b4
   have y4 := b4.size
   replace P := P.next b4
   replace R := R.next b4
   replace M0 := M0.next b4
   replace own := own_below own b4
   have M1 := Mine.of oo
   clear oo
   go_wp2_with fail
   refine hK.out _ _ (by exact ⟨P.cell 0, P.cell 1, P.cell 2, P.cell 3, P.cell 4⟩) (fun hH => ?_)
   clear hK K
   refine wR (rs := [8]) (by kernel_rfl) (by simp) ?_
   refine aC rfl (fun K hK => ?_) aN
   go_simp
   refine (newCards_any _ _ c2 d.queue _ (s2.below KB4 (Nat.le_refl _)) ft2 fx2).mono ?_
   rintro e wi5 ⟨B2, e2, rfl, M2, b5⟩
   have KB5 := bel_then KB4 b5
   have y5 := b5.size
   replace P := P.next b5
   replace R := R.next b5
   replace M0 := M0.next b5
   replace M1 := M1.next b5
   replace own := own_below own b5
   go_wp2_with fail
   refine hK.out _ _ (by exact ⟨P.cell 0, P.cell 1, P.cell 2, P.cell 3, P.cell 4⟩) (fun hH => ?_)
   clear hK K
   refine wR (rs := [12]) (by kernel_rfl) (by simp) ?_
   refine aC rfl (fun K hK => ?_) aN
   refine step_cat rfl _ _ _ (by rfl) Tryz.underlying26 info_impl_DeskRow rfl (by decide) (by rfl) own (by rfl) (m := n3) (s3.below KB5 (Nat.le_refl _)) (row_all _) (by omega) (by omega) (by decide) (by omega) ?_
   intro B3 e3 wi6 o3 h3 b6 q3
   simp only [Nat.zero_add, List.nil_append] at o3
   (try simp only [Nat.zero_add])
   have KB6 := KB5.trans (b6.mono (by omega))
   have y6 := h3.size
   replace P := P.only h3 (own_not own (by omega))
   replace R := R.only h3 (own_not own (by omega))
   replace M0 := M0.only h3 (fun b h1 h2 => by have h5 : wi2.heap.size = b := (by simpa [OwnB, Value.ownBlock] using h2); have := h1.1; have := h1.2; omega)
   replace M1 := M1.only h3 (fun b h1 h2 => by have h5 : wi2.heap.size = b := (by simpa [OwnB, Value.ownBlock] using h2); have := h1.1; have := h1.2; omega)
   replace M2 := M2.only h3 (fun b h1 h2 => by have h5 : wi2.heap.size = b := (by simpa [OwnB, Value.ownBlock] using h2); have := h1.1; have := h1.2; omega)
   have M3 := (Mine.of o3).exact_
   have hcap3 := own_cap o3
   have q33 : ∀ b, OwnB B3 b → b = wi2.heap.size ∨ (wi5.heap.size ≤ b ∧ b < wi6.heap.size) := fun b hb => by
    have h8 := (own_top o3 hb).2
    rcases q3 b hb with h5 | h5
    ·exact .inl (by simpa [OwnB, Value.ownBlock, eq_comm] using h5)
    ·exact .inr ⟨h5, h8⟩
   clear own o3 q3 h3
   refine hK.out _ _ (by exact ⟨P.cell 0, P.cell 1, P.cell 2, P.cell 3, P.cell 4⟩) (fun hH => ?_)
   clear hK K
   (try simp only [Act.put, pX])
   refine wR (rs := [15]) (by kernel_rfl) (by simp) ?_
   refine aC rfl (fun K hK => ?_) aN
   go_simp
   refine (newCards_any _ _ c4 d.trouble _ (s4.below KB6 (Nat.le_refl _)) ft4 fx4).mono ?_
   rintro e wi7 ⟨B4, e4, rfl, M4, b7⟩
   have KB7 := bel_then KB6 b7
   have y7 := b7.size
   replace P := P.next b7
   replace R := R.next b7
   replace M0 := M0.next b7
   replace M1 := M1.next b7
   replace M2 := M2.next b7
   replace M3 := M3.next b7
   go_wp2_with fail
   refine hK.out _ _ (by exact ⟨P.cell 0, P.cell 1, P.cell 2, P.cell 3, P.cell 4⟩) (fun hH => ?_)
   clear hK K
   refine wT (i := 16) (v := ?_) rfl (by kernel_rfl) (by kernel_rfl) (by kernel_rfl) (fun _ _ _ h => h) (Or.inl ⟨by rfl, ?_⟩) (by assumption) ?_
   rotate_left 1
   ·(intro w hS; (try dsimp only at hS); go_simp; try with_reducible rfl)
   (try simp only [Act.put, pX])
   refine wR (rs := [17]) (by kernel_rfl) (by simp) ?_
   refine aC rfl (fun K hK => ?_) aN
   have rc := R.cell
   have rf := R.frozen
   go_simp
   have PF := (((((P.far (p := ⟨w.heap.size + 1, 0, none⟩) (by show w.heap.size ≠ w.heap.size + 1; omega) (.slice B0 d.codes.length e0)).far (p := ⟨w.heap.size + 1, 1, none⟩) (by show w.heap.size ≠ w.heap.size + 1; omega) (.slice B1 d.known.length e1)).far (p := ⟨w.heap.size + 1, 2, none⟩) (by show w.heap.size ≠ w.heap.size + 1; omega) (.slice B2 d.queue.length e2)).far (p := ⟨w.heap.size + 1, 3, none⟩) (by show w.heap.size ≠ w.heap.size + 1; omega) (.slice B3 n3 e3)).far (p := ⟨w.heap.size + 1, 4, none⟩) (by show w.heap.size ≠ w.heap.size + 1; omega) (.slice B4 d.trouble.length e4))
   have EF := ((((((Only.refl (fun b => b = w.heap.size + 1) wi7).setCell (p := ⟨w.heap.size + 1, 0, none⟩) rfl (.slice B0 d.codes.length e0)).setCell (p := ⟨w.heap.size + 1, 1, none⟩) rfl (.slice B1 d.known.length e1)).setCell (p := ⟨w.heap.size + 1, 2, none⟩) rfl (.slice B2 d.queue.length e2)).setCell (p := ⟨w.heap.size + 1, 3, none⟩) rfl (.slice B3 n3 e3)).setCell (p := ⟨w.heap.size + 1, 4, none⟩) rfl (.slice B4 d.trouble.length e4))
   have RF := (((((R.set_ 0 (.slice B0 d.codes.length e0)).set_ 1 (.slice B1 d.known.length e1)).set_ 2 (.slice B2 d.queue.length e2)).set_ 3 (.slice B3 n3 e3)).set_ 4 (.slice B4 d.trouble.length e4))
   refine hK.out _ _ (by exact ⟨PF.cell 0, PF.cell 1, PF.cell 2, PF.cell 3, PF.cell 4⟩) (fun hH => ?_)
   clear hK K rc rf
   refine wD (by kernel_rfl) ?_ _
   go_wp2_with fail
   have zF := EF.size
   replace M0 := M0.only EF (fun b h1 h2 => by have := h1.1; have := h1.2; omega)
   replace M1 := M1.only EF (fun b h1 h2 => by have := h1.1; have := h1.2; omega)
   replace M2 := M2.only EF (fun b h1 h2 => by have := h1.1; have := h1.2; omega)
   replace M3 := M3.only EF (fun b h1 h2 => by rcases q33 b h1 with h5 | h5 <;> omega)
   replace M4 := M4.only EF (fun b h1 h2 => by have := h1.1; have := h1.2; omega)
   refine bodyPost_ret (results_cell_row rfl _ _ (w.heap.size + 1) _ _ (0, 0) _ rfl RF Tryz.underlying28 rfl (by kernel_rfl)) rfl ⟨⟨B0, d.codes.length, e0, B1, d.known.length, e1, B2, d.queue.length, e2, B3, n3, e3, B4, d.trouble.length, e4⟩, rfl, MineD.of5 M0 M1 M2 M3 M4 (fun b h1 => by have := h1.1; have := h1.2; exact ⟨by omega, by omega⟩) (fun b h1 => by have := h1.1; have := h1.2; exact ⟨by omega, by omega⟩) (fun b h1 => by have := h1.1; have := h1.2; exact ⟨by omega, by omega⟩) (fun b h1 => by rcases q33 b h1 with h5 | h5 <;> exact ⟨by omega, by omega⟩) (fun b h1 => by have := h1.1; have := h1.2; exact ⟨by omega, by omega⟩) (fun b h1 h2 => by have := h1.1; have := h1.2; have := h2.1; have := h2.2; omega) (fun b h1 h2 => by have := h1.1; have := h1.2; have := h2.1; have := h2.2; omega) (fun b h1 h2 => by have := h1.1; have := h1.2; rcases q33 b h2 with h5 | h5 <;> omega) (fun b h1 h2 => by have := h1.1; have := h1.2; have := h2.1; have := h2.2; omega) (fun b h1 h2 => by have := h1.1; have := h1.2; have := h2.1; have := h2.2; omega) (fun b h1 h2 => by have := h1.1; have := h1.2; rcases q33 b h2 with h5 | h5 <;> omega) (fun b h1 h2 => by have := h1.1; have := h1.2; have := h2.1; have := h2.2; omega) (fun b h1 h2 => by have := h1.1; have := h1.2; rcases q33 b h2 with h5 | h5 <;> omega) (fun b h1 h2 => by have := h1.1; have := h1.2; have := h2.1; have := h2.2; omega) (fun b h1 h2 => by have := h2.1; have := h2.2; rcases q33 b h1 with h5 | h5 <;> omega), HF.out _ _ _ _ _ _ _ _ _ _, hcap3, mineN_cap M2, ?_⟩
   exact KB7.trans (EF.below (fun k hk => by omega) (by omega))
 refine aC rfl (fun K hK => ?_) aN
 ·go_simp
  have U2 : Below wi1.heap.size wi1 (wi1.alloc (.cells #[] 41)) := (Below.refl _ _).alloc (Nat.le_refl _) _
  have KB2 := bel_then KB1 U2
  have y2 := U2.size
  replace P := P.next U2
  replace R := R.next U2
  have own := own_empty wi1 41 3
  have z2 : wi1.heap.size + 1 ≤ (wi1.alloc (.cells #[] 41)).heap.size := by simp
  refine hK.out _ _ (by exact ⟨P.cell 0, P.cell 1, P.cell 2, P.cell 3, P.cell 4⟩) (fun hH => ?_)
  clear hK K
  (try simp only [Act.put, pX])
  generalize (wi1.alloc (.cells #[] 41)) = wi2 at *
  refine wR (rs := [2]) (by kernel_rfl) (by simp) ?_
  refine aC rfl (fun K hK => ?_) aN
  go_simp
  refine (copyInts_any _ _ c0 0 d.codes _ (s0.below KB2 (Nat.le_refl _)) ft0).mono ?_
  rintro e wi3 ⟨B0, e0, rfl, oo, b3⟩
  have KB3 := bel_then KB2 b3
  have y3 := b3.size
  replace P := P.next b3
  replace R := R.next b3
  replace own := own_below own b3
  have M0 := Mine.of oo
  clear oo
  go_wp2_with fail
  refine hK.out _ _ (by exact ⟨P.cell 0, P.cell 1, P.cell 2, P.cell 3, P.cell 4⟩) (fun hH => ?_)
  clear hK K
  refine wR (rs := [5]) (by kernel_rfl) (by simp) ?_
  refine aC rfl (fun K hK => ?_) aN
  go_simp
  refine (copyInts_any _ _ c1 0 d.known _ (s1.below KB3 (Nat.le_refl _)) ft1).mono ?_
  rintro e wi4 ⟨B1, e1, rfl, oo, b4⟩
  have KB4 := bel_then KB3 b4
  have y4 := b4.size
  replace P := P.next b4
  replace R := R.next b4
  replace M0 := M0.next b4
  replace own := own_below own b4
  have M1 := Mine.of oo
  clear oo
  go_wp2_with fail
  refine hK.out _ _ (by exact ⟨P.cell 0, P.cell 1, P.cell 2, P.cell 3, P.cell 4⟩) (fun hH => ?_)
  clear hK K
  refine wR (rs := [8]) (by kernel_rfl) (by simp) ?_
  refine aC rfl (fun K hK => ?_) aN
  go_simp
  refine (newCards_any _ _ c2 d.queue _ (s2.below KB4 (Nat.le_refl _)) ft2 fx2).mono ?_
  rintro e wi5 ⟨B2, e2, rfl, M2, b5⟩
  have KB5 := bel_then KB4 b5
  have y5 := b5.size
  replace P := P.next b5
  replace R := R.next b5
  replace M0 := M0.next b5
  replace M1 := M1.next b5
  replace own := own_below own b5
  go_wp2_with fail
  refine hK.out _ _ (by exact ⟨P.cell 0, P.cell 1, P.cell 2, P.cell 3, P.cell 4⟩) (fun hH => ?_)
  clear hK K
  refine wR (rs := [12]) (by kernel_rfl) (by simp) ?_
  refine aC rfl (fun K hK => ?_) aN
  refine step_cat rfl _ _ _ (by rfl) Tryz.underlying26 info_impl_DeskRow rfl (by decide) (by rfl) own (by rfl) (m := n3) (s3.below KB5 (Nat.le_refl _)) (row_all _) (by omega) (by omega) (by decide) (by omega) ?_
  intro B3 e3 wi6 o3 h3 b6 q3
  simp only [Nat.zero_add, List.nil_append] at o3
  (try simp only [Nat.zero_add])
  have KB6 := KB5.trans (b6.mono (by omega))
  have y6 := h3.size
  replace P := P.only h3 (own_not own (by omega))
  replace R := R.only h3 (own_not own (by omega))
  replace M0 := M0.only h3 (fun b h1 h2 => by have h5 : wi1.heap.size = b := (by simpa [OwnB, Value.ownBlock] using h2); have := h1.1; have := h1.2; omega)
  replace M1 := M1.only h3 (fun b h1 h2 => by have h5 : wi1.heap.size = b := (by simpa [OwnB, Value.ownBlock] using h2); have := h1.1; have := h1.2; omega)
  replace M2 := M2.only h3 (fun b h1 h2 => by have h5 : wi1.heap.size = b := (by simpa [OwnB, Value.ownBlock] using h2); have := h1.1; have := h1.2; omega)
  have M3 := (Mine.of o3).exact_
  have hcap3 := own_cap o3
  have q33 : ∀ b, OwnB B3 b → b = wi1.heap.size ∨ (wi5.heap.size ≤ b ∧ b < wi6.heap.size) := fun b hb => by
   have h8 := (own_top o3 hb).2
   rcases q3 b hb with h5 | h5
   ·exact .inl (by simpa [OwnB, Value.ownBlock, eq_comm] using h5)
   ·exact .inr ⟨h5, h8⟩
  clear own o3 q3 h3
  refine hK.out _ _ (by exact ⟨P.cell 0, P.cell 1, P.cell 2, P.cell 3, P.cell 4⟩) (fun hH => ?_)
  clear hK K
  (try simp only [Act.put, pX])
  refine wR (rs := [15]) (by kernel_rfl) (by simp) ?_
  refine aC rfl (fun K hK => ?_) aN
  go_simp
  refine (newCards_any _ _ c4 d.trouble _ (s4.below KB6 (Nat.le_refl _)) ft4 fx4).mono ?_
  rintro e wi7 ⟨B4, e4, rfl, M4, b7⟩
  have KB7 := bel_then KB6 b7
  have y7 := b7.size
  replace P := P.next b7
  replace R := R.next b7
  replace M0 := M0.next b7
  replace M1 := M1.next b7
  replace M2 := M2.next b7
  replace M3 := M3.next b7
  go_wp2_with fail
  refine hK.out _ _ (by exact ⟨P.cell 0, P.cell 1, P.cell 2, P.cell 3, P.cell 4⟩) (fun hH => ?_)
  clear hK K
  refine wT (i := 16) (v := ?_) rfl (by kernel_rfl) (by kernel_rfl) (by kernel_rfl) (fun _ _ _ h => h) (Or.inl ⟨by rfl, ?_⟩) (by assumption) ?_
  rotate_left 1
  ·(intro w hS; (try dsimp only at hS); go_simp; try with_reducible rfl)
  (try simp only [Act.put, pX])
  refine wR (rs := [17]) (by kernel_rfl) (by simp) ?_
  refine aC rfl (fun K hK => ?_) aN
  have rc := R.cell
  have rf := R.frozen
  go_simp
  have PF := (((((P.far (p := ⟨w.heap.size + 1, 0, none⟩) (by show w.heap.size ≠ w.heap.size + 1; omega) (.slice B0 d.codes.length e0)).far (p := ⟨w.heap.size + 1, 1, none⟩) (by show w.heap.size ≠ w.heap.size + 1; omega) (.slice B1 d.known.length e1)).far (p := ⟨w.heap.size + 1, 2, none⟩) (by show w.heap.size ≠ w.heap.size + 1; omega) (.slice B2 d.queue.length e2)).far (p := ⟨w.heap.size + 1, 3, none⟩) (by show w.heap.size ≠ w.heap.size + 1; omega) (.slice B3 n3 e3)).far (p := ⟨w.heap.size + 1, 4, none⟩) (by show w.heap.size ≠ w.heap.size + 1; omega) (.slice B4 d.trouble.length e4))
  have EF := ((((((Only.refl (fun b => b = w.heap.size + 1) wi7).setCell (p := ⟨w.heap.size + 1, 0, none⟩) rfl (.slice B0 d.codes.length e0)).setCell (p := ⟨w.heap.size + 1, 1, none⟩) rfl (.slice B1 d.known.length e1)).setCell (p := ⟨w.heap.size + 1, 2, none⟩) rfl (.slice B2 d.queue.length e2)).setCell (p := ⟨w.heap.size + 1, 3, none⟩) rfl (.slice B3 n3 e3)).setCell (p := ⟨w.heap.size + 1, 4, none⟩) rfl (.slice B4 d.trouble.length e4))
  have RF := (((((R.set_ 0 (.slice B0 d.codes.length e0)).set_ 1 (.slice B1 d.known.length e1)).set_ 2 (.slice B2 d.queue.length e2)).set_ 3 (.slice B3 n3 e3)).set_ 4 (.slice B4 d.trouble.length e4))
  refine hK.out _ _ (by exact ⟨PF.cell 0, PF.cell 1, PF.cell 2, PF.cell 3, PF.cell 4⟩) (fun hH => ?_)
  clear hK K rc rf
  refine wD (by kernel_rfl) ?_ _
  go_wp2_with fail
  have zF := EF.size
  replace M0 := M0.only EF (fun b h1 h2 => by have := h1.1; have := h1.2; omega)
  replace M1 := M1.only EF (fun b h1 h2 => by have := h1.1; have := h1.2; omega)
  replace M2 := M2.only EF (fun b h1 h2 => by have := h1.1; have := h1.2; omega)
  replace M3 := M3.only EF (fun b h1 h2 => by rcases q33 b h1 with h5 | h5 <;> omega)
  replace M4 := M4.only EF (fun b h1 h2 => by have := h1.1; have := h1.2; omega)
  refine bodyPost_ret (results_cell_row rfl _ _ (w.heap.size + 1) _ _ (0, 0) _ rfl RF Tryz.underlying28 rfl (by kernel_rfl)) rfl ⟨⟨B0, d.codes.length, e0, B1, d.known.length, e1, B2, d.queue.length, e2, B3, n3, e3, B4, d.trouble.length, e4⟩, rfl, MineD.of5 M0 M1 M2 M3 M4 (fun b h1 => by have := h1.1; have := h1.2; exact ⟨by omega, by omega⟩) (fun b h1 => by have := h1.1; have := h1.2; exact ⟨by omega, by omega⟩) (fun b h1 => by have := h1.1; have := h1.2; exact ⟨by omega, by omega⟩) (fun b h1 => by rcases q33 b h1 with h5 | h5 <;> exact ⟨by omega, by omega⟩) (fun b h1 => by have := h1.1; have := h1.2; exact ⟨by omega, by omega⟩) (fun b h1 h2 => by have := h1.1; have := h1.2; have := h2.1; have := h2.2; omega) (fun b h1 h2 => by have := h1.1; have := h1.2; have := h2.1; have := h2.2; omega) (fun b h1 h2 => by have := h1.1; have := h1.2; rcases q33 b h2 with h5 | h5 <;> omega) (fun b h1 h2 => by have := h1.1; have := h1.2; have := h2.1; have := h2.2; omega) (fun b h1 h2 => by have := h1.1; have := h1.2; have := h2.1; have := h2.2; omega) (fun b h1 h2 => by have := h1.1; have := h1.2; rcases q33 b h2 with h5 | h5 <;> omega) (fun b h1 h2 => by have := h1.1; have := h1.2; have := h2.1; have := h2.2; omega) (fun b h1 h2 => by have := h1.1; have := h1.2; rcases q33 b h2 with h5 | h5 <;> omega) (fun b h1 h2 => by have := h1.1; have := h1.2; have := h2.1; have := h2.2; omega) (fun b h1 h2 => by have := h2.1; have := h2.2; rcases q33 b h1 with h5 | h5 <;> omega), HF.out _ _ _ _ _ _ _ _ _ _, hcap3, mineN_cap M2, ?_⟩
  exact KB7.trans (EF.below (fun k hk => by omega) (by omega))

theorem newDeskW_any (h : DeskH) (d : DeskV) (w : World) (hs : SeesDesk w 0 h d) (hn : DeskFit 1048576 h d) :
  Calls Tryz.prog 49 #[.agg #[.slice h.A0 h.n0 h.c0, .slice h.A1 h.n1 h.c1, .slice h.A2 h.n2 h.c2, .slice h.A3 h.n3 h.c3, .slice h.A4 h.n4 h.c4]] w (GivesDeskW w d) := (newDeskN_any h d w hs hn).mono fun _ _ h => h.toW

end Go.Proofs.YtkimlajfhepfgaaGreat

namespace Go.Proofs.YtkimlajfhepfgaaGreat
open Go.RowKit

end Go.Proofs.YtkimlajfhepfgaaGreat

namespace Go.Proofs.YtkimlajfhepfgaaGreat
open Go.RowKit

set_option maxRecDepth 100000 in
set_option maxHeartbeats 16000000 in
theorem l25OwnN_any (h : DeskH) (d : DeskV) (w : World) (hs : SeesDesk w 0 h d) (hn : DeskFit 1048576 h d) :
  Calls Tryz.prog 50 #[.agg #[.slice h.A0 h.n0 h.c0, .slice h.A1 h.n1 h.c1, .slice h.A2 h.n2 h.c2, .slice h.A3 h.n3 h.c3, .slice h.A4 h.n4 h.c4]] w (GivesDeskN w d) := by
 obtain ⟨A0, n0, c0, A1, n1, c1, A2, n2, c2, A3, n3, c3, A4, n4, c4⟩ := h
 obtain ⟨s0, s1, s2, s3, s4⟩ := hs
 obtain ⟨ft0, ft1, ft2, fx2, ft3, ft4, fx4⟩ := hn
 dsimp only at *
 have HF := Lib.hid (fun (A0' A1' A2' A3' A4' : Option Addr) (c0' c1' c2' c3' c4' : Nat) => show DeskFit 1048576 ⟨A0', d.codes.length, c0', A1', d.known.length, c1', A2', d.queue.length, c2', A3', n3, c3', A4', d.trouble.length, c4'⟩ d from
  ⟨by rw [s0.icount]; exact ft0, by rw [s1.icount]; exact ft1, by rw [s2.count]; exact ft2, fx2, ft3, by rw [s4.count]; exact ft4, fx4⟩)
 have KB0 : Below w.heap.size w ((w.alloc (.cells #[.slice A0 n0 c0, .slice A1 n1 c1, .slice A2 n2 c2, .slice A3 n3 c3, .slice A4 n4 c4] 28)).alloc (.cells #[(.slice none 0 0), (.slice none 0 0), (.slice none 0 0), (.slice none 0 0), (.slice none 0 0)] 28)) := ((Below.refl w.heap.size w).alloc (Nat.le_refl _) _).alloc (by simp) _
 have P : Blk ((w.alloc (.cells #[.slice A0 n0 c0, .slice A1 n1 c1, .slice A2 n2 c2, .slice A3 n3 c3, .slice A4 n4 c4] 28)).alloc (.cells #[(.slice none 0 0), (.slice none 0 0), (.slice none 0 0), (.slice none 0 0), (.slice none 0 0)] 28)) w.heap.size 28 [.slice A0 n0 c0, .slice A1 n1 c1, .slice A2 n2 c2, .slice A3 n3 c3, .slice A4 n4 c4] := (Blk.at_ rfl).alloc _
 have R : Blk ((w.alloc (.cells #[.slice A0 n0 c0, .slice A1 n1 c1, .slice A2 n2 c2, .slice A3 n3 c3, .slice A4 n4 c4] 28)).alloc (.cells #[(.slice none 0 0), (.slice none 0 0), (.slice none 0 0), (.slice none 0 0), (.slice none 0 0)] 28)) (w.heap.size + 1) 28 [(.slice none 0 0), (.slice none 0 0), (.slice none 0 0), (.slice none 0 0), (.slice none 0 0)] := Blk.at_ (by simp)
 have z0 : w.heap.size + 2 ≤ ((w.alloc (.cells #[.slice A0 n0 c0, .slice A1 n1 c1, .slice A2 n2 c2, .slice A3 n3 c3, .slice A4 n4 c4] 28)).alloc (.cells #[(.slice none 0 0), (.slice none 0 0), (.slice none 0 0), (.slice none 0 0), (.slice none 0 0)] 28)).heap.size := by simp
 go_enter Tryz.func50, Tryz.ntmps50
 go_wp2_with fail
 generalize ((w.alloc (.cells #[.slice A0 n0 c0, .slice A1 n1 c1, .slice A2 n2 c2, .slice A3 n3 c3, .slice A4 n4 c4] 28)).alloc (.cells #[(.slice none 0 0), (.slice none 0 0), (.slice none 0 0), (.slice none 0 0), (.slice none 0 0)] 28)) = w0 at *
 have J1 := (Quiet.one w0).below w0.heap.size
 have KB1 := bel_then KB0 J1
 have y1 := J1.size
 replace P := P.next J1
 replace R := R.next J1
 refine wp_region_held_drew (S := fun w' => w'.cell? ⟨w.heap.size, 0, none⟩ = some (.slice A0 n0 c0) ∧ w'.cell? ⟨w.heap.size, 1, none⟩ = some (.slice A1 n1 c1) ∧ w'.cell? ⟨w.heap.size, 2, none⟩ = some (.slice A2 n2 c2) ∧ w'.cell? ⟨w.heap.size, 3, none⟩ = some (.slice A3 n3 c3) ∧ w'.cell? ⟨w.heap.size, 4, none⟩ = some (.slice A4 n4 c4)) (by kernel_rfl) (by exact ⟨P.cell 0, P.cell 1, P.cell 2, P.cell 3, P.cell 4⟩) (fun hH => ?_)
 generalize w0.drew = wi1 at *
 clear J1
 refine wT (i := 0) (v := ?_) rfl (by kernel_rfl) (by kernel_rfl) (by kernel_rfl) (fun _ _ _ h => h) (Or.inl ⟨by rfl, ?_⟩) (by assumption) ?_
 rotate_left 1
 ·(intro w hS; (try dsimp only at hS); go_simp; try with_reducible rfl)
 (try simp only [Act.put, pX])
 refine wT (i := 1) (v := ?_) rfl (by kernel_rfl) (by kernel_rfl) (by kernel_rfl) (fun _ _ _ h => h) (Or.inl ⟨by rfl, ?_⟩) (by assumption) ?_
 rotate_left 1
 ·(intro w hS; (try dsimp only at hS); go_simp; try with_reducible rfl)
 (try simp only [Act.put, pX])
 refine wT (i := 3) (v := ?_) rfl (by kernel_rfl) (by kernel_rfl) (by kernel_rfl) (fun _ _ _ h => h) (Or.inl ⟨by rfl, ?_⟩) (by assumption) ?_
 rotate_left 1
 ·(intro w hS; (try dsimp only at hS); go_simp; try with_reducible rfl)
 (try simp only [Act.put, pX])
 refine wT (i := 4) (v := ?_) rfl (by kernel_rfl) (by kernel_rfl) (by kernel_rfl) (fun _ _ _ h => h) (Or.inl ⟨by rfl, ?_⟩) (by assumption) ?_
 rotate_left 1
 ·(intro w hS; (try dsimp only at hS); go_simp; try with_reducible rfl)
 (try simp only [Act.put, pX])
 refine wT (i := 6) (v := ?_) rfl (by kernel_rfl) (by kernel_rfl) (by kernel_rfl) (fun _ _ _ h => h) (Or.inl ⟨by rfl, ?_⟩) (by assumption) ?_
 rotate_left 1
 ·(intro w hS; (try dsimp only at hS); go_simp; try with_reducible rfl)
 (try simp only [Act.put, pX])
 refine wT (i := 7) (v := ?_) rfl (by kernel_rfl) (by kernel_rfl) (by kernel_rfl) (fun _ _ _ h => h) (Or.inl ⟨by rfl, ?_⟩) (by assumption) ?_
 rotate_left 1
 ·(intro w hS; (try dsimp only at hS); go_simp; try with_reducible rfl)
 (try simp only [Act.put, pX])
 refine wT (i := 10) (v := ?_) rfl (by kernel_rfl) (by kernel_rfl) (by kernel_rfl) (fun _ _ _ h => h) (Or.inl ⟨by rfl, ?_⟩) (by assumption) ?_
 rotate_left 1
 ·(intro w hS; (try dsimp only at hS); go_simp; try with_reducible rfl)
 (try simp only [Act.put, pX])
 refine wT (i := 11) (v := ?_) rfl (by kernel_rfl) (by kernel_rfl) (by kernel_rfl) (fun _ _ _ h => h) (Or.inl ⟨by rfl, ?_⟩) (by assumption) ?_
 rotate_left 1
 ·(intro w hS; (try dsimp only at hS); go_simp; try with_reducible rfl)
 (try simp only [Act.put, pX])
 refine wT (i := 13) (v := ?_) rfl (by kernel_rfl) (by kernel_rfl) (by kernel_rfl) (fun _ _ _ h => h) (Or.inl ⟨by rfl, ?_⟩) (by assumption) ?_
 rotate_left 1
 ·(intro w hS; (try dsimp only at hS); go_simp; try with_reducible rfl)
 (try simp only [Act.put, pX])
 refine wT (i := 14) (v := ?_) rfl (by kernel_rfl) (by kernel_rfl) (by kernel_rfl) (fun _ _ _ h => h) (Or.inl ⟨by rfl, ?_⟩) (by assumption) ?_
 rotate_left 1
 ·(intro w hS; (try dsimp only at hS); go_simp; try with_reducible rfl)
 (try simp only [Act.put, pX])
 refine wR (rs := [2, 9]) (by kernel_rfl) (by simp) ?_
 refine aC rfl (fun K hK => ?_) ?_
 ·go_simp
  refine (l1Own_any _ _ c0 0 d.codes _ (s0.below KB1 (Nat.le_refl _)) ft0).mono ?_
  rintro e wi2 ⟨B0, e0, rfl, oo, b2⟩
  have KB2 := bel_then KB1 b2
  have y2 := b2.size
  replace P := P.next b2
  replace R := R.next b2
  have M0 := Mine.of oo
  clear oo
  go_wp2_with fail
  refine hK.out _ _ (by exact ⟨P.cell 0, P.cell 1, P.cell 2, P.cell 3, P.cell 4⟩) (fun hH => ?_)
  clear hK K
  refine wR (rs := [5, 9]) (by kernel_rfl) (by simp) ?_
  refine aC rfl (fun K hK => ?_) ?_
  ·go_simp
   refine (l1Own_any _ _ c1 0 d.known _ (s1.below KB2 (Nat.le_refl _)) ft1).mono ?_
   rintro e wi3 ⟨B1, e1, rfl, oo, b3⟩
   have KB3 := bel_then KB2 b3
   have y3 := b3.size
   replace P := P.next b3
   replace R := R.next b3
   replace M0 := M0.next b3
   have M1 := Mine.of oo
   clear oo
   go_wp2_with fail
   refine hK.out _ _ (by exact ⟨P.cell 0, P.cell 1, P.cell 2, P.cell 3, P.cell 4⟩) (fun hH => ?_)
   clear hK K
   refine wR (rs := [8, 9]) (by kernel_rfl) (by simp) ?_
   refine aC rfl (fun K hK => ?_) ?_
   ·go_simp
    refine (l25List_any _ _ c2 d.queue _ (s2.below KB3 (Nat.le_refl _)) ft2 fx2).mono ?_
    rintro e wi4 ⟨B2, e2, rfl, M2, b4⟩
    have KB4 := bel_then KB3 b4
    have y4 := b4.size
    replace P := P.next b4
    replace R := R.next b4
    replace M0 := M0.next b4
    replace M1 := M1.next b4
    go_wp2_with fail
    refine hK.out _ _ (by exact ⟨P.cell 0, P.cell 1, P.cell 2, P.cell 3, P.cell 4⟩) (fun hH => ?_)
    clear hK K
    refine wR (rs := [9]) (by kernel_rfl) (by simp) ?_
    refine aC rfl (fun K hK => ?_) aN
    go_simp
    have U5 : Below wi4.heap.size wi4 (wi4.alloc (.cells #[] 41)) := (Below.refl _ _).alloc (Nat.le_refl _) _
    have KB5 := bel_then KB4 U5
    have y5 := U5.size
    replace P := P.next U5
    replace R := R.next U5
    replace M0 := M0.next U5
    replace M1 := M1.next U5
    replace M2 := M2.next U5
    have own := own_empty wi4 41 3
    have z5 : wi4.heap.size + 1 ≤ (wi4.alloc (.cells #[] 41)).heap.size := by simp
    refine hK.out _ _ (by exact ⟨P.cell 0, P.cell 1, P.cell 2, P.cell 3, P.cell 4⟩) (fun hH => ?_)
    clear hK K
    (try simp only [Act.put, pX])
    generalize (wi4.alloc (.cells #[] 41)) = wi5 at *
    refine wR (rs := [12]) (by kernel_rfl) (by simp) ?_
    refine aC rfl (fun K hK => ?_) aN
    refine step_cat rfl _ _ _ (by rfl) Tryz.underlying26 info_impl_DeskRow rfl (by decide) (by rfl) own (by rfl) (m := n3) (s3.below KB5 (Nat.le_refl _)) (row_all _) (by omega) (by omega) (by decide) (by omega) ?_
    intro B3 e3 wi6 o3 h3 b6 q3
    simp only [Nat.zero_add, List.nil_append] at o3
    (try simp only [Nat.zero_add])
    have KB6 := KB5.trans (b6.mono (by omega))
    have y6 := h3.size
    replace P := P.only h3 (own_not own (by omega))
    replace R := R.only h3 (own_not own (by omega))
    replace M0 := M0.only h3 (fun b h1 h2 => by have h5 : wi4.heap.size = b := (by simpa [OwnB, Value.ownBlock] using h2); have := h1.1; have := h1.2; omega)
    replace M1 := M1.only h3 (fun b h1 h2 => by have h5 : wi4.heap.size = b := (by simpa [OwnB, Value.ownBlock] using h2); have := h1.1; have := h1.2; omega)
    replace M2 := M2.only h3 (fun b h1 h2 => by have h5 : wi4.heap.size = b := (by simpa [OwnB, Value.ownBlock] using h2); have := h1.1; have := h1.2; omega)
    have M3 := (Mine.of o3).exact_
    have hcap3 := own_cap o3
    have q33 : ∀ b, OwnB B3 b → b = wi4.heap.size ∨ (wi5.heap.size ≤ b ∧ b < wi6.heap.size) := fun b hb => by
     have h8 := (own_top o3 hb).2
     rcases q3 b hb with h5 | h5
     ·exact .inl (by simpa [OwnB, Value.ownBlock, eq_comm] using h5)
     ·exact .inr ⟨h5, h8⟩
    clear own o3 q3 h3
    refine hK.out _ _ (by exact ⟨P.cell 0, P.cell 1, P.cell 2, P.cell 3, P.cell 4⟩) (fun hH => ?_)
    clear hK K
    (try simp only [Act.put, pX])
    refine wR (rs := [15]) (by kernel_rfl) (by simp) ?_
    refine aC rfl (fun K hK => ?_) aN
    go_simp
    refine (l25List_any _ _ c4 d.trouble _ (s4.below KB6 (Nat.le_refl _)) ft4 fx4).mono ?_
    rintro e wi7 ⟨B4, e4, rfl, M4, b7⟩
    have KB7 := bel_then KB6 b7
    have y7 := b7.size
    replace P := P.next b7
    replace R := R.next b7
    replace M0 := M0.next b7
    replace M1 := M1.next b7
    replace M2 := M2.next b7
    replace M3 := M3.next b7
    go_wp2_with fail
    refine hK.out _ _ (by exact ⟨P.cell 0, P.cell 1, P.cell 2, P.cell 3, P.cell 4⟩) (fun hH => ?_)
    clear hK K
    refine wT (i := 16) (v := ?_) rfl (by kernel_rfl) (by kernel_rfl) (by kernel_rfl) (fun _ _ _ h => h) (Or.inl ⟨by rfl, ?_⟩) (by assumption) ?_
    rotate_left 1
    ·(intro w hS; (try dsimp only at hS); go_simp; try with_reducible rfl)
    (try simp only [Act.put, pX])
    refine wR (rs := [17]) (by kernel_rfl) (by simp) ?_
    refine aC rfl (fun K hK => ?_) aN
    have rc := R.cell
    have rf := R.frozen
    go_simp
    have PF := (((((P.far (p := ⟨w.heap.size + 1, 0, none⟩) (by show w.heap.size ≠ w.heap.size + 1; omega) (.slice B0 d.codes.length e0)).far (p := ⟨w.heap.size + 1, 1, none⟩) (by show w.heap.size ≠ w.heap.size + 1; omega) (.slice B1 d.known.length e1)).far (p := ⟨w.heap.size + 1, 2, none⟩) (by show w.heap.size ≠ w.heap.size + 1; omega) (.slice B2 d.queue.length e2)).far (p := ⟨w.heap.size + 1, 3, none⟩) (by show w.heap.size ≠ w.heap.size + 1; omega) (.slice B3 n3 e3)).far (p := ⟨w.heap.size + 1, 4, none⟩) (by show w.heap.size ≠ w.heap.size + 1; omega) (.slice B4 d.trouble.length e4))
    have EF := ((((((Only.refl (fun b => b = w.heap.size + 1) wi7).setCell (p := ⟨w.heap.size + 1, 0, none⟩) rfl (.slice B0 d.codes.length e0)).setCell (p := ⟨w.heap.size + 1, 1, none⟩) rfl (.slice B1 d.known.length e1)).setCell (p := ⟨w.heap.size + 1, 2, none⟩) rfl (.slice B2 d.queue.length e2)).setCell (p := ⟨w.heap.size + 1, 3, none⟩) rfl (.slice B3 n3 e3)).setCell (p := ⟨w.heap.size + 1, 4, none⟩) rfl (.slice B4 d.trouble.length e4))
    have RF := (((((R.set_ 0 (.slice B0 d.codes.length e0)).set_ 1 (.slice B1 d.known.length e1)).set_ 2 (.slice B2 d.queue.length e2)).set_ 3 (.slice B3 n3 e3)).set_ 4 (.slice B4 d.trouble.length e4))
    refine hK.out _ _ (by exact ⟨PF.cell 0, PF.cell 1, PF.cell 2, PF.cell 3, PF.cell 4⟩) (fun hH => ?_)
    clear hK K rc rf
    refine wD (by kernel_rfl) ?_ _
    go_wp2_with fail
    have zF := EF.size
    replace M0 := M0.only EF (fun b h1 h2 => by have := h1.1; have := h1.2; omega)
    replace M1 := M1.only EF (fun b h1 h2 => by have := h1.1; have := h1.2; omega)
    replace M2 := M2.only EF (fun b h1 h2 => by have := h1.1; have := h1.2; omega)
    replace M3 := M3.only EF (fun b h1 h2 => by rcases q33 b h1 with h5 | h5 <;> omega)
    replace M4 := M4.only EF (fun b h1 h2 => by have := h1.1; have := h1.2; omega)
    refine bodyPost_ret (results_cell_row rfl _ _ (w.heap.size + 1) _ _ (0, 0) _ rfl RF Tryz.underlying28 rfl (by kernel_rfl)) rfl ⟨⟨B0, d.codes.length, e0, B1, d.known.length, e1, B2, d.queue.length, e2, B3, n3, e3, B4, d.trouble.length, e4⟩, rfl, MineD.of5 M0 M1 M2 M3 M4 (fun b h1 => by have := h1.1; have := h1.2; exact ⟨by omega, by omega⟩) (fun b h1 => by have := h1.1; have := h1.2; exact ⟨by omega, by omega⟩) (fun b h1 => by have := h1.1; have := h1.2; exact ⟨by omega, by omega⟩) (fun b h1 => by rcases q33 b h1 with h5 | h5 <;> exact ⟨by omega, by omega⟩) (fun b h1 => by have := h1.1; have := h1.2; exact ⟨by omega, by omega⟩) (fun b h1 h2 => by have := h1.1; have := h1.2; have := h2.1; have := h2.2; omega) (fun b h1 h2 => by have := h1.1; have := h1.2; have := h2.1; have := h2.2; omega) (fun b h1 h2 => by have := h1.1; have := h1.2; rcases q33 b h2 with h5 | h5 <;> omega) (fun b h1 h2 => by have := h1.1; have := h1.2; have := h2.1; have := h2.2; omega) (fun b h1 h2 => by have := h1.1; have := h1.2; have := h2.1; have := h2.2; omega) (fun b h1 h2 => by have := h1.1; have := h1.2; rcases q33 b h2 with h5 | h5 <;> omega) (fun b h1 h2 => by have := h1.1; have := h1.2; have := h2.1; have := h2.2; omega) (fun b h1 h2 => by have := h1.1; have := h1.2; rcases q33 b h2 with h5 | h5 <;> omega) (fun b h1 h2 => by have := h1.1; have := h1.2; have := h2.1; have := h2.2; omega) (fun b h1 h2 => by have := h2.1; have := h2.2; rcases q33 b h1 with h5 | h5 <;> omega), HF.out _ _ _ _ _ _ _ _ _ _, hcap3, mineN_cap M2, ?_⟩
    exact KB7.trans (EF.below (fun k hk => by omega) (by omega))
   refine aC rfl (fun K hK => ?_) aN
   ·go_simp
    have U4 : Below wi3.heap.size wi3 (wi3.alloc (.cells #[] 41)) := (Below.refl _ _).alloc (Nat.le_refl _) _
    have KB4 := bel_then KB3 U4
    have y4 := U4.size
    replace P := P.next U4
    replace R := R.next U4
    replace M0 := M0.next U4
    replace M1 := M1.next U4
    have own := own_empty wi3 41 3
    have z4 : wi3.heap.size + 1 ≤ (wi3.alloc (.cells #[] 41)).heap.size := by simp
    refine hK.out _ _ (by exact ⟨P.cell 0, P.cell 1, P.cell 2, P.cell 3, P.cell 4⟩) (fun hH => ?_)
    clear hK K
    (try simp only [Act.put, pX])
    generalize (wi3.alloc (.cells #[] 41)) = wi4 at *
    refine wR (rs := [8]) (by kernel_rfl) (by simp) ?_
    refine aC rfl (fun K hK => ?_) aN
    go_simp
    refine (l25List_any _ _ c2 d.queue _ (s2.below KB4 (Nat.le_refl _)) ft2 fx2).mono ?_
    rintro e wi5 ⟨B2, e2, rfl, M2, b5⟩
    have KB5 := bel_then KB4 b5
    have y5 := b5.size
    replace P := P.next b5
    replace R := R.next b5
    replace M0 := M0.next b5
    replace M1 := M1.next b5
    replace own := own_below own b5
    go_wp2_with fail
    refine hK.out _ _ (by exact ⟨P.cell 0, P.cell 1, P.cell 2, P.cell 3, P.cell 4⟩) (fun hH => ?_)
    clear hK K
    refine wR (rs := [12]) (by kernel_rfl) (by simp) ?_
    refine aC rfl (fun K hK => ?_) aN
    refine step_cat rfl _ _ _ (by rfl) Tryz.underlying26 info_impl_DeskRow rfl (by decide) (by rfl) own (by rfl) (m := n3) (s3.below KB5 (Nat.le_refl _)) (row_all _) (by omega) (by omega) (by decide) (by omega) ?_
    intro B3 e3 wi6 o3 h3 b6 q3
    simp only [Nat.zero_add, List.nil_append] at o3
    (try simp only [Nat.zero_add])
    have KB6 := KB5.trans (b6.mono (by omega))
    have y6 := h3.size
    replace P := P.only h3 (own_not own (by omega))
    replace R := R.only h3 (own_not own (by omega))
    replace M0 := M0.only h3 (fun b h1 h2 => by have h5 : wi3.heap.size = b := (by simpa [OwnB, Value.ownBlock] using h2); have := h1.1; have := h1.2; omega)
    replace M1 := M1.only h3 (fun b h1 h2 => by have h5 : wi3.heap.size = b := (by simpa [OwnB, Value.ownBlock] using h2); have := h1.1; have := h1.2; omega)
    replace M2 := M2.only h3 (fun b h1 h2 => by have h5 : wi3.heap.size = b := (by simpa [OwnB, Value.ownBlock] using h2); have := h1.1; have := h1.2; omega)
    have M3 := (Mine.of o3).exact_
    have hcap3 := own_cap o3
    have q33 : ∀ b, OwnB B3 b → b = wi3.heap.size ∨ (wi5.heap.size ≤ b ∧ b < wi6.heap.size) := fun b hb => by
     have h8 := (own_top o3 hb).2
     rcases q3 b hb with h5 | h5
     ·exact .inl (by simpa [OwnB, Value.ownBlock, eq_comm] using h5)
     ·exact .inr ⟨h5, h8⟩
    clear own o3 q3 h3
    refine hK.out _ _ (by exact ⟨P.cell 0, P.cell 1, P.cell 2, P.cell 3, P.cell 4⟩) (fun hH => ?_)
    clear hK K
    (try simp only [Act.put, pX])
    refine wR (rs := [15]) (by kernel_rfl) (by simp) ?_
    refine aC rfl (fun K hK => ?_) aN
    go_simp
    refine (l25List_any _ _ c4 d.trouble _ (s4.below KB6 (Nat.le_refl _)) ft4 fx4).mono ?_
    rintro e wi7 ⟨B4, e4, rfl, M4, b7⟩
    have KB7 := bel_then KB6 b7
    have y7 := b7.size
    replace P := P.next b7
    replace R := R.next b7
    replace M0 := M0.next b7
    replace M1 := M1.next b7
    replace M2 := M2.next b7
    replace M3 := M3.next b7
    go_wp2_with fail
    refine hK.out _ _ (by exact ⟨P.cell 0, P.cell 1, P.cell 2, P.cell 3, P.cell 4⟩) (fun hH => ?_)
    clear hK K
    refine wT (i := 16) (v := ?_) rfl (by kernel_rfl) (by kernel_rfl) (by kernel_rfl) (fun _ _ _ h => h) (Or.inl ⟨by rfl, ?_⟩) (by assumption) ?_
    rotate_left 1
    ·(intro w hS; (try dsimp only at hS); go_simp; try with_reducible rfl)
    (try simp only [Act.put, pX])
    refine wR (rs := [17]) (by kernel_rfl) (by simp) ?_
    refine aC rfl (fun K hK => ?_) aN
    have rc := R.cell
    have rf := R.frozen
    go_simp
    have PF := (((((P.far (p := ⟨w.heap.size + 1, 0, none⟩) (by show w.heap.size ≠ w.heap.size + 1; omega) (.slice B0 d.codes.length e0)).far (p := ⟨w.heap.size + 1, 1, none⟩) (by show w.heap.size ≠ w.heap.size + 1; omega) (.slice B1 d.known.length e1)).far (p := ⟨w.heap.size + 1, 2, none⟩) (by show w.heap.size ≠ w.heap.size + 1; omega) (.slice B2 d.queue.length e2)).far (p := ⟨w.heap.size + 1, 3, none⟩) (by show w.heap.size ≠ w.heap.size + 1; omega) (.slice B3 n3 e3)).far (p := ⟨w.heap.size + 1, 4, none⟩) (by show w.heap.size ≠ w.heap.size + 1; omega) (.slice B4 d.trouble.length e4))
    have EF := ((((((Only.refl (fun b => b = w.heap.size + 1) wi7).setCell (p := ⟨w.heap.size + 1, 0, none⟩) rfl (.slice B0 d.codes.length e0)).setCell (p := ⟨w.heap.size + 1, 1, none⟩) rfl (.slice B1 d.known.length e1)).setCell (p := ⟨w.heap.size + 1, 2, none⟩) rfl (.slice B2 d.queue.length e2)).setCell (p := ⟨w.heap.size + 1, 3, none⟩) rfl (.slice B3 n3 e3)).setCell (p := ⟨w.heap.size + 1, 4, none⟩) rfl (.slice B4 d.trouble.length e4))
    have RF := (((((R.set_ 0 (.slice B0 d.codes.length e0)).set_ 1 (.slice B1 d.known.length e1)).set_ 2 (.slice B2 d.queue.length e2)).set_ 3 (.slice B3 n3 e3)).set_ 4 (.slice B4 d.trouble.length e4))
    refine hK.out _ _ (by exact ⟨PF.cell 0, PF.cell 1, PF.cell 2, PF.cell 3, PF.cell 4⟩) (fun hH => ?_)
    clear hK K rc rf
    refine wD (by kernel_rfl) ?_ _
    go_wp2_with fail
    have zF := EF.size
    replace M0 := M0.only EF (fun b h1 h2 => by have := h1.1; have := h1.2; omega)
    replace M1 := M1.only EF (fun b h1 h2 => by have := h1.1; have := h1.2; omega)
    replace M2 := M2.only EF (fun b h1 h2 => by have := h1.1; have := h1.2; omega)
    replace M3 := M3.only EF (fun b h1 h2 => by rcases q33 b h1 with h5 | h5 <;> omega)
    replace M4 := M4.only EF (fun b h1 h2 => by have := h1.1; have := h1.2; omega)
    refine bodyPost_ret (results_cell_row rfl _ _ (w.heap.size + 1) _ _ (0, 0) _ rfl RF Tryz.underlying28 rfl (by kernel_rfl)) rfl ⟨⟨B0, d.codes.length, e0, B1, d.known.length, e1, B2, d.queue.length, e2, B3, n3, e3, B4, d.trouble.length, e4⟩, rfl, MineD.of5 M0 M1 M2 M3 M4 (fun b h1 => by have := h1.1; have := h1.2; exact ⟨by omega, by omega⟩) (fun b h1 => by have := h1.1; have := h1.2; exact ⟨by omega, by omega⟩) (fun b h1 => by have := h1.1; have := h1.2; exact ⟨by omega, by omega⟩) (fun b h1 => by rcases q33 b h1 with h5 | h5 <;> exact ⟨by omega, by omega⟩) (fun b h1 => by have := h1.1; have := h1.2; exact ⟨by omega, by omega⟩) (fun b h1 h2 => by have := h1.1; have := h1.2; have := h2.1; have := h2.2; omega) (fun b h1 h2 => by have := h1.1; have := h1.2; have := h2.1; have := h2.2; omega) (fun b h1 h2 => by have := h1.1; have := h1.2; rcases q33 b h2 with h5 | h5 <;> omega) (fun b h1 h2 => by have := h1.1; have := h1.2; have := h2.1; have := h2.2; omega) (fun b h1 h2 => by have := h1.1; have := h1.2; have := h2.1; have := h2.2; omega) (fun b h1 h2 => by have := h1.1; have := h1.2; rcases q33 b h2 with h5 | h5 <;> omega) (fun b h1 h2 => by have := h1.1; have := h1.2; have := h2.1; have := h2.2; omega) (fun b h1 h2 => by have := h1.1; have := h1.2; rcases q33 b h2 with h5 | h5 <;> omega) (fun b h1 h2 => by have := h1.1; have := h1.2; have := h2.1; have := h2.2; omega) (fun b h1 h2 => by have := h2.1; have := h2.2; rcases q33 b h1 with h5 | h5 <;> omega), HF.out _ _ _ _ _ _ _ _ _ _, hcap3, mineN_cap M2, ?_⟩
    exact KB7.trans (EF.below (fun k hk => by omega) (by omega))
  refine aC rfl (fun K hK => ?_) aN
  ·go_simp
   have U3 : Below wi2.heap.size wi2 (wi2.alloc (.cells #[] 41)) := (Below.refl _ _).alloc (Nat.le_refl _) _
   have KB3 := bel_then KB2 U3
   have y3 := U3.size
   replace P := P.next U3
   replace R := R.next U3
   replace M0 := M0.next U3
   have own := own_empty wi2 41 3
   have z3 : wi2.heap.size + 1 ≤ (wi2.alloc (.cells #[] 41)).heap.size := by simp
   refine hK.out _ _ (by exact ⟨P.cell 0, P.cell 1, P.cell 2, P.cell 3, P.cell 4⟩) (fun hH => ?_)
   clear hK K
   (try simp only [Act.put, pX])
   generalize (wi2.alloc (.cells #[] 41)) = wi3 at *
   refine wR (rs := [5]) (by kernel_rfl) (by simp) ?_
   refine aC rfl (fun K hK => ?_) aN
   go_simp
   refine (l1Own_any _ _ c1 0 d.known _ (s1.below KB3 (Nat.le_refl _)) ft1).mono ?_
   rintro e wi4 ⟨B1, e1, rfl, oo, b4⟩
   have KB4 := bel_then KB3 b4
   have y4 := b4.size
   replace P := P.next b4
   replace R := R.next b4
   replace M0 := M0.next b4
   replace own := own_below own b4
   have M1 := Mine.of oo
   clear oo
   go_wp2_with fail
   refine hK.out _ _ (by exact ⟨P.cell 0, P.cell 1, P.cell 2, P.cell 3, P.cell 4⟩) (fun hH => ?_)
   clear hK K
   refine wR (rs := [8]) (by kernel_rfl) (by simp) ?_
   refine aC rfl (fun K hK => ?_) aN
   go_simp
   refine (l25List_any _ _ c2 d.queue _ (s2.below KB4 (Nat.le_refl _)) ft2 fx2).mono ?_
   rintro e wi5 ⟨B2, e2, rfl, M2, b5⟩
   have KB5 := bel_then KB4 b5
   have y5 := b5.size
   replace P := P.next b5
   replace R := R.next b5
   replace M0 := M0.next b5
   replace M1 := M1.next b5
   replace own := own_below own b5
   go_wp2_with fail
   refine hK.out _ _ (by exact ⟨P.cell 0, P.cell 1, P.cell 2, P.cell 3, P.cell 4⟩) (fun hH => ?_)
   clear hK K
   refine wR (rs := [12]) (by kernel_rfl) (by simp) ?_
   refine aC rfl (fun K hK => ?_) aN
   refine step_cat rfl _ _ _ (by rfl) Tryz.underlying26 info_impl_DeskRow rfl (by decide) (by rfl) own (by rfl) (m := n3) (s3.below KB5 (Nat.le_refl _)) (row_all _) (by omega) (by omega) (by decide) (by omega) ?_
   intro B3 e3 wi6 o3 h3 b6 q3
   simp only [Nat.zero_add, List.nil_append] at o3
   (try simp only [Nat.zero_add])
   have KB6 := KB5.trans (b6.mono (by omega))
   have y6 := h3.size
   replace P := P.only h3 (own_not own (by omega))
   replace R := R.only h3 (own_not own (by omega))
   replace M0 := M0.only h3 (fun b h1 h2 => by have h5 : wi2.heap.size = b := (by simpa [OwnB, Value.ownBlock] using h2); have := h1.1; have := h1.2; omega)
   replace M1 := M1.only h3 (fun b h1 h2 => by have h5 : wi2.heap.size = b := (by simpa [OwnB, Value.ownBlock] using h2); have := h1.1; have := h1.2; omega)
   replace M2 := M2.only h3 (fun b h1 h2 => by have h5 : wi2.heap.size = b := (by simpa [OwnB, Value.ownBlock] using h2); have := h1.1; have := h1.2; omega)
   have M3 := (Mine.of o3).exact_
   have hcap3 := own_cap o3
   have q33 : ∀ b, OwnB B3 b → b = wi2.heap.size ∨ (wi5.heap.size ≤ b ∧ b < wi6.heap.size) := fun b hb => by
    have h8 := (own_top o3 hb).2
    rcases q3 b hb with h5 | h5
    ·exact .inl (by simpa [OwnB, Value.ownBlock, eq_comm] using h5)
    ·exact .inr ⟨h5, h8⟩
   clear own o3 q3 h3
   refine hK.out _ _ (by exact ⟨P.cell 0, P.cell 1, P.cell 2, P.cell 3, P.cell 4⟩) (fun hH => ?_)
   clear hK K
   (try simp only [Act.put, pX])
   refine wR (rs := [15]) (by kernel_rfl) (by simp) ?_
   refine aC rfl (fun K hK => ?_) aN
   go_simp
   refine (l25List_any _ _ c4 d.trouble _ (s4.below KB6 (Nat.le_refl _)) ft4 fx4).mono ?_
   rintro e wi7 ⟨B4, e4, rfl, M4, b7⟩
   have KB7 := bel_then KB6 b7
   have y7 := b7.size
   replace P := P.next b7
   replace R := R.next b7
   replace M0 := M0.next b7
   replace M1 := M1.next b7
   replace M2 := M2.next b7
   replace M3 := M3.next b7
   go_wp2_with fail
   refine hK.out _ _ (by exact ⟨P.cell 0, P.cell 1, P.cell 2, P.cell 3, P.cell 4⟩) (fun hH => ?_)
   clear hK K
   refine wT (i := 16) (v := ?_) rfl (by kernel_rfl) (by kernel_rfl) (by kernel_rfl) (fun _ _ _ h => h) (Or.inl ⟨by rfl, ?_⟩) (by assumption) ?_
   rotate_left 1
   ·(intro w hS; (try dsimp only at hS); go_simp; try with_reducible rfl)
   (try simp only [Act.put, pX])
   refine wR (rs := [17]) (by kernel_rfl) (by simp) ?_
   refine aC rfl (fun K hK => ?_) aN
   have rc := R.cell
   have rf := R.frozen
   go_simp
   have PF := (((((P.far (p := ⟨w.heap.size + 1, 0, none⟩) (by show w.heap.size ≠ w.heap.size + 1; omega) (.slice B0 d.codes.length e0)).far (p := ⟨w.heap.size + 1, 1, none⟩) (by show w.heap.size ≠ w.heap.size + 1; omega) (.slice B1 d.known.length e1)).far (p := ⟨w.heap.size + 1, 2, none⟩) (by show w.heap.size ≠ w.heap.size + 1; omega) (.slice B2 d.queue.length e2)).far (p := ⟨w.heap.size + 1, 3, none⟩) (by show w.heap.size ≠ w.heap.size + 1; omega) (.slice B3 n3 e3)).far (p := ⟨w.heap.size + 1, 4, none⟩) (by show w.heap.size ≠ w.heap.size + 1; omega) (.slice B4 d.trouble.length e4))
   have EF := ((((((Only.refl (fun b => b = w.heap.size + 1) wi7).setCell (p := ⟨w.heap.size + 1, 0, none⟩) rfl (.slice B0 d.codes.length e0)).setCell (p := ⟨w.heap.size + 1, 1, none⟩) rfl (.slice B1 d.known.length e1)).setCell (p := ⟨w.heap.size + 1, 2, none⟩) rfl (.slice B2 d.queue.length e2)).setCell (p := ⟨w.heap.size + 1, 3, none⟩) rfl (.slice B3 n3 e3)).setCell (p := ⟨w.heap.size + 1, 4, none⟩) rfl (.slice B4 d.trouble.length e4))
   have RF := (((((R.set_ 0 (.slice B0 d.codes.length e0)).set_ 1 (.slice B1 d.known.length e1)).set_ 2 (.slice B2 d.queue.length e2)).set_ 3 (.slice B3 n3 e3)).set_ 4 (.slice B4 d.trouble.length e4))
   refine hK.out _ _ (by exact ⟨PF.cell 0, PF.cell 1, PF.cell 2, PF.cell 3, PF.cell 4⟩) (fun hH => ?_)
   clear hK K rc rf
   refine wD (by kernel_rfl) ?_ _
   go_wp2_with fail
   have zF := EF.size
   replace M0 := M0.only EF (fun b h1 h2 => by have := h1.1; have := h1.2; omega)
   replace M1 := M1.only EF (fun b h1 h2 => by have := h1.1; have := h1.2; omega)
   replace M2 := M2.only EF (fun b h1 h2 => by have := h1.1; have := h1.2; omega)
   replace M3 := M3.only EF (fun b h1 h2 => by rcases q33 b h1 with h5 | h5 <;> omega)
   replace M4 := M4.only EF (fun b h1 h2 => by have := h1.1; have := h1.2; omega)
   refine bodyPost_ret (results_cell_row rfl _ _ (w.heap.size + 1) _ _ (0, 0) _ rfl RF Tryz.underlying28 rfl (by kernel_rfl)) rfl ⟨⟨B0, d.codes.length, e0, B1, d.known.length, e1, B2, d.queue.length, e2, B3, n3, e3, B4, d.trouble.length, e4⟩, rfl, MineD.of5 M0 M1 M2 M3 M4 (fun b h1 => by have := h1.1; have := h1.2; exact ⟨by omega, by omega⟩) (fun b h1 => by have := h1.1; have := h1.2; exact ⟨by omega, by omega⟩) (fun b h1 => by have := h1.1; have := h1.2; exact ⟨by omega, by omega⟩) (fun b h1 => by rcases q33 b h1 with h5 | h5 <;> exact ⟨by omega, by omega⟩) (fun b h1 => by have := h1.1; have := h1.2; exact ⟨by omega, by omega⟩) (fun b h1 h2 => by have := h1.1; have := h1.2; have := h2.1; have := h2.2; omega) (fun b h1 h2 => by have := h1.1; have := h1.2; have := h2.1; have := h2.2; omega) (fun b h1 h2 => by have := h1.1; have := h1.2; rcases q33 b h2 with h5 | h5 <;> omega) (fun b h1 h2 => by have := h1.1; have := h1.2; have := h2.1; have := h2.2; omega) (fun b h1 h2 => by have := h1.1; have := h1.2; have := h2.1; have := h2.2; omega) (fun b h1 h2 => by have := h1.1; have := h1.2; rcases q33 b h2 with h5 | h5 <;> omega) (fun b h1 h2 => by have := h1.1; have := h1.2; have := h2.1; have := h2.2; omega) (fun b h1 h2 => by have := h1.1; have := h1.2; rcases q33 b h2 with h5 | h5 <;> omega) (fun b h1 h2 => by have := h1.1; have := h1.2; have := h2.1; have := h2.2; omega) (fun b h1 h2 => by have := h2.1; have := h2.2; rcases q33 b h1 with h5 | h5 <;> omega), HF.out _ _ _ _ _ _ _ _ _ _, hcap3, mineN_cap M2, ?_⟩
   exact KB7.trans (EF.below (fun k hk => by omega) (by omega))
 refine aC rfl (fun K hK => ?_) aN
 ·go_simp
  have U2 : Below wi1.heap.size wi1 (wi1.alloc (.cells #[] 41)) := (Below.refl _ _).alloc (Nat.le_refl _) _
  have KB2 := bel_then KB1 U2
  have y2 := U2.size
  replace P := P.next U2
  replace R := R.next U2
  have own := own_empty wi1 41 3
  have z2 : wi1.heap.size + 1 ≤ (wi1.alloc (.cells #[] 41)).heap.size := by simp
  refine hK.out _ _ (by exact ⟨P.cell 0, P.cell 1, P.cell 2, P.cell 3, P.cell 4⟩) (fun hH => ?_)
  clear hK K
  (try simp only [Act.put, pX])
  generalize (wi1.alloc (.cells #[] 41)) = wi2 at *
  refine wR (rs := [2]) (by kernel_rfl) (by simp) ?_
  refine aC rfl (fun K hK => ?_) aN
  go_simp
  refine (l1Own_any _ _ c0 0 d.codes _ (s0.below KB2 (Nat.le_refl _)) ft0).mono ?_
  rintro e wi3 ⟨B0, e0, rfl, oo, b3⟩
  have KB3 := bel_then KB2 b3
  have y3 := b3.size
  replace P := P.next b3
  replace R := R.next b3
  replace own := own_below own b3
  have M0 := Mine.of oo
  clear oo
  go_wp2_with fail
  refine hK.out _ _ (by exact ⟨P.cell 0, P.cell 1, P.cell 2, P.cell 3, P.cell 4⟩) (fun hH => ?_)
  clear hK K
  refine wR (rs := [5]) (by kernel_rfl) (by simp) ?_
  refine aC rfl (fun K hK => ?_) aN
  go_simp
  refine (l1Own_any _ _ c1 0 d.known _ (s1.below KB3 (Nat.le_refl _)) ft1).mono ?_
  rintro e wi4 ⟨B1, e1, rfl, oo, b4⟩
  have KB4 := bel_then KB3 b4
  have y4 := b4.size
  replace P := P.next b4
  replace R := R.next b4
  replace M0 := M0.next b4
  replace own := own_below own b4
  have M1 := Mine.of oo
  clear oo
  go_wp2_with fail
  refine hK.out _ _ (by exact ⟨P.cell 0, P.cell 1, P.cell 2, P.cell 3, P.cell 4⟩) (fun hH => ?_)
  clear hK K
  refine wR (rs := [8]) (by kernel_rfl) (by simp) ?_
  refine aC rfl (fun K hK => ?_) aN
  go_simp
  refine (l25List_any _ _ c2 d.queue _ (s2.below KB4 (Nat.le_refl _)) ft2 fx2).mono ?_
  rintro e wi5 ⟨B2, e2, rfl, M2, b5⟩
  have KB5 := bel_then KB4 b5
  have y5 := b5.size
  replace P := P.next b5
  replace R := R.next b5
  replace M0 := M0.next b5
  replace M1 := M1.next b5
  replace own := own_below own b5
  go_wp2_with fail
  refine hK.out _ _ (by exact ⟨P.cell 0, P.cell 1, P.cell 2, P.cell 3, P.cell 4⟩) (fun hH => ?_)
  clear hK K
  refine wR (rs := [12]) (by kernel_rfl) (by simp) ?_
  refine aC rfl (fun K hK => ?_) aN
  refine step_cat rfl _ _ _ (by rfl) Tryz.underlying26 info_impl_DeskRow rfl (by decide) (by rfl) own (by rfl) (m := n3) (s3.below KB5 (Nat.le_refl _)) (row_all _) (by omega) (by omega) (by decide) (by omega) ?_
  intro B3 e3 wi6 o3 h3 b6 q3
  simp only [Nat.zero_add, List.nil_append] at o3
  (try simp only [Nat.zero_add])
  have KB6 := KB5.trans (b6.mono (by omega))
  have y6 := h3.size
  replace P := P.only h3 (own_not own (by omega))
  replace R := R.only h3 (own_not own (by omega))
  replace M0 := M0.only h3 (fun b h1 h2 => by have h5 : wi1.heap.size = b := (by simpa [OwnB, Value.ownBlock] using h2); have := h1.1; have := h1.2; omega)
  replace M1 := M1.only h3 (fun b h1 h2 => by have h5 : wi1.heap.size = b := (by simpa [OwnB, Value.ownBlock] using h2); have := h1.1; have := h1.2; omega)
  replace M2 := M2.only h3 (fun b h1 h2 => by have h5 : wi1.heap.size = b := (by simpa [OwnB, Value.ownBlock] using h2); have := h1.1; have := h1.2; omega)
  have M3 := (Mine.of o3).exact_
  have hcap3 := own_cap o3
  have q33 : ∀ b, OwnB B3 b → b = wi1.heap.size ∨ (wi5.heap.size ≤ b ∧ b < wi6.heap.size) := fun b hb => by
   have h8 := (own_top o3 hb).2
   rcases q3 b hb with h5 | h5
   ·exact .inl (by simpa [OwnB, Value.ownBlock, eq_comm] using h5)
   ·exact .inr ⟨h5, h8⟩
  clear own o3 q3 h3
  refine hK.out _ _ (by exact ⟨P.cell 0, P.cell 1, P.cell 2, P.cell 3, P.cell 4⟩) (fun hH => ?_)
  clear hK K
  (try simp only [Act.put, pX])
  refine wR (rs := [15]) (by kernel_rfl) (by simp) ?_
  refine aC rfl (fun K hK => ?_) aN
  go_simp
  refine (l25List_any _ _ c4 d.trouble _ (s4.below KB6 (Nat.le_refl _)) ft4 fx4).mono ?_
  rintro e wi7 ⟨B4, e4, rfl, M4, b7⟩
  have KB7 := bel_then KB6 b7
  have y7 := b7.size
  replace P := P.next b7
  replace R := R.next b7
  replace M0 := M0.next b7
  replace M1 := M1.next b7
  replace M2 := M2.next b7
  replace M3 := M3.next b7
  go_wp2_with fail
  refine hK.out _ _ (by exact ⟨P.cell 0, P.cell 1, P.cell 2, P.cell 3, P.cell 4⟩) (fun hH => ?_)
  clear hK K
  refine wT (i := 16) (v := ?_) rfl (by kernel_rfl) (by kernel_rfl) (by kernel_rfl) (fun _ _ _ h => h) (Or.inl ⟨by rfl, ?_⟩) (by assumption) ?_
  rotate_left 1
  ·(intro w hS; (try dsimp only at hS); go_simp; try with_reducible rfl)
  (try simp only [Act.put, pX])
  refine wR (rs := [17]) (by kernel_rfl) (by simp) ?_
  refine aC rfl (fun K hK => ?_) aN
  have rc := R.cell
  have rf := R.frozen
  go_simp
  have PF := (((((P.far (p := ⟨w.heap.size + 1, 0, none⟩) (by show w.heap.size ≠ w.heap.size + 1; omega) (.slice B0 d.codes.length e0)).far (p := ⟨w.heap.size + 1, 1, none⟩) (by show w.heap.size ≠ w.heap.size + 1; omega) (.slice B1 d.known.length e1)).far (p := ⟨w.heap.size + 1, 2, none⟩) (by show w.heap.size ≠ w.heap.size + 1; omega) (.slice B2 d.queue.length e2)).far (p := ⟨w.heap.size + 1, 3, none⟩) (by show w.heap.size ≠ w.heap.size + 1; omega) (.slice B3 n3 e3)).far (p := ⟨w.heap.size + 1, 4, none⟩) (by show w.heap.size ≠ w.heap.size + 1; omega) (.slice B4 d.trouble.length e4))
  have EF := ((((((Only.refl (fun b => b = w.heap.size + 1) wi7).setCell (p := ⟨w.heap.size + 1, 0, none⟩) rfl (.slice B0 d.codes.length e0)).setCell (p := ⟨w.heap.size + 1, 1, none⟩) rfl (.slice B1 d.known.length e1)).setCell (p := ⟨w.heap.size + 1, 2, none⟩) rfl (.slice B2 d.queue.length e2)).setCell (p := ⟨w.heap.size + 1, 3, none⟩) rfl (.slice B3 n3 e3)).setCell (p := ⟨w.heap.size + 1, 4, none⟩) rfl (.slice B4 d.trouble.length e4))
  have RF := (((((R.set_ 0 (.slice B0 d.codes.length e0)).set_ 1 (.slice B1 d.known.length e1)).set_ 2 (.slice B2 d.queue.length e2)).set_ 3 (.slice B3 n3 e3)).set_ 4 (.slice B4 d.trouble.length e4))
  refine hK.out _ _ (by exact ⟨PF.cell 0, PF.cell 1, PF.cell 2, PF.cell 3, PF.cell 4⟩) (fun hH => ?_)
  clear hK K rc rf
  refine wD (by kernel_rfl) ?_ _
  go_wp2_with fail
  have zF := EF.size
  replace M0 := M0.only EF (fun b h1 h2 => by have := h1.1; have := h1.2; omega)
  replace M1 := M1.only EF (fun b h1 h2 => by have := h1.1; have := h1.2; omega)
  replace M2 := M2.only EF (fun b h1 h2 => by have := h1.1; have := h1.2; omega)
  replace M3 := M3.only EF (fun b h1 h2 => by rcases q33 b h1 with h5 | h5 <;> omega)
  replace M4 := M4.only EF (fun b h1 h2 => by have := h1.1; have := h1.2; omega)
  refine bodyPost_ret (results_cell_row rfl _ _ (w.heap.size + 1) _ _ (0, 0) _ rfl RF Tryz.underlying28 rfl (by kernel_rfl)) rfl ⟨⟨B0, d.codes.length, e0, B1, d.known.length, e1, B2, d.queue.length, e2, B3, n3, e3, B4, d.trouble.length, e4⟩, rfl, MineD.of5 M0 M1 M2 M3 M4 (fun b h1 => by have := h1.1; have := h1.2; exact ⟨by omega, by omega⟩) (fun b h1 => by have := h1.1; have := h1.2; exact ⟨by omega, by omega⟩) (fun b h1 => by have := h1.1; have := h1.2; exact ⟨by omega, by omega⟩) (fun b h1 => by rcases q33 b h1 with h5 | h5 <;> exact ⟨by omega, by omega⟩) (fun b h1 => by have := h1.1; have := h1.2; exact ⟨by omega, by omega⟩) (fun b h1 h2 => by have := h1.1; have := h1.2; have := h2.1; have := h2.2; omega) (fun b h1 h2 => by have := h1.1; have := h1.2; have := h2.1; have := h2.2; omega) (fun b h1 h2 => by have := h1.1; have := h1.2; rcases q33 b h2 with h5 | h5 <;> omega) (fun b h1 h2 => by have := h1.1; have := h1.2; have := h2.1; have := h2.2; omega) (fun b h1 h2 => by have := h1.1; have := h1.2; have := h2.1; have := h2.2; omega) (fun b h1 h2 => by have := h1.1; have := h1.2; rcases q33 b h2 with h5 | h5 <;> omega) (fun b h1 h2 => by have := h1.1; have := h1.2; have := h2.1; have := h2.2; omega) (fun b h1 h2 => by have := h1.1; have := h1.2; rcases q33 b h2 with h5 | h5 <;> omega) (fun b h1 h2 => by have := h1.1; have := h1.2; have := h2.1; have := h2.2; omega) (fun b h1 h2 => by have := h2.1; have := h2.2; rcases q33 b h1 with h5 | h5 <;> omega), HF.out _ _ _ _ _ _ _ _ _ _, hcap3, mineN_cap M2, ?_⟩
  exact KB7.trans (EF.below (fun k hk => by omega) (by omega))

theorem l25OwnW_any (h : DeskH) (d : DeskV) (w : World) (hs : SeesDesk w 0 h d) (hn : DeskFit 1048576 h d) :
  Calls Tryz.prog 50 #[.agg #[.slice h.A0 h.n0 h.c0, .slice h.A1 h.n1 h.c1, .slice h.A2 h.n2 h.c2, .slice h.A3 h.n3 h.c3, .slice h.A4 h.n4 h.c4]] w (GivesDeskW w d) := (l25OwnN_any h d w hs hn).mono fun _ _ h => h.toW

end Go.Proofs.YtkimlajfhepfgaaGreat

namespace Go.Proofs.YtkimlajfhepfgaaGreat
open Go.RowKit

end Go.Proofs.YtkimlajfhepfgaaGreat

namespace Go.Proofs.YtkimlajfhepfgaaGreat
open Go.RowKit

def deskZ : DeskV := ⟨[], [], [], [], []⟩
/-- A desk in memory of the call's own, or none. -/
def GivesDeskO (w : World) (R : Option DeskV) (e : Ending) (w' : World) : Prop :=
  ∃ H : DeskH, e = .returned (.tuple #[.agg #[.slice H.A0 H.n0 H.c0, .slice H.A1 H.n1 H.c1, .slice H.A2 H.n2 H.c2, .slice H.A3 H.n3 H.c3, .slice H.A4 H.n4 H.c4], .bool R.isSome]) ∧ MineDesk w' (In w.heap.size w'.heap.size) H (R.getD deskZ) ∧ DeskFit 1048576 H (R.getD deskZ) ∧ H.n3 ≤ H.c3 ∧ Below w.heap.size w w'
theorem mine_nil (w : World) (S : Nat → Prop) (t s : Nat) : Mine w S t s none 0 0 [] := ⟨World.ownsRow_nil _ _ _ _, fun b hb => by simp [OwnB, Value.ownBlock] at hb⟩
theorem deskZ_mine (w : World) (S : Nat → Prop) : MineDesk w S ⟨none, 0, 0, none, 0, 0, none, 0, 0, none, 0, 0, none, 0, 0⟩ deskZ :=
  ⟨fun _ => 0, ⟨mine_nil _ _ _ _, mine_nil _ _ _ _, MineO.empty _ _ _ _ _, mine_nil _ _ _ _, MineO.empty _ _ _ _ _⟩⟩
theorem deskZ_fit : DeskFit 1048576 ⟨none, 0, 0, none, 0, 0, none, 0, 0, none, 0, 0, none, 0, 0⟩ deskZ :=
  ⟨by decide, by decide, by decide, by simp [deskZ], by decide, by decide, by simp [deskZ]⟩
theorem givesDO_none {w w' : World} (h : Below w.heap.size w w') : GivesDeskO w none (.returned (.tuple #[.agg #[.slice none 0 0, .slice none 0 0, .slice none 0 0, .slice none 0 0, .slice none 0 0], .bool false])) w' :=
  ⟨⟨none, 0, 0, none, 0, 0, none, 0, 0, none, 0, 0, none, 0, 0⟩, rfl, deskZ_mine _ _, deskZ_fit, Nat.le_refl _, h⟩
def freshD (xs ys : List Int) : DeskV := ⟨xs, ys, [], [], []⟩
theorem finB_cnt {x : Card} (h : finB x = true) : x.punches.length ≤ 12 := by
  unfold finB cardB at h
  simp only [Bool.and_eq_true] at h
  exact (headB_true h.1.1).2.2.2
theorem mineN_empty {α : Type} {sh : Sh α} {w : World} {g t : Nat} (ti : TypeId) (hB : Blk w g t []) : MineN sh w (fun b => b = g) t ti (some ⟨g, 0, none⟩) 0 0 [] :=
  ⟨[], rfl, ⟨⟨hB.own (Nat.zero_le _) (by simp) (by simp [maxLen]), fun b hb => by simpa [OwnB, Value.ownBlock, eq_comm] using hb⟩, Inners.nil _, by simp⟩⟩
theorem mine_empty {w : World} {g t s : Nat} (hB : Blk w g t []) : Mine w (fun b => b = g) t s (some ⟨g, 0, none⟩) 0 0 [] :=
  ⟨hB.own (Nat.zero_le _) (by simp) (by simp [maxLen]), fun b hb => by simpa [OwnB, Value.ownBlock, eq_comm] using hb⟩

set_option maxRecDepth 100000 in
set_option maxHeartbeats 2000000 in
theorem l25NewW_any (A : Option Addr) (n c : Nat) (xs : List Int) (B : Option Addr) (m e : Nat) (ys : List Int) (w : World) (hx : Sees w 0 1 A n (ints xs)) (hn : n ≤ 1048576) (hy : Sees w 0 1 B m (ints ys)) (hm : m ≤ 1048576) :
    Calls Tryz.prog 53 #[.slice A n c, .slice B m e] w (GivesDeskN w (freshD xs ys)) := by
  have K0 : Below w.heap.size w (w.alloc (.cells #[.slice none 0 0, .slice none 0 0, .slice none 0 0, .slice none 0 0, .slice none 0 0] 28)) := (Below.refl _ _).alloc (Nat.le_refl _) _
  have R0 : Blk (w.alloc (.cells #[.slice none 0 0, .slice none 0 0, .slice none 0 0, .slice none 0 0, .slice none 0 0] 28)) w.heap.size 28 [.slice none 0 0, .slice none 0 0, .slice none 0 0, .slice none 0 0, .slice none 0 0] := Blk.at_ rfl
  have hl1 := Lib.hid hx.icount
  have hl2 := Lib.hid hy.icount
  have z0 : w.heap.size + 1 ≤ (w.alloc (.cells #[.slice none 0 0, .slice none 0 0, .slice none 0 0, .slice none 0 0, .slice none 0 0] 28)).heap.size := by simp
  go_enter Tryz.func53, Tryz.ntmps53
  go_wp2_with fail
  generalize (w.alloc (.cells #[.slice none 0 0, .slice none 0 0, .slice none 0 0, .slice none 0 0, .slice none 0 0] 28)) = w0 at *
  refine (l1Own_any A n c 0 xs _ (hx.below K0 (Nat.le_refl _)) hn).mono ?_
  rintro x w1 ⟨A1, c1, rfl, o1, b1⟩
  have K1 := bel_then K0 b1
  have R1 := R0.next b1
  have M1 := Mine.of o1
  have y1 := b1.size
  clear o1 R0
  go_wp2_with fail
  refine (l1Own_any B m e 0 ys _ (hy.below K1 (Nat.le_refl _)) hm).mono ?_
  rintro x w2 ⟨A2, c2, rfl, o2, b2⟩
  have K2 := bel_then K1 b2
  have R2 := R1.next b2
  have N1 := M1.next b2
  have N2 := Mine.of o2
  have y2 := b2.size
  have hz2 := R2.lt
  have U : Below w2.heap.size w2 (((w2.alloc (.cells #[] 31)).alloc (.cells #[] 41)).alloc (.cells #[] 31)) := (((Below.refl _ _).alloc (Nat.le_refl _) _).alloc (by simp) _).alloc (by simp; omega) _
  have K3 := bel_then K2 U
  have R3 := R2.next U
  have P1 := N1.next U
  have P2 := N2.next U
  have Q : Blk (((w2.alloc (.cells #[] 31)).alloc (.cells #[] 41)).alloc (.cells #[] 31)) w2.heap.size 31 [] := ((Blk.at_ rfl).alloc _).alloc _
  have T : Blk (((w2.alloc (.cells #[] 31)).alloc (.cells #[] 41)).alloc (.cells #[] 31)) (w2.heap.size + 1) 41 [] := (Blk.at_ (by simp)).alloc _
  have V : Blk (((w2.alloc (.cells #[] 31)).alloc (.cells #[] 41)).alloc (.cells #[] 31)) (w2.heap.size + 1 + 1) 31 [] := Blk.at_ (by simp)
  have z3 : w2.heap.size + 1 + 1 + 1 ≤ (((w2.alloc (.cells #[] 31)).alloc (.cells #[] 41)).alloc (.cells #[] 31)).heap.size := by simp
  have rc := R2.cell
  have rf := R2.frozen
  have rc3 := R3.cell
  have rf3 := R3.frozen
  clear R1 M1 o2
  go_wp2_with fail
  have RF := (((((R3.set_ 0 (.slice A1 xs.length c1)).set_ 1 (.slice A2 ys.length c2)).set_ 2 (.slice (some ⟨w2.heap.size, 0, none⟩) 0 0)).set_ 3 (.slice (some ⟨w2.heap.size + 1, 0, none⟩) 0 0)).set_ 4 (.slice (some ⟨w2.heap.size + 1 + 1, 0, none⟩) 0 0))
  have E := ((((((Only.refl (fun b => b = w.heap.size) (((w2.alloc (.cells #[] 31)).alloc (.cells #[] 41)).alloc (.cells #[] 31))).setCell (p := ⟨w.heap.size, 0, none⟩) rfl (.slice A1 xs.length c1)).setCell (p := ⟨w.heap.size, 1, none⟩) rfl (.slice A2 ys.length c2)).setCell (p := ⟨w.heap.size, 2, none⟩) rfl (.slice (some ⟨w2.heap.size, 0, none⟩) 0 0)).setCell (p := ⟨w.heap.size, 3, none⟩) rfl (.slice (some ⟨w2.heap.size + 1, 0, none⟩) 0 0)).setCell (p := ⟨w.heap.size, 4, none⟩) rfl (.slice (some ⟨w2.heap.size + 1 + 1, 0, none⟩) 0 0))
  have zF := E.size
  have y0 : w.heap.size + 1 ≤ w0.heap.size := z0
  have X1 := P1.only E (fun b h1 h2 => by have := h1.1; omega)
  have X2 := P2.only E (fun b h1 h2 => by have := h1.1; omega)
  have X3 := (mineN_empty (sh := cardSh) 109 Q).only E (fun b h1 h2 => by omega)
  have X4 := (mine_empty (s := 3) T).only E (fun b h1 h2 => by omega)
  have X5 := (mineN_empty (sh := cardSh) 109 V).only E (fun b h1 h2 => by omega)
  have HFit : DeskFit 1048576 ⟨A1, xs.length, c1, A2, ys.length, c2, some ⟨w2.heap.size, 0, none⟩, 0, 0, some ⟨w2.heap.size + 1, 0, none⟩, 0, 0, some ⟨w2.heap.size + 1 + 1, 0, none⟩, 0, 0⟩ (freshD xs ys) :=
    ⟨by have := hl1.out; show xs.length ≤ _; omega, by have := hl2.out; show ys.length ≤ _; omega, Nat.zero_le _, by simp [freshD], Nat.zero_le _, Nat.zero_le _, by simp [freshD]⟩
  refine bodyPost_ret (results_cell_row rfl _ _ w.heap.size _ _ (0, 0) _ rfl RF Tryz.underlying28 rfl (by kernel_rfl)) rfl ⟨⟨A1, xs.length, c1, A2, ys.length, c2, some ⟨w2.heap.size, 0, none⟩, 0, 0, some ⟨w2.heap.size + 1, 0, none⟩, 0, 0, some ⟨w2.heap.size + 1 + 1, 0, none⟩, 0, 0⟩, rfl,
    MineD.of5 X1 X2 X3 X4 X5 (fun b h1 => by have := h1.1; have := h1.2; exact ⟨by omega, by omega⟩) (fun b h1 => by have := h1.1; have := h1.2; exact ⟨by omega, by omega⟩) (fun b h1 => ⟨by omega, by omega⟩) (fun b h1 => ⟨by omega, by omega⟩) (fun b h1 => ⟨by omega, by omega⟩)
      (fun b h1 h2 => by have := h1.2; have := h2.1; omega) (fun b h1 h2 => by have := h1.2; omega) (fun b h1 h2 => by have := h1.2; omega) (fun b h1 h2 => by have := h1.2; omega) (fun b h1 h2 => by have := h1.2; omega) (fun b h1 h2 => by have := h1.2; omega) (fun b h1 h2 => by have := h1.2; omega) (fun b h1 h2 => by omega) (fun b h1 h2 => by omega) (fun b h1 h2 => by omega), HFit, Nat.le_refl _, Nat.le_refl _, K3.trans (E.below (fun k hk => by omega) (by omega))⟩

end Go.Proofs.YtkimlajfhepfgaaGreat
