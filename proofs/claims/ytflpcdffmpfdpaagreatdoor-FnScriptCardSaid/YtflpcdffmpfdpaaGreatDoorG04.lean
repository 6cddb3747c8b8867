/- Joined texts of this proof: CurRb. -/
import Derived.Test.YtflpcdffmpfdpaaGreatDoorG02
import Derived.Test.YtflpcdffmpfdpaaGreatDoorG03
import Derived.Test.YtflpcdffmpfdpaaGreatDoorB21
import Derived.Test.YtflpcdffmpfdpaaGreatDoorB25
import Derived.Test.YtflpcdffmpfdpaaGreatDoorB02
import Derived.Test.YtflpcdffmpfdpaaGreatDoorW01
set_option maxRecDepth 100000
set_option maxHeartbeats 8000000
namespace Go.Proofs.YtflpcdffmpfdpaaGreatDoor
open Go.RowKit

def jq3 (r : RaceV) : Prop := r.field.length ≤ 8 ∧ ∀ x ∈ r.field, x.cnt ≤ 12
theorem jra {r : RaceV} (h : ja0 r = true) : jq3 r := ⟨(jfx h).2, fun x hx => (jco h x hx).1⟩
def js9 (w : World) (g n : Nat) (e9 : Ending) (w' : World) : Prop := ∃ (r : RaceV) (A : Option Addr) (c : Nat), e9 = .returned (.agg #[r.clock, r.closed, .slice A r.field.length c]) ∧ MineN entrantSh w' (In w.heap.size w'.heap.size) 108 188 A r.field.length c r.field ∧ jq3 r ∧ Cur w' g n ∧ Only (fun b => b = g) w w'
structure RaD (w wr : World) (g gr m lo hi : Nat) (r : RaceV) (A : Option Addr) (c : Nat) : Prop where
 box : Blk wr gr 32 [.int .i64 r.clock, .bool r.closed, .slice A r.field.length c]
 res : Blk wr w.heap.size 32 [.int .i64 0, .bool false, .slice none 0 0]
 mine : MineN entrantSh wr (In lo hi) 108 188 A r.field.length c r.field
 cur : Cur wr g m
 only : Only (fun b => b = g) w wr
 small : jq3 r
 nums : g < w.heap.size ∧ w.heap.size < gr
 rng : w.heap.size < lo ∧ (gr < lo ∨ hi ≤ gr) ∧ hi ≤ wr.heap.size
section
variable {w wr wv : World} {g gr gb m m' lo hi lo2 hi2 c c2 : Nat} {r r2 : RaceV} {A A2 : Option Addr}
theorem RaD.more (h : RaD w wr g gr m lo hi r A c) (hm : m ≤ m') : RaD w wr g gr m' lo hi r A c := { h with cur := h.cur.more hm }
theorem RaD.below (h : RaD w wr g gr m lo hi r A c) (hb : Below wr.heap.size wr wv) : RaD w wv g gr m lo hi r A c := by
 have hz := hb.size
 have hr := h.rng
 exact ⟨h.box.next hb, h.res.next hb, h.mine.next hb, h.cur.next hb, h.only.then_ hb, h.small, h.nums, by omega⟩
theorem RaD.drawn (h : RaD w wr g gr m lo hi r A c) (hc : Cur wv g m') (ho : Only (fun b => b = g) wr wv) : RaD w wv g gr m' lo hi r A c := by
 have hn := h.nums
 have hz := ho.size
 have hr := h.rng
 exact ⟨h.box.only ho (fun (e : _ = _) => by omega), h.res.only ho (fun (e : _ = _) => by omega), h.mine.only ho (fun b h1 (h2 : b = g) => by have := h1.1; omega), hc, h.only.trans ho, h.small, hn, by omega⟩
theorem RaD.other (h : RaD w wr g gr m lo hi r A c) (ho : Only (fun b => b = gb) wr wv) (h1 : hi ≤ gb) (h2 : gb ≠ gr) (h3 : w.heap.size < gb) : RaD w wv g gr m lo hi r A c := by
 have hn := h.nums
 have hz := ho.size
 have hr := h.rng
 have hl := h.cur.lt
 have h4 := h.only
 exact ⟨h.box.only ho (fun (e : _ = _) => by omega), h.res.only ho (fun (e : _ = _) => by omega), h.mine.only ho (fun b h5 (h6 : b = gb) => by have := h5.2; omega), h.cur.keep ho (fun (e : _ = _) => by omega) (fun b (e : _ = _) => by omega), ⟨ho.os.trans h4.os, ho.tape.trans h4.tape, ho.output.trans h4.output, Nat.le_trans h4.size ho.size, fun i hi hS => (ho.block i (Nat.lt_of_lt_of_le hi h4.size) (fun (e : i = gb) => by omega)).trans (h4.block i hi hS)⟩, h.small, hn, by omega⟩
theorem RaD.sees (h : RaD w wr g gr m lo hi r A c) : SeesN entrantSh wr 0 A r.field.length r.field := h.mine.sees
theorem RaD.keeps (h : RaD w wr g gr m lo hi r A c) : ∀ W, Only (fun b => b = g) wr W → SeesN entrantSh W 0 A r.field.length r.field := fun W ho => (h.mine.only ho (fun b h1 (h2 : b = g) => by have := h1.1; have := h.nums; have := h.rng; omega)).sees
def jr6 (W : World) (gr : Nat) (r : RaceV) (A : Option Addr) (c : Nat) : World := ((W.setCell ⟨gr, 0, none⟩ (.int .i64 r.clock)).setCell ⟨gr, 1, none⟩ (.bool r.closed)).setCell ⟨gr, 2, none⟩ (.slice A r.field.length c)
theorem jq6 (W : World) (gr : Nat) (r : RaceV) (A : Option Addr) (c : Nat) : Only (fun b => b = gr) W (jr6 W gr r A c) := jqx (jqx (jqx (Only.refl _ _) 0 _) 1 _) 2 _
theorem jrg (W : World) (gr : Nat) (r : RaceV) (A : Option Addr) (c : Nat) : (jr6 W gr r A c).heap.size = W.heap.size := by simp [jr6, World.setCell]
theorem RaD.put (h : RaD w wr g gr m lo hi r A c) (hm : MineN entrantSh wr (In lo2 hi2) 108 188 A2 r2.field.length c2 r2.field) (h1 : w.heap.size < lo2) (h2 : gr < lo2 ∨ hi2 ≤ gr) (h3 : hi2 ≤ wr.heap.size) (hs : jq3 r2) : RaD w (jr6 wr gr r2 A2 c2) g gr m lo2 hi2 r2 A2 c2 := by
 have hS := jq6 wr gr r2 A2 c2
 have hz := jrg wr gr r2 A2 c2
 have hn := h.nums
 have hle : w.heap.size ≤ gr := Nat.le_of_lt hn.2
 exact ⟨((h.box.set_ 0 (.int .i64 r2.clock)).set_ 1 (.bool r2.closed)).set_ 2 (.slice A2 r2.field.length c2), h.res.only hS (fun (e : _ = _) => by omega), hm.only hS (fun b h4 (h5 : b = gr) => by have := h4.1; have := h4.2; omega), h.cur.keep hS (fun (e : _ = _) => by omega) (fun b (e : _ = _) => by omega), jqw (jqw (jqw h.only hle _) hle _) hle _, hs, hn, h1, h2, by rw [hz]; exact h3⟩
theorem RaD.done (h : RaD w wr g gr m lo hi r A c) (hm : m ≤ m') : js9 w g m' (.returned (.agg #[r.clock, r.closed, .slice A r.field.length c])) (jr6 wr w.heap.size r A c) := by
 have hS := jq6 wr w.heap.size r A c
 have hz := jrg wr w.heap.size r A c
 have hn := h.nums
 have hr := h.rng
 exact ⟨r, A, c, rfl, (h.mine.only hS (fun b h1 (h2 : b = w.heap.size) => by have := h1.1; omega)).wide (fun b h1 => ⟨by have := h1.1; omega, by rw [hz]; have := h1.2; omega⟩), h.small, (h.cur.more hm).keep hS (fun (e : _ = _) => by omega) (fun b (e : _ = _) => by omega), jqw (jqw (jqw h.only (Nat.le_refl _) _) (Nat.le_refl _) _) (Nat.le_refl _) _⟩
theorem RaD.set (h : RaD w wr g gr m lo hi r A c) (i : Nat) (u : Value) (he : ([.int .i64 r.clock, .bool r.closed, .slice A r.field.length c] : List Value).set i u = [.int .i64 r2.clock, .bool r2.closed, .slice A r2.field.length c]) (hf : r2.field = r.field) : RaD w (wr.setCell ⟨gr, i, none⟩ u) g gr m lo hi r2 A c := by
 have hS : Only (fun b => b = gr) wr (wr.setCell ⟨gr, i, none⟩ u) := jqx (Only.refl _ _) i _
 have hz : (wr.setCell ⟨gr, i, none⟩ u).heap.size = wr.heap.size := by simp [World.setCell]
 have hn := h.nums
 have hr := h.rng
 have hm := h.mine
 have hsm := h.small
 unfold jq3 at hsm
 rw [← hf] at hm hsm
 exact ⟨by have := h.box.set_ i u; rwa [he] at this, h.res.only hS (fun (e : _ = _) => by omega), hm.only hS (fun b h4 (h5 : b = gr) => by have := h4.1; have := h4.2; omega), h.cur.keep hS (fun (e : _ = _) => by omega) (fun b (e : _ = _) => by omega), jqw h.only (by show w.heap.size ≤ gr; omega) _, hsm, hn, hr.1, hr.2.1, by rw [hz]; exact hr.2.2⟩
end
theorem js2 {α : Type} {sh : Sh α} {w : World} {g t : Nat} (ti : TypeId) (hB : Blk w g t []) : MineN sh w (fun b => b = g) t ti (some ⟨g, 0, none⟩) 0 0 [] :=
 ⟨[], rfl, ⟨⟨hB.own (Nat.zero_le _) (by simp) (by simp [maxLen]), fun b hb => by simpa [jaj, Value.ownBlock, eq_comm] using hb⟩, Inners.nil _, by simp⟩⟩
def jsk (v : Int) : List Entrant → List Entrant
 | [] => []
 | x :: t => { x with state := v } :: t
theorem jr0 (v : Int) (xs : List Entrant) : (jsk v xs).length = xs.length := by cases xs <;> rfl
theorem jsq {r : RaceV} (h : jq3 r) (v : Int) : jq3 { r with field := jsk v r.field } := by
 obtain ⟨h1, h2⟩ := h
 refine ⟨by show (jsk v r.field).length ≤ 8; rw [jr0]; exact h1, fun y hy => ?_⟩
 have hy2 : y ∈ jsk v r.field := hy
 cases hf : r.field with
 | nil => rw [hf] at hy2; cases hy2
 | cons x t =>
  rw [hf] at hy2 h2
  rcases List.mem_cons.1 hy2 with rfl | h3
  ·exact h2 x List.mem_cons_self
  ·exact h2 y (List.mem_cons_of_mem _ h3)
theorem jr9 {w : World} {S : Nat → Prop} {A : Option Addr} {n c : Nat} {xs : List Entrant} (h : MineN entrantSh w S 108 188 A n c xs) (hn : 0 < n) (v : Int) : ∃ (ga : Nat) (cur : List Value), A = some ⟨ga, 0, none⟩ ∧ S ga ∧ Blk w ga 108 cur ∧ 0 < cur.length ∧ MineN entrantSh (w.setCell ⟨ga, 0, none⟩ (.int .i64 v)) S 108 188 A n c (jsk v xs) := by
 obtain ⟨rs, rfl, MR⟩ := h
 obtain ⟨ga, cur, rfl, hS, C, hcl, hnc, hce⟩ := MR.block hn
 have hk : 0 < rs.length := by rw [MR.count]; exact hn
 have hs5 : entrantSh.s = 5 := rfl
 have hc5 : 5 ≤ cur.length := by rw [hs5] at hnc; omega
 have EF : Only (fun b => b = ga) w (w.setCell ⟨ga, 0, none⟩ (.int .i64 v)) := (Only.refl (fun b => b = ga) w).setCell (p := ⟨ga, 0, none⟩) rfl _
 have CF := C.set_ 0 (.int .i64 v)
 obtain ⟨x, t, rfl⟩ : ∃ x t, rs = x :: t := by cases rs with | nil => simp at hk | cons x t => exact ⟨x, t, rfl⟩
 have MF := MR.turn (k := 0) (y := { x.x with state := v }) C hk rfl EF CF (by simp) (fun j hj => by
  have hj5 : j < 5 := hj
  have h0 := hce 0 j hk hj
  match j, hj5 with
  | 0, _ => exact List.getElem?_set_self (by omega)
  | 1, _ => exact (List.getElem?_set_ne (by omega)).trans h0
  | 2, _ => exact (List.getElem?_set_ne (by omega)).trans h0
  | 3, _ => exact (List.getElem?_set_ne (by omega)).trans h0
  | 4, _ => exact (List.getElem?_set_ne (by omega)).trans h0) (fun j hj => by
  refine List.getElem?_set_ne ?_
  intro e
  exact hj ⟨by omega, by rw [hs5]; omega⟩)
 exact ⟨ga, cur, rfl, hS, C, by omega, ⟨_, rfl, MF⟩⟩
section
variable {w wr wv : World} {g gr ga m lo hi lo2 hi2 c c2 : Nat} {r r2 : RaceV} {A A2 : Option Addr}
theorem RaD.state (h : RaD w wr g gr m lo hi r A c) (h1 : In lo hi ga) (v : Int) (hm : MineN entrantSh (wr.setCell ⟨ga, 0, none⟩ (.int .i64 v)) (In lo hi) 108 188 A r.field.length c (jsk v r.field)) : RaD w (wr.setCell ⟨ga, 0, none⟩ (.int .i64 v)) g gr m lo hi { r with field := jsk v r.field } A c := by
 have hS : Only (fun b => b = ga) wr (wr.setCell ⟨ga, 0, none⟩ (.int .i64 v)) := jqx (Only.refl _ _) 0 _
 have hz : (wr.setCell ⟨ga, 0, none⟩ (.int .i64 v)).heap.size = wr.heap.size := by simp [World.setCell]
 have hn := h.nums
 have hr := h.rng
 have h2 := h1.1
 have h3 := h1.2
 have hb := h.box.only hS (fun (e : _ = _) => by omega)
 have hl := jr0 v r.field
 refine ⟨by show Blk _ gr 32 [.int .i64 r.clock, .bool r.closed, .slice A (jsk v r.field).length c]; rw [hl]; exact hb, h.res.only hS (fun (e : _ = _) => by omega), hm.at hl.symm, h.cur.keep hS (fun (e : _ = _) => by omega) (fun b (e : _ = _) => by omega), jqw h.only (by show w.heap.size ≤ ga; omega) _, jsq h.small v, hn, hr.1, hr.2.1, by rw [hz]; exact hr.2.2⟩
theorem RaD.field (h : RaD w wr g gr m lo hi r A c) (hm : MineN entrantSh wr (In lo2 hi2) 108 188 A2 r2.field.length c2 r2.field) (h1 : w.heap.size < lo2) (h2 : gr < lo2 ∨ hi2 ≤ gr) (h3 : hi2 ≤ wr.heap.size) (hs : jq3 r2) (hc : r2.clock = r.clock) (hd : r2.closed = r.closed) : RaD w (wr.setCell ⟨gr, 2, none⟩ (.slice A2 r2.field.length c2)) g gr m lo2 hi2 r2 A2 c2 := by
 have hS : Only (fun b => b = gr) wr (wr.setCell ⟨gr, 2, none⟩ (.slice A2 r2.field.length c2)) := jqx (Only.refl _ _) 2 _
 have hz : (wr.setCell ⟨gr, 2, none⟩ (.slice A2 r2.field.length c2)).heap.size = wr.heap.size := by simp [World.setCell]
 have hn := h.nums
 exact ⟨by rw [hc, hd]; exact h.box.set_ 2 _, h.res.only hS (fun (e : _ = _) => by omega), hm.only hS (fun b h4 (h5 : b = gr) => by have := h4.1; have := h4.2; omega), h.cur.keep hS (fun (e : _ = _) => by omega) (fun b (e : _ = _) => by omega), jqw h.only (by show w.heap.size ≤ gr; omega) _, hs, hn, h1, h2, by rw [hz]; exact h3⟩
end

theorem jtm (g n : Nat) (w : World) (h : Cur w g n) (hn : n ≤ 800000) : Calls Tryz.prog 109 #[.pointer (some ⟨g, 0, none⟩)] w (js9 w g (n + 900)) := by
 have hg := h.lt
 have U0 := nB w (.cells #[.int .i64 0, false, .slice none 0 0] 32)
 have R0 := nP w [.int .i64 0, false, .slice none 0 0] 32
 have c0 := h.next U0
 have o0 : Only (fun b => b = g) w (w.alloc (.cells #[.int .i64 0, false, .slice none 0 0] 32)) := .of_below U0
 clear U0 h
 go_enter Tryz.func109, Tryz.ntmps109
 go_upto_region 1 with fail
 generalize w.alloc _ = w0 at *
 have l0 := R0.lt
 go_wp2_with fail
 refine (jq0 4 g _ _ c0 (by omega) (by decide) (by decide)).mono ?_
 rintro e9 w1 ⟨a, rfl, ha, c9, o9⟩
 replace R0 := R0.only o9 (fun (e : _ = _) => by omega)
 replace o0 := o0.trans o9
 have ha3 : a ≤ 3 := ha
 clear o9 ha c0 l0
 have hsum : (1 : Int) + (a : Int) = (a : Int) + 1 := by omega
 have hin : inB ((a : Int) + 1) 1 8 = true := by unfold inB; simp; omega
 go_wp2_with fail
 have CN := jr2 ((a : Int) + 1) w1
 unfold jsf at CN
 rw [hin] at CN
 refine CN.mono ?_
 clear CN
 rintro e9 w2 ⟨A, rfl, M, b9⟩
 have hlen : (newR ((a : Int) + 1)).field.length = jru ((a : Int) + 1) := List.length_replicate
 have hgood := jtg hin
 have l1 := R0.lt
 have z2 := b9.size
 have UB := nB w2 (.cells #[.int .i64 0, false, .slice A (jru ((a : Int) + 1)) (jru ((a : Int) + 1))] 32)
 have BX := nP w2 [.int .i64 0, false, .slice A (jru ((a : Int) + 1)) (jru ((a : Int) + 1))] 32
 have hz := nZ w2 (.cells #[.int .i64 0, false, .slice A (jru ((a : Int) + 1)) (jru ((a : Int) + 1))] 32)
 have D : RaD w (w2.alloc (.cells #[.int .i64 0, false, .slice A (jru ((a : Int) + 1)) (jru ((a : Int) + 1))] 32)) g w2.heap.size (n + 2) w1.heap.size w2.heap.size (newR ((a : Int) + 1)) A (jru ((a : Int) + 1)) :=
  ⟨by rw [hlen]; exact BX, (R0.next b9).next UB, by rw [hlen]; exact M.next UB, (c9.next b9).next UB, (o0.then_ b9).then_ UB, jra hgood, ⟨hg, by omega⟩, by omega, by omega, by omega⟩
 clear BX UB M b9 R0 c9 o0 hin hsum
 go_upto_region 2 with fail
 generalize w2.alloc _ = w3 at *
 generalize w2.heap.size = gr at *
 go_wp2_with fail
 refine (jq0 20 g _ _ D.cur (by omega) (by decide) (by decide)).mono ?_
 rintro e9 w4 ⟨j, rfl, hj, c9, o9⟩
 have hj19 : j ≤ 19 := hj
 replace D := D.drawn c9 o9
 clear c9 o9 hj
 go_wp2_with fail
 go_loopw [5] (fun s5 wr => ∃ (j m lo hi : Nat) (r : RaceV) (A : Option Addr) (c : Nat), s5 = .int .i64 (j : Int) ∧ m + 46 * j ≤ n + 4 + 46 * 19 ∧ ja0 r = true ∧ RaD w wr g gr m lo hi r A c) (fun s5 _ => (intOf s5).toNat)
 case atStart => exact ⟨j, _, _, _, _, _, _, rfl, by omega, hgood, D⟩
 case round =>
  clear D hgood hlen
  obtain ⟨j, m, lo, hi, r, A, c, rfl, hm, hgood, D⟩ := hrel
  by_cases hpos : 0 < j
  ·obtain ⟨j, rfl⟩ : ∃ i, j = i + 1 := ⟨j - 1, by omega⟩
   have hpi : (0 : Int) < ((j + 1 : Nat) : Int) := by omega
   have hmm : m + 46 ≤ n + 1000 := by omega
   go_upto_region 5 with fail
   go_cut [6, 7] from 27 to 33 (fun s6 s7 wx => ∃ (R : Option RaceV) (A2 : Option Addr) (c2 gb lo2 hi2 m2 : Nat), s6 = .pointer (some ⟨gb, 0, none⟩) ∧ s7 = .bool R.isSome ∧ Blk wx gb 32 [.int .i64 (R.getD jm4).clock, .bool (R.getD jm4).closed, .slice A2 (R.getD jm4).field.length c2] ∧ MineN entrantSh wx (In lo2 hi2) 108 188 A2 (R.getD jm4).field.length c2 (R.getD jm4).field ∧ (w.heap.size < lo2 ∧ gr < lo2 ∧ hi2 ≤ wx.heap.size) ∧ (∀ r2, R = some r2 → ja0 r2 = true) ∧ m2 ≤ m + 46 ∧ RaD w wx g gr m2 lo hi r A c)
   case first =>
    replace D := D.below ((Quiet.one wr).below _)
    have pc := D.box.cell
    refine wp_region_held_drew (S := fun w' => w'.cell? ⟨gr, 0, none⟩ = some (.int .i64 r.clock) ∧ w'.cell? ⟨gr, 1, none⟩ = some (.bool r.closed) ∧ w'.cell? ⟨gr, 2, none⟩ = some (.slice A r.field.length c)) (by kernel_rfl) (by (try dsimp only); exact ⟨pc 0, pc 1, pc 2⟩) (fun hH => ?_)
    generalize wr.drew = wz at *
    refine wQ 0 ?_
    refine wQ 1 ?_
    refine wQ 2 ?_
    refine wR (rs := [3, 8]) (by kernel_rfl) (by simp) ?_
    refine aC rfl (fun K hK => ?_) ?_
    ·go_simp
     refine (jrh g _ r.clock r.closed A r.field.length c r.field wz D.cur (by omega) D.keeps D.small.1).mono ?_
     rintro e9 w9 ⟨k, e, v, he9, -, -, -, c9, o9⟩
     replace he9 : e9 = .returned (.agg #[k, e, v]) := he9
     subst he9
     have hg9 := D.nums
     try (have hbg := D.cur.lt; replace BX := BX.only o9 (fun (e : _ = _) => by omega))
     have hz9 := o9.size
     replace D := D.drawn c9 o9
     clear c9 o9 pc
     have pc := D.box.cell
     generalize w9 = wz at *
     go_wp2_with fail
     refine hK.out _ _ (by (try dsimp only); exact ⟨pc 0, pc 1, pc 2⟩) (fun hH => ?_)
     clear hK K
     refine wR (rs := [4, 8]) (by kernel_rfl) (by simp) ?_
     refine aC rfl (fun K hK => ?_) ?_
     ·go_simp
      obtain ⟨R, hR⟩ : ∃ R, jdh r k e v = R := ⟨_, rfl⟩
      have CC := jhi r.clock r.closed A r.field.length c r.field k e v wz D.sees (by have := D.small.1; omega) (fun x hx => by have := D.small.2 x hx; omega)
      rw [show (⟨r.clock, r.closed, r.field⟩ : RaceV) = r from rfl, hR] at CC
      have HG := Lib.hid (show ∀ r2, R = some r2 → ja0 r2 = true from fun r2 h2 => je5 (hR.trans h2))
      clear hR
      refine CC.mono ?_
      clear CC
      rintro e9 w9 ⟨A2, c2, he9, M2, b9⟩
      replace he9 : e9 = .returned (.tuple #[.agg #[.int .i64 (R.getD jm4).clock, .bool (R.getD jm4).closed, .slice A2 (R.getD jm4).field.length c2], .bool R.isSome]) := he9
      subst he9
      have hgr := D.box.lt
      have hres := D.res.lt
      try (have hbx := BX.lt; replace BX := BX.next b9)
      replace D := D.below b9
      obtain ⟨lo2, hlo⟩ : ∃ z, wz.heap.size = z := ⟨_, rfl⟩
      obtain ⟨hi2, hhi⟩ : ∃ z, w9.heap.size = z := ⟨_, rfl⟩
      rw [hlo, hhi] at M2
      rw [hlo] at hres hgr
      try rw [hlo] at hbx
      have hhe : hi2 ≤ w9.heap.size := by omega
      clear b9 hlo hhi pc
      have pc := D.box.cell
      generalize w9 = wz at *
      go_wp2_with fail
      refine hK.out _ _ (by (try dsimp only); exact ⟨pc 0, pc 1, pc 2⟩) (fun hH => ?_)
      clear hK K
      refine wQ 5 ?_
      refine wQ 6 ?_
      refine wQ 7 ?_
      refine wR (rs := [8]) (by kernel_rfl) (by simp) ?_
      refine aC rfl (fun K hK => ?_) aN
      go_simp
      refine hK.out _ _ (by (try dsimp only); exact ⟨(D.below ((Below.refl _ _).alloc (Nat.le_refl _) _)).box.cell 0, (D.below ((Below.refl _ _).alloc (Nat.le_refl _) _)).box.cell 1, (D.below ((Below.refl _ _).alloc (Nat.le_refl _) _)).box.cell 2⟩) (fun hH => ?_)
      clear hK K
      try simp only [Act.put, pX]
      have UB := nB wz (.cells #[.int .i64 0, false, .slice none 0 0] 32)
      have BX := nP wz [.int .i64 0, false, .slice none 0 0] 32
      have hbr := D.box.lt
      have hbw := D.res.lt
      have hbh := D.rng.2.2
      replace D := D.below UB
      try (replace M2 := M2.next UB)
      clear UB pc
      have pc := D.box.cell
      generalize wz.alloc _ = wy at *
      generalize wz.heap.size = gb at *
      obtain ⟨wz, rfl⟩ : ∃ z : World, z = wy := ⟨_, rfl⟩
      refine wR (rs := [9]) (by kernel_rfl) (by simp) ?_
      refine aC rfl (fun K hK => ?_) aN
      have bxc := BX.cell
      have bxf := BX.frozen
      go_simp
      refine hK.out _ _ (by (try dsimp only); have D3 := D.other (jq6 wz gb (R.getD jm4) A2 c2) (by omega) (by omega) (by omega); unfold jr6 at D3; exact ⟨D3.box.cell 0, D3.box.cell 1, D3.box.cell 2⟩) (fun hH => ?_)
      clear hK K
      try simp only [Act.put, pX]
      clear bxc bxf
      refine wQ 10 ?_
      refine wD (by kernel_rfl) ?_ _
      have hbl := BX.lt
      have hrg := D.rng
      have F := jq6 wz gb (R.getD jm4) A2 c2
      have hsz := jrg wz gb (R.getD jm4) A2 c2
      have BX2 : Blk (jr6 wz gb (R.getD jm4) A2 c2) gb 32 [.int .i64 (R.getD jm4).clock, .bool (R.getD jm4).closed, .slice A2 (R.getD jm4).field.length c2] := ((BX.set_ 0 (.int .i64 (R.getD jm4).clock)).set_ 1 (.bool (R.getD jm4).closed)).set_ 2 (.slice A2 (R.getD jm4).field.length c2)
      have M3 := M2.only F (fun b h1 (h2 : b = gb) => by have := h1.1; have := h1.2; omega)
      have D3 := D.other F (by omega) (by omega) (by omega)
      clear BX D M2 pc
      have hfin : hi2 ≤ (jr6 wz gb (R.getD jm4) A2 c2).heap.size := by rw [hsz]; omega
      unfold jr6 at *
      go_wp2_with fail
      go_meet
      exact ⟨R, A2, c2, gb, lo2, hi2, _, rfl, rfl, BX2, M3, ⟨by omega, by omega, hfin⟩, HG.out, by omega, D3⟩
     refine aC rfl (fun K hK => ?_) aN
     ·go_simp
      refine hK.out _ _ (by (try dsimp only); exact ⟨(D.below ((Below.refl _ _).alloc (Nat.le_refl _) _)).box.cell 0, (D.below ((Below.refl _ _).alloc (Nat.le_refl _) _)).box.cell 1, (D.below ((Below.refl _ _).alloc (Nat.le_refl _) _)).box.cell 2⟩) (fun hH => ?_)
      clear hK K
      try simp only [Act.put, pX]
      have UB := nB wz (.cells #[.int .i64 0, false, .slice none 0 0] 32)
      have BX := nP wz [.int .i64 0, false, .slice none 0 0] 32
      have hbr := D.box.lt
      have hbw := D.res.lt
      have hbh := D.rng.2.2
      replace D := D.below UB
      try (replace M2 := M2.next UB)
      clear UB pc
      have pc := D.box.cell
      generalize wz.alloc _ = wy at *
      generalize wz.heap.size = gb at *
      obtain ⟨wz, rfl⟩ : ∃ z : World, z = wy := ⟨_, rfl⟩
      refine wR (rs := [4]) (by kernel_rfl) (by simp) ?_
      refine aC rfl (fun K hK => ?_) aN
      go_simp
      obtain ⟨R, hR⟩ : ∃ R, jdh r k e v = R := ⟨_, rfl⟩
      have CC := jhi r.clock r.closed A r.field.length c r.field k e v wz D.sees (by have := D.small.1; omega) (fun x hx => by have := D.small.2 x hx; omega)
      rw [show (⟨r.clock, r.closed, r.field⟩ : RaceV) = r from rfl, hR] at CC
      have HG := Lib.hid (show ∀ r2, R = some r2 → ja0 r2 = true from fun r2 h2 => je5 (hR.trans h2))
      clear hR
      refine CC.mono ?_
      clear CC
      rintro e9 w9 ⟨A2, c2, he9, M2, b9⟩
      replace he9 : e9 = .returned (.tuple #[.agg #[.int .i64 (R.getD jm4).clock, .bool (R.getD jm4).closed, .slice A2 (R.getD jm4).field.length c2], .bool R.isSome]) := he9
      subst he9
      have hgr := D.box.lt
      have hres := D.res.lt
      try (have hbx := BX.lt; replace BX := BX.next b9)
      replace D := D.below b9
      obtain ⟨lo2, hlo⟩ : ∃ z, wz.heap.size = z := ⟨_, rfl⟩
      obtain ⟨hi2, hhi⟩ : ∃ z, w9.heap.size = z := ⟨_, rfl⟩
      rw [hlo, hhi] at M2
      rw [hlo] at hres hgr
      try rw [hlo] at hbx
      have hhe : hi2 ≤ w9.heap.size := by omega
      clear b9 hlo hhi pc
      have pc := D.box.cell
      generalize w9 = wz at *
      go_wp2_with fail
      refine hK.out _ _ (by (try dsimp only); exact ⟨pc 0, pc 1, pc 2⟩) (fun hH => ?_)
      clear hK K
      refine wQ 5 ?_
      refine wQ 6 ?_
      refine wQ 7 ?_
      refine wR (rs := [9]) (by kernel_rfl) (by simp) ?_
      refine aC rfl (fun K hK => ?_) aN
      have bxc := BX.cell
      have bxf := BX.frozen
      go_simp
      refine hK.out _ _ (by (try dsimp only); have D3 := D.other (jq6 wz gb (R.getD jm4) A2 c2) (by omega) (by omega) (by omega); unfold jr6 at D3; exact ⟨D3.box.cell 0, D3.box.cell 1, D3.box.cell 2⟩) (fun hH => ?_)
      clear hK K
      try simp only [Act.put, pX]
      clear bxc bxf
      refine wQ 10 ?_
      refine wD (by kernel_rfl) ?_ _
      have hbl := BX.lt
      have hrg := D.rng
      have F := jq6 wz gb (R.getD jm4) A2 c2
      have hsz := jrg wz gb (R.getD jm4) A2 c2
      have BX2 : Blk (jr6 wz gb (R.getD jm4) A2 c2) gb 32 [.int .i64 (R.getD jm4).clock, .bool (R.getD jm4).closed, .slice A2 (R.getD jm4).field.length c2] := ((BX.set_ 0 (.int .i64 (R.getD jm4).clock)).set_ 1 (.bool (R.getD jm4).closed)).set_ 2 (.slice A2 (R.getD jm4).field.length c2)
      have M3 := M2.only F (fun b h1 (h2 : b = gb) => by have := h1.1; have := h1.2; omega)
      have D3 := D.other F (by omega) (by omega) (by omega)
      clear BX D M2 pc
      have hfin : hi2 ≤ (jr6 wz gb (R.getD jm4) A2 c2).heap.size := by rw [hsz]; omega
      unfold jr6 at *
      go_wp2_with fail
      go_meet
      exact ⟨R, A2, c2, gb, lo2, hi2, _, rfl, rfl, BX2, M3, ⟨by omega, by omega, hfin⟩, HG.out, by omega, D3⟩
    refine aC rfl (fun K hK => ?_) aN
    ·go_simp
     refine hK.out _ _ (by (try dsimp only); exact ⟨(D.below ((Below.refl _ _).alloc (Nat.le_refl _) _)).box.cell 0, (D.below ((Below.refl _ _).alloc (Nat.le_refl _) _)).box.cell 1, (D.below ((Below.refl _ _).alloc (Nat.le_refl _) _)).box.cell 2⟩) (fun hH => ?_)
     clear hK K
     try simp only [Act.put, pX]
     have UB := nB wz (.cells #[.int .i64 0, false, .slice none 0 0] 32)
     have BX := nP wz [.int .i64 0, false, .slice none 0 0] 32
     have hbr := D.box.lt
     have hbw := D.res.lt
     have hbh := D.rng.2.2
     replace D := D.below UB
     try (replace M2 := M2.next UB)
     clear UB pc
     have pc := D.box.cell
     generalize wz.alloc _ = wy at *
     generalize wz.heap.size = gb at *
     obtain ⟨wz, rfl⟩ : ∃ z : World, z = wy := ⟨_, rfl⟩
     refine wR (rs := [3]) (by kernel_rfl) (by simp) ?_
     refine aC rfl (fun K hK => ?_) aN
     go_simp
     refine (jrh g _ r.clock r.closed A r.field.length c r.field wz D.cur (by omega) D.keeps D.small.1).mono ?_
     rintro e9 w9 ⟨k, e, v, he9, -, -, -, c9, o9⟩
     replace he9 : e9 = .returned (.agg #[k, e, v]) := he9
     subst he9
     have hg9 := D.nums
     try (have hbg := D.cur.lt; replace BX := BX.only o9 (fun (e : _ = _) => by omega))
     have hz9 := o9.size
     replace D := D.drawn c9 o9
     clear c9 o9 pc
     have pc := D.box.cell
     generalize w9 = wz at *
     go_wp2_with fail
     refine hK.out _ _ (by (try dsimp only); exact ⟨pc 0, pc 1, pc 2⟩) (fun hH => ?_)
     clear hK K
     refine wR (rs := [4]) (by kernel_rfl) (by simp) ?_
     refine aC rfl (fun K hK => ?_) aN
     go_simp
     obtain ⟨R, hR⟩ : ∃ R, jdh r k e v = R := ⟨_, rfl⟩
     have CC := jhi r.clock r.closed A r.field.length c r.field k e v wz D.sees (by have := D.small.1; omega) (fun x hx => by have := D.small.2 x hx; omega)
     rw [show (⟨r.clock, r.closed, r.field⟩ : RaceV) = r from rfl, hR] at CC
     have HG := Lib.hid (show ∀ r2, R = some r2 → ja0 r2 = true from fun r2 h2 => je5 (hR.trans h2))
     clear hR
     refine CC.mono ?_
     clear CC
     rintro e9 w9 ⟨A2, c2, he9, M2, b9⟩
     replace he9 : e9 = .returned (.tuple #[.agg #[.int .i64 (R.getD jm4).clock, .bool (R.getD jm4).closed, .slice A2 (R.getD jm4).field.length c2], .bool R.isSome]) := he9
     subst he9
     have hgr := D.box.lt
     have hres := D.res.lt
     try (have hbx := BX.lt; replace BX := BX.next b9)
     replace D := D.below b9
     obtain ⟨lo2, hlo⟩ : ∃ z, wz.heap.size = z := ⟨_, rfl⟩
     obtain ⟨hi2, hhi⟩ : ∃ z, w9.heap.size = z := ⟨_, rfl⟩
     rw [hlo, hhi] at M2
     rw [hlo] at hres hgr
     try rw [hlo] at hbx
     have hhe : hi2 ≤ w9.heap.size := by omega
     clear b9 hlo hhi pc
     have pc := D.box.cell
     generalize w9 = wz at *
     go_wp2_with fail
     refine hK.out _ _ (by (try dsimp only); exact ⟨pc 0, pc 1, pc 2⟩) (fun hH => ?_)
     clear hK K
     refine wQ 5 ?_
     refine wQ 6 ?_
     refine wQ 7 ?_
     refine wR (rs := [9]) (by kernel_rfl) (by simp) ?_
     refine aC rfl (fun K hK => ?_) aN
     have bxc := BX.cell
     have bxf := BX.frozen
     go_simp
     refine hK.out _ _ (by (try dsimp only); have D3 := D.other (jq6 wz gb (R.getD jm4) A2 c2) (by omega) (by omega) (by omega); unfold jr6 at D3; exact ⟨D3.box.cell 0, D3.box.cell 1, D3.box.cell 2⟩) (fun hH => ?_)
     clear hK K
     try simp only [Act.put, pX]
     clear bxc bxf
     refine wQ 10 ?_
     refine wD (by kernel_rfl) ?_ _
     have hbl := BX.lt
     have hrg := D.rng
     have F := jq6 wz gb (R.getD jm4) A2 c2
     have hsz := jrg wz gb (R.getD jm4) A2 c2
     have BX2 : Blk (jr6 wz gb (R.getD jm4) A2 c2) gb 32 [.int .i64 (R.getD jm4).clock, .bool (R.getD jm4).closed, .slice A2 (R.getD jm4).field.length c2] := ((BX.set_ 0 (.int .i64 (R.getD jm4).clock)).set_ 1 (.bool (R.getD jm4).closed)).set_ 2 (.slice A2 (R.getD jm4).field.length c2)
     have M3 := M2.only F (fun b h1 (h2 : b = gb) => by have := h1.1; have := h1.2; omega)
     have D3 := D.other F (by omega) (by omega) (by omega)
     clear BX D M2 pc
     have hfin : hi2 ≤ (jr6 wz gb (R.getD jm4) A2 c2).heap.size := by rw [hsz]; omega
     unfold jr6 at *
     go_wp2_with fail
     go_meet
     exact ⟨R, A2, c2, gb, lo2, hi2, _, rfl, rfl, BX2, M3, ⟨by omega, by omega, hfin⟩, HG.out, by omega, D3⟩
   case rest =>
    clear D
    obtain ⟨R, A2, c2, gb, lo2, hi2, m2, rfl, rfl, BX, M2, hb, hG, hm2, D⟩ := hcut
    obtain ⟨w5, rfl⟩ : ∃ w' : World, w' = wc := ⟨_, rfl⟩
    cases R with
    | none =>
     go_wp2_with fail
     go_roundw
     case rel => exact ⟨j, _, _, _, _, _, _, by go_num, by omega, hgood, D⟩
     case measure => simp [intOf] <;> omega
    | some r2 =>
     have hg2 := hG r2 rfl
     have pc := D.box.cell
     have pf := D.box.frozen
     have bc := BX.cell
     have D2 := D.put (r2 := r2) M2 hb.1 (Or.inl hb.2.1) hb.2.2 (jra hg2)
     unfold jr6 at D2
     clear D M2 hG
     go_wp2_with fail
     go_roundw
     case rel => exact ⟨j, _, _, _, _, _, _, by go_num, by omega, hg2, D2⟩
     case measure => simp [intOf] <;> omega
  ·obtain rfl : j = 0 := by omega
   have hpi : ¬ (0 : Int) < ((0 : Nat) : Int) := by omega
   have hm1 : m ≤ n + 878 := by omega
   clear hm hpos
   go_wp2_with fail
   refine (jrf 4 g _ _ D.cur (by omega) (by decide) (by decide)).mono ?_
   rintro e9 w5 ⟨yes, rfl, c9, o9⟩
   replace D := D.drawn c9 o9
   clear c9 o9
   go_upto_if 37 with fail
   go_cut [] from 38 to 61 (fun wr => ∃ (lo hi : Nat) (r : RaceV) (A : Option Addr) (c : Nat), ja0 r = true ∧ RaD w wr g gr (m + 2) lo hi r A c)
   case first =>
    cases yes
    ·go_wp2_with fail
     go_meet
     exact ⟨_, _, _, _, _, hgood, D⟩
    go_wp2_with fail
    go_loopw [8] (fun s8 wr => ∃ (j lo hi : Nat) (r : RaceV) (A : Option Addr) (c : Nat), s8 = .int .i64 (j : Int) ∧ j ≤ 8 ∧ ja0 r = true ∧ RaD w wr g gr (m + 2) lo hi r A c) (fun s8 _ => 9 - (intOf s8).toNat)
    case atStart => exact ⟨0, _, _, _, _, _, rfl, Nat.zero_le _, hgood, D⟩
    case round =>
     clear D hgood
     obtain ⟨j, lo, hi, r, A, c, rfl, hj8, hgood, D⟩ := hrel
     have pc := D.box.cell
     have hsm := D.small.1
     by_cases hlt : j < r.field.length
     ·have hlt1 : (j : Int) < (r.field.length : Int) := by omega
      have CC := jhi r.clock r.closed A r.field.length c r.field 4 (j : Int) 0 _ D.sees (by omega) (fun x hx => by have := D.small.2 x hx; omega)
      rw [show (⟨r.clock, r.closed, r.field⟩ : RaceV) = r from rfl] at CC
      obtain ⟨R, hR⟩ : ∃ R, jdh r 4 (j : Int) 0 = R := ⟨_, rfl⟩
      rw [hR] at CC
      have HG : ∀ r2, R = some r2 → ja0 r2 = true := fun r2 h2 => je5 (hR.trans h2)
      clear hR
      go_wp2_with fail
      refine CC.mono ?_
      clear CC
      rintro e9 w9 ⟨A2, c2, rfl, M2, b9⟩
      have hgr := D.box.lt
      have hre := D.res.lt
      replace D := D.below b9
      have UB := nB w9 (.cells #[.int .i64 (R.getD jm4).clock, .bool (R.getD jm4).closed, .slice A2 (R.getD jm4).field.length c2] 32)
      have BX := nP w9 [.int .i64 (R.getD jm4).clock, .bool (R.getD jm4).closed, .slice A2 (R.getD jm4).field.length c2] 32
      have hzz := UB.size
      replace D := D.below UB
      replace M2 := M2.next UB
      clear UB b9 pc
      go_upto_region 13 with fail
      generalize w9.alloc _ = wb at *
      generalize w9.heap.size = gb at *
      cases R with
      | none =>
       have pc := D.box.cell
       have bc := BX.cell
       go_wp2_with fail
       go_roundw
       case rel => exact ⟨j + 1, _, _, _, _, _, by go_num, by omega, hgood, D⟩
       case measure => simp [intOf] <;> omega
      | some r2 =>
       have hg2 := HG r2 rfl
       have pc := D.box.cell
       have pf := D.box.frozen
       have bc := BX.cell
       have D2 := D.put (r2 := r2) M2 (by omega) (Or.inl (by omega)) (by omega) (jra hg2)
       unfold jr6 at D2
       clear D M2 HG
       go_wp2_with fail
       go_roundw
       case rel => exact ⟨j + 1, _, _, _, _, _, by go_num, by omega, hg2, D2⟩
       case measure => simp [intOf] <;> omega
     ·have hlt1 : ¬ (j : Int) < (r.field.length : Int) := by omega
      have CC := jhi r.clock r.closed A r.field.length c r.field 6 0 0 _ D.sees (by omega) (fun x hx => by have := D.small.2 x hx; omega)
      rw [show (⟨r.clock, r.closed, r.field⟩ : RaceV) = r from rfl] at CC
      obtain ⟨R, hR⟩ : ∃ R, jdh r 6 0 0 = R := ⟨_, rfl⟩
      rw [hR] at CC
      have HG : ∀ r2, R = some r2 → ja0 r2 = true := fun r2 h2 => je5 (hR.trans h2)
      clear hR
      go_wp2_with fail
      refine CC.mono ?_
      clear CC
      rintro e9 w9 ⟨A2, c2, rfl, M2, b9⟩
      have hgr := D.box.lt
      have hre := D.res.lt
      replace D := D.below b9
      have UB := nB w9 (.cells #[.int .i64 (R.getD jm4).clock, .bool (R.getD jm4).closed, .slice A2 (R.getD jm4).field.length c2] 32)
      have BX := nP w9 [.int .i64 (R.getD jm4).clock, .bool (R.getD jm4).closed, .slice A2 (R.getD jm4).field.length c2] 32
      have hzz := UB.size
      replace D := D.below UB
      replace M2 := M2.next UB
      clear UB b9 pc
      go_upto_region 16 with fail
      generalize w9.alloc _ = wb at *
      generalize w9.heap.size = gb at *
      cases R with
      | none =>
       have pc := D.box.cell
       have bc := BX.cell
       go_wp2_with fail
       go_meet
       exact ⟨_, _, _, _, _, hgood, D⟩
      | some r2 =>
       have hg2 := HG r2 rfl
       have pc := D.box.cell
       have pf := D.box.frozen
       have bc := BX.cell
       have D2 := D.put (r2 := r2) M2 (by omega) (Or.inl (by omega)) (by omega) (jra hg2)
       unfold jr6 at D2
       clear D M2 HG
       go_wp2_with fail
       go_meet
       exact ⟨_, _, _, _, _, hg2, D2⟩
   case rest =>
    clear D hgood
    obtain ⟨lo, hi, r, A, c, hgood, D⟩ := hcut
    obtain ⟨w6, rfl⟩ : ∃ w' : World, w' = wc := ⟨_, rfl⟩
    have hpos := (jfx hgood).1
    clear hgood
    go_wp2_with fail
    refine (jq0 32 g _ _ D.cur (by omega) (by decide) (by decide)).mono ?_
    rintro e9 w7 ⟨q, rfl, -, c9, o9⟩
    replace D := D.drawn c9 o9
    clear c9 o9
    go_upto_block 4 with fail
    go_cut [] from 65 to 88 (fun wr => ∃ (lo hi : Nat) (r : RaceV) (A : Option Addr) (c : Nat), RaD w wr g gr (m + 8) lo hi r A c)
    case first =>
     by_cases q0 : q = 0
     ·subst q0
      have UA := nB w7 (.cells #[.int .i64 (-1), .int .i64 0, .int .i64 36001] 3)
      have BL : Blk (w7.alloc (.cells #[.int .i64 (-1), .int .i64 0, .int .i64 36001] 3)) w7.heap.size 3 (jb4 [-1, 0, 36001]) := Blk.at_ rfl
      have DA := D.below UA
      have hgl := D.cur.lt
      go_wp2_with fail
      refine (jq5 g _ w7.heap.size 3 3 [-1, 0, 36001] _ BL (by omega) DA.cur (by omega) rfl (by decide) (by decide)).mono ?_
      rintro e9 w9 ⟨x, rfl, -, c9, o9⟩
      have D2 := DA.drawn c9 o9
      clear UA BL DA c9 o9 hgl D
      have bc := D2.box.cell
      have bf := D2.box.frozen
      have D3 := D2.set 0 (.int .i64 x) (r2 := { r with clock := x }) rfl rfl
      go_wp2_with fail
      go_meet
      exact ⟨_, _, _, _, _, D3.more (by omega)⟩
     by_cases q1 : q = 1
     ·subst q1
      have bc := D.box.cell
      have bf := D.box.frozen
      have D3 := D.set 1 (.bool (!r.closed)) (r2 := { r with closed := !r.closed }) rfl rfl
      go_wp2_with fail
      go_meet
      exact ⟨_, _, _, _, _, D3.more (by omega)⟩
     by_cases q2 : q = 2
     ·subst q2
      have hp0 : 0 < r.field.length := by omega
      obtain ⟨ga, cur0, hA, hIn, -, -, -⟩ := jr9 D.mine (by omega) 0
      subst hA
      go_upto_region 24 with fail
      replace D := D.below ((Quiet.one w7).below _)
      have pc := D.box.cell
      refine wp_region_held_drew (S := fun w' => w'.cell? ⟨gr, 0, none⟩ = some (.int .i64 r.clock) ∧ w'.cell? ⟨gr, 1, none⟩ = some (.bool r.closed) ∧ w'.cell? ⟨gr, 2, none⟩ = some (.slice (some ⟨ga, 0, none⟩) r.field.length c)) (by kernel_rfl) (by (try dsimp only); exact ⟨pc 0, pc 1, pc 2⟩) (fun hH => ?_)
      generalize w7.drew = wz at *
      refine wQ 0 ?_
      refine wQ 1 ?_
      refine wQ 2 ?_
      refine wR (rs := [3]) (by kernel_rfl) (by simp) ?_
      refine aC rfl (fun K hK => ?_) aN
      go_simp
      refine hK.out _ _ (by (try dsimp only); exact ⟨(D.below ((Below.refl _ _).alloc (Nat.le_refl _) _)).box.cell 0, (D.below ((Below.refl _ _).alloc (Nat.le_refl _) _)).box.cell 1, (D.below ((Below.refl _ _).alloc (Nat.le_refl _) _)).box.cell 2⟩) (fun hH => ?_)
      clear hK K
      try simp only [Act.put, pX]
      have UB := nB wz (.cells #[.int .i64 (-1), .int .i64 0, .int .i64 1, .int .i64 2, .int .i64 5] 3)
      have BL : Blk (wz.alloc (.cells #[.int .i64 (-1), .int .i64 0, .int .i64 1, .int .i64 2, .int .i64 5] 3)) wz.heap.size 3 (jb4 [-1, 0, 1, 2, 5]) := Blk.at_ rfl
      have hgl := D.cur.lt
      replace D := D.below UB
      clear UB pc
      have pc := D.box.cell
      generalize wz.alloc _ = wy at *
      generalize wz.heap.size = gl at *
      obtain ⟨wz, rfl⟩ : ∃ z : World, z = wy := ⟨_, rfl⟩
      refine wR (rs := [4]) (by kernel_rfl) (by simp) ?_
      refine aC rfl (fun K hK => ?_) aN
      go_simp
      refine (jq5 g _ gl 5 3 [-1, 0, 1, 2, 5] wz BL (by omega) D.cur (by omega) rfl (by decide) (by decide)).mono ?_
      rintro e9 w9 ⟨x, he9, -, c9, o9⟩
      replace he9 : e9 = .returned (.int .i64 x) := he9
      subst he9
      replace D := D.drawn c9 o9
      clear c9 o9 pc BL
      have pc := D.box.cell
      generalize w9 = wz at *
      go_wp2_with fail
      refine hK.out _ _ (by (try dsimp only); exact ⟨pc 0, pc 1, pc 2⟩) (fun hH => ?_)
      clear hK K
      refine wQ 5 ?_
      refine wQ 6 ?_
      refine wR (rs := [7]) (by kernel_rfl) (by simp) ?_
      refine aC rfl (fun K hK => ?_) aN
      obtain ⟨ga2, cur, hA2, -, CC, hcl, MS⟩ := jr9 D.mine (by omega) x
      injection hA2 with hA2
      injection hA2 with hA2 _ _
      subst hA2
      have cc := CC.cell
      have cf := CC.frozen
      have c0 : wz.cell? ⟨ga, 0, none⟩ = some cur[0] := (cc 0).trans (List.getElem?_eq_getElem hcl)
      clear cc
      go_simp
      refine hK.out _ _ (by (try dsimp only); exact ⟨(D.state hIn x MS).box.cell 0, (D.state hIn x MS).box.cell 1, by have h9 := (D.state hIn x MS).box.cell 2; simp only [jr0] at h9; exact h9⟩) (fun hH => ?_)
      clear hK K
      try simp only [Act.put, pX]
      clear CC cf
      refine wD (by kernel_rfl) ?_ _
      have D3 := D.state hIn x MS
      go_wp2_with fail
      go_meet
      exact ⟨_, _, _, _, _, D3.more (by omega)⟩
     by_cases q3 : q = 3
     ·subst q3
      have UB := nB w7 (.cells #[] 108)
      have BE := nP w7 [] 108
      have hre := D.res.lt
      have D2 := D.below UB
      have ME := (js2 (sh := entrantSh) 188 BE).wide (T := In w7.heap.size (w7.heap.size + 1)) (fun b (hb : b = _) => by subst hb; exact ⟨Nat.le_refl _, Nat.lt_succ_self _⟩)
      have D3 := D2.field (r2 := { r with field := [] }) ME hre (Or.inl D.box.lt) (by simp) ⟨Nat.zero_le _, fun x hx => by cases hx⟩ rfl rfl
      have bc := D2.box.cell
      have bf := D2.box.frozen
      clear D D2 ME BE UB
      go_wp2_with fail
      go_meet
      exact ⟨_, _, _, _, _, D3.more (by omega)⟩
     have e0 : ((q : Int) == 0) = false := beq_eq_false_iff_ne.2 (by omega)
     have e1 : ((q : Int) == 1) = false := beq_eq_false_iff_ne.2 (by omega)
     have e2 : ((q : Int) == 2) = false := beq_eq_false_iff_ne.2 (by omega)
     have e3 : ((q : Int) == 3) = false := beq_eq_false_iff_ne.2 (by omega)
     go_wp2_with fail
     go_meet
     exact ⟨_, _, _, _, _, D.more (by omega)⟩
    case rest =>
     clear D hpos
     obtain ⟨lo, hi, r, A, c, D⟩ := hcut
     obtain ⟨w8, rfl⟩ : ∃ w' : World, w' = wc := ⟨_, rfl⟩
     have pc := D.box.cell
     have rf := D.res.frozen
     have rc := D.res.cell
     have hne := D.nums
     go_wp2_with fail
     refine bodyPost_ret (v := .agg #[r.clock, r.closed, .slice A r.field.length c]) (by simp [results, Tryz.results109, go_sem, rc]) rfl ?_
     have h9 := D.done (m' := n + 900) (by omega)
     unfold jr6 at h9
     exact h9

end Go.Proofs.YtflpcdffmpfdpaaGreatDoor
