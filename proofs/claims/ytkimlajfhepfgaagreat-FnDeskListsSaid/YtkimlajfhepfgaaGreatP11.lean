/- Joined texts of this proof: CurDk. -/
import Derived.Test.YtkimlajfhepfgaaGreatP07
import Derived.Test.YtkimlajfhepfgaaGreatP10
namespace Go.Proofs.YtkimlajfhepfgaaGreat
open Go.RowKit

theorem DeskFit.mono {t u : Nat} {h : DeskH} {d : DeskV} (x : DeskFit t h d) (h1 : t ≤ u) : DeskFit u h d :=
 ⟨Nat.le_trans x.n0 h1, Nat.le_trans x.n1 h1, Nat.le_trans x.n2 h1, fun c hc => Nat.le_trans (x.k2 c hc) h1, Nat.le_trans x.n3 h1, Nat.le_trans x.n4 h1, fun c hc => Nat.le_trans (x.k4 c hc) h1⟩
theorem deskB_codes {d : DeskV} (h : deskB d = true) : d.codes.length ≤ 12 := by
 unfold deskB topB at h
 simp only [Bool.and_eq_true] at h
 have := h.1.1.1.1.1.1
 unfold codesB at this
 simp only [Bool.and_eq_true, decide_eq_true_eq] at this
 exact this.1
/-- A desk that is being drawn: in block gd; its slices are the call's own and older than z. -/
structure DeskD (w wr : World) (g gd m z : Nat) (H : DeskH) (d : DeskV) : Prop where
 box : Blk wr gd 28 [.slice H.A0 H.n0 H.c0, .slice H.A1 H.n1 H.c1, .slice H.A2 H.n2 H.c2, .slice H.A3 H.n3 H.c3, .slice H.A4 H.n4 H.c4]
 res : Blk wr w.heap.size 28 [.slice none 0 0, .slice none 0 0, .slice none 0 0, .slice none 0 0, .slice none 0 0]
 mine : MineW wr (fun b => w.heap.size < b ∧ b ≠ gd ∧ b < z) H d
 fit : DeskFit 1000 H d
 codes : H.n0 ≤ 14
 cap : H.n3 ≤ H.c3
 cur : Cur wr g m
 only : Only (fun b => b = g) w wr
 nums : g < w.heap.size ∧ w.heap.size < gd ∧ z ≤ wr.heap.size
/-- The same, only seen. -/
structure DeskS (w wr : World) (g gd m : Nat) (H : DeskH) (d : DeskV) : Prop where
 box : Blk wr gd 28 [.slice H.A0 H.n0 H.c0, .slice H.A1 H.n1 H.c1, .slice H.A2 H.n2 H.c2, .slice H.A3 H.n3 H.c3, .slice H.A4 H.n4 H.c4]
 res : Blk wr w.heap.size 28 [.slice none 0 0, .slice none 0 0, .slice none 0 0, .slice none 0 0, .slice none 0 0]
 sees : SeesDesk wr (w.heap.size + 1) H d
 fit : DeskFit 2000 H d
 codes : H.n0 ≤ 14
 cap : H.n3 ≤ H.c3
 cur : Cur wr g m
 only : Only (fun b => b = g) w wr
 nums : g < w.heap.size ∧ w.heap.size < gd
section
variable {w wr wv w4 : World} {g gd m m' z : Nat} {H : DeskH} {d : DeskV}
theorem DeskD.toS (q : DeskD w wr g gd m z H d) (hm : m ≤ m') : DeskS w wr g gd m' H d :=
 ⟨q.box, q.res, q.mine.desk.seesB (fun _ hb => hb.1), q.fit.mono (by decide), q.codes, q.cap, q.cur.more hm, q.only, q.nums.1, q.nums.2.1⟩
theorem DeskD.more (q : DeskD w wr g gd m z H d) (hm : m ≤ m') : DeskD w wr g gd m' z H d := { q with cur := q.cur.more hm }
theorem DeskD.up (q : DeskD w wr g gd m z H d) : DeskD w wr g gd m wr.heap.size H d :=
 { q with mine := q.mine.wide (fun _ hb => ⟨hb.1, hb.2.1, Nat.lt_of_lt_of_le hb.2.2 q.nums.2.2⟩), nums := ⟨q.nums.1, q.nums.2.1, Nat.le_refl _⟩ }
theorem DeskD.below (q : DeskD w wr g gd m z H d) (hb : Below wr.heap.size wr wv) : DeskD w wv g gd m z H d :=
 ⟨q.box.next hb, q.res.next hb, q.mine.next hb, q.fit, q.codes, q.cap, q.cur.next hb, q.only.then_ hb, q.nums.1, q.nums.2.1, Nat.le_trans q.nums.2.2 hb.size⟩
theorem DeskD.drawn (q : DeskD w wr g gd m z H d) (hc : Cur wv g m') (ho : Only (fun b => b = g) wr wv) : DeskD w wv g gd m' z H d := by
 have hn := q.nums
 exact ⟨q.box.only ho (fun (e : _ = _) => by omega), q.res.only ho (fun (e : _ = _) => by omega), q.mine.only ho (fun b h1 (e : _ = _) => by have := h1.1; omega), q.fit, q.codes, q.cap, hc, q.only.trans ho, hn.1, hn.2.1, Nat.le_trans hn.2.2 ho.size⟩
/-- A block gx, made later, is written. -/
theorem DeskD.far {gx : Nat} (q : DeskD w wr g gd m z H d) (ho : Only (fun b => b = gx) wr wv) (hx : z ≤ gx ∧ gd < gx) : DeskD w wv g gd m z H d := by
 have hn := q.nums
 have ho2 : Only (fun b => b = g) w wv := ⟨ho.os.trans q.only.os, ho.tape.trans q.only.tape, ho.output.trans q.only.output, Nat.le_trans q.only.size ho.size, fun i hi hS => (ho.block i (Nat.lt_of_lt_of_le hi q.only.size) (fun (e : _ = _) => by omega)).trans (q.only.block i hi hS)⟩
 exact ⟨q.box.only ho (fun (e : _ = _) => by omega), q.res.only ho (fun (e : _ = _) => by omega), q.mine.only ho (fun b h1 (e : _ = _) => by have := h1.2.2; omega), q.fit, q.codes, q.cap, q.cur.keep ho (fun (e : _ = _) => by omega) (fun b (e : _ = _) => by omega), ho2, hn.1, hn.2.1, Nat.le_trans hn.2.2 ho.size⟩
/-- Another desk is stored. -/
theorem DeskD.turn {H2 : DeskH} {d2 : DeskV} {gx : Nat} (q : DeskD w wr g gd m z H d) (m2 : MineW wr (fun b => w.heap.size < b ∧ b ≠ gd ∧ b ≠ gx ∧ b < wr.heap.size) H2 d2) (f2 : DeskFit 1000 H2 d2) (k2 : H2.n0 ≤ 14) (c2 : H2.n3 ≤ H2.c3) :
  DeskD w ((((((wr.setCell ⟨gd, 0, none⟩ (.slice H2.A0 H2.n0 H2.c0)).setCell ⟨gd, 1, none⟩ (.slice H2.A1 H2.n1 H2.c1)).setCell ⟨gd, 2, none⟩ (.slice H2.A2 H2.n2 H2.c2)).setCell ⟨gd, 3, none⟩ (.slice H2.A3 H2.n3 H2.c3)).setCell ⟨gd, 4, none⟩ (.slice H2.A4 H2.n4 H2.c4))) g gd m wr.heap.size H2 d2 := by
 have hn := q.nums
 have hS : Only (fun b => b = gd) wr ((((((wr.setCell ⟨gd, 0, none⟩ (.slice H2.A0 H2.n0 H2.c0)).setCell ⟨gd, 1, none⟩ (.slice H2.A1 H2.n1 H2.c1)).setCell ⟨gd, 2, none⟩ (.slice H2.A2 H2.n2 H2.c2)).setCell ⟨gd, 3, none⟩ (.slice H2.A3 H2.n3 H2.c3)).setCell ⟨gd, 4, none⟩ (.slice H2.A4 H2.n4 H2.c4))) := only_set (only_set (only_set (only_set (only_set (Only.refl _ _) 0 _) 1 _) 2 _) 3 _) 4 _
 have hle : w.heap.size ≤ gd := by omega
 refine ⟨((((q.box.set_ 0 _).set_ 1 _).set_ 2 _).set_ 3 _).set_ 4 _, q.res.only hS (fun (e : _ = _) => by omega), (m2.only hS (fun _ h1 (e : _ = _) => h1.2.1 e)).wide (fun b hb => ⟨hb.1, hb.2.1, hb.2.2.2⟩), f2, k2, c2, q.cur.keep hS (fun (e : _ = _) => by omega) (fun b (e : _ = _) => by omega), only_new (only_new (only_new (only_new (only_new q.only hle _) hle _) hle _) hle _) hle _, hn.1, hn.2.1, hS.size⟩
theorem own_sees {t s n c lo : Nat} {A : Option Addr} {cs cs' : List Value} {B : Nat} (h : wr.ownsRow B t s (.slice A n c) n cs) (hl : ∀ b, OwnB A b → lo ≤ b) (he : cs = cs' := by rfl) : Sees wr lo s A n cs' := by
 subst he
 exact (⟨own_base h (Nat.zero_le _), hl⟩ : Mine wr (fun b => lo ≤ b) t s A n c cs).seesB (fun b hb => hb)
theorem mineN_top {α : Type} {sh : Sh α} {S : Nat → Prop} {t ti n c : Nat} {A : Option Addr} {xs : List α} (h : MineN sh wr S t ti A n c xs) : ∀ b, OwnB A b → S b := by
 obtain ⟨rs, _, h⟩ := h
 exact h.outer.top

theorem DeskD.known {A6 : Option Addr} {c6 : Nat} {x : Int}  (q : DeskD w wr g gd m z H d) (o6 : w4.ownsRow 0 3 1 (.slice A6 (H.n1 + 1) c6) (H.n1 + 1) (ints d.known ++ [.int .i64 x])) (h4 : Only (OwnB H.A1) wr w4) (q4 : ∀ b, OwnB A6 b → OwnB H.A1 b ∨ wr.heap.size ≤ b) (hm : m ≤ m') :
  DeskS w (w4.setCell ⟨gd, 1, none⟩ (.slice A6 (H.n1 + 1) c6)) g gd m' ⟨H.A0, H.n0, H.c0, A6, H.n1 + 1, c6, H.A2, H.n2, H.c2, H.A3, H.n3, H.c3, H.A4, H.n4, H.c4⟩ { d with known := d.known ++ [x] } := by
 have hn := q.nums
 have hgl := q.box.lt
 obtain ⟨col, M⟩ := q.mine
 have top : ∀ b, OwnB H.A1 b → w.heap.size < b ∧ b ≠ gd ∧ b < z := fun b hb => (M.f1.top b hb).1
 have far6 : ∀ b, OwnB A6 b → w.heap.size + 1 ≤ b ∧ b ≠ gd := fun b hb => by
  rcases q4 b hb with h5 | h5
  ·have := top b h5; exact ⟨by omega, this.2.1⟩
  ·exact ⟨by omega, by omega⟩
 have hS : Only (fun b => b = gd) w4 (w4.setCell ⟨gd, 1, none⟩ (.slice A6 (H.n1 + 1) c6)) := only_set (Only.refl _ _) 1 _
 have hle : w.heap.size ≤ gd := by omega
 have box4 := q.box.only h4 (fun hb => (top _ hb).2.1 rfl)
 have w4o : Only (fun b => b = g) w w4 := ⟨h4.os.trans q.only.os, h4.tape.trans q.only.tape, h4.output.trans q.only.output, Nat.le_trans q.only.size h4.size, fun i hi hS => (h4.block i (Nat.lt_of_lt_of_le hi q.only.size) (fun hb => by have := (top _ hb).1; omega)).trans (q.only.block i hi hS)⟩
 have c4 := q.cur.keep h4 (fun hb => by have := (top _ hb).1; omega) (fun b hb => by have := (top _ hb).1; omega)
 exact ⟨box4.set_ 1 _, (q.res.only h4 (fun hb => by have := (top _ hb).1; omega)).only hS (fun (e : _ = _) => by omega), ⟨((M.f0.only h4 (fun b h1 h2 => Hue.apart (by decide : 0 ≠ 1) b h1 (M.f1.top b h2))).only hS (fun b h1 (e : _ = _) => h1.1.2.1 e)).seesB (fun b hb => hb.1.1),
  own_sees (own_only o6 hS (fun b hb (e : _ = _) => (far6 b hb).2 e)) (fun b hb => (far6 b hb).1) (by simp [ints]),
  ((M.f2.only h4 (fun b h1 h2 => Hue.apart (by decide : 2 ≠ 1) b h1 (M.f1.top b h2))).only hS (fun b h1 (e : _ = _) => h1.1.2.1 e)).seesB (fun b hb => hb.1.1),
  ((M.f3.only h4 (fun b h1 h2 => Hue.apart (by decide : 3 ≠ 1) b h1 (M.f1.top b h2))).only hS (fun b h1 (e : _ = _) => h1.1.2.1 e)).seesB (fun b hb => hb.1.1),
  (((MineO.of M.f4).only h4 (fun b h1 h2 => Hue.apart (by decide : 4 ≠ 1) b h1 (M.f1.top b h2))).only hS (fun b h1 (e : _ = _) => h1.1.2.1 e)).seesB (fun b hb => hb.1.1)⟩,
  ⟨by have := q.fit.n0; dsimp only; omega,
  by have := q.fit.n1; dsimp only; omega,
  by have := q.fit.n2; dsimp only; omega,
  fun c hc => Nat.le_trans (q.fit.k2 c hc) (by decide),
  by have := q.fit.n3; dsimp only; omega,
  by have := q.fit.n4; dsimp only; omega,
  fun c hc => Nat.le_trans (q.fit.k4 c hc) (by decide)⟩, q.codes, q.cap, (c4.keep hS (fun (e : _ = _) => by omega) (fun b (e : _ = _) => by omega)).more hm, only_new w4o hle _, hn.1, hn.2.1⟩

theorem DeskD.row {A6 : Option Addr} {c6 : Nat} {x : DeskRow}  (q : DeskD w wr g gd m z H d) (o6 : w4.ownsRow 0 41 3 (.slice A6 (H.n3 + 1) c6) (H.n3 + 1) (d.done.flatMap DeskRow.enc ++ x.enc)) (h4 : Only (OwnB H.A3) wr w4) (q4 : ∀ b, OwnB A6 b → OwnB H.A3 b ∨ wr.heap.size ≤ b) (hm : m ≤ m') :
  DeskS w (w4.setCell ⟨gd, 3, none⟩ (.slice A6 (H.n3 + 1) c6)) g gd m' ⟨H.A0, H.n0, H.c0, H.A1, H.n1, H.c1, H.A2, H.n2, H.c2, A6, H.n3 + 1, c6, H.A4, H.n4, H.c4⟩ { d with done := d.done ++ [x] } := by
 have hn := q.nums
 have hgl := q.box.lt
 obtain ⟨col, M⟩ := q.mine
 have top : ∀ b, OwnB H.A3 b → w.heap.size < b ∧ b ≠ gd ∧ b < z := fun b hb => (M.f3.top b hb).1
 have far6 : ∀ b, OwnB A6 b → w.heap.size + 1 ≤ b ∧ b ≠ gd := fun b hb => by
  rcases q4 b hb with h5 | h5
  ·have := top b h5; exact ⟨by omega, this.2.1⟩
  ·exact ⟨by omega, by omega⟩
 have hS : Only (fun b => b = gd) w4 (w4.setCell ⟨gd, 3, none⟩ (.slice A6 (H.n3 + 1) c6)) := only_set (Only.refl _ _) 3 _
 have hle : w.heap.size ≤ gd := by omega
 have box4 := q.box.only h4 (fun hb => (top _ hb).2.1 rfl)
 have w4o : Only (fun b => b = g) w w4 := ⟨h4.os.trans q.only.os, h4.tape.trans q.only.tape, h4.output.trans q.only.output, Nat.le_trans q.only.size h4.size, fun i hi hS => (h4.block i (Nat.lt_of_lt_of_le hi q.only.size) (fun hb => by have := (top _ hb).1; omega)).trans (q.only.block i hi hS)⟩
 have c4 := q.cur.keep h4 (fun hb => by have := (top _ hb).1; omega) (fun b hb => by have := (top _ hb).1; omega)
 exact ⟨box4.set_ 3 _, (q.res.only h4 (fun hb => by have := (top _ hb).1; omega)).only hS (fun (e : _ = _) => by omega), ⟨((M.f0.only h4 (fun b h1 h2 => Hue.apart (by decide : 0 ≠ 3) b h1 (M.f3.top b h2))).only hS (fun b h1 (e : _ = _) => h1.1.2.1 e)).seesB (fun b hb => hb.1.1),
  ((M.f1.only h4 (fun b h1 h2 => Hue.apart (by decide : 1 ≠ 3) b h1 (M.f3.top b h2))).only hS (fun b h1 (e : _ = _) => h1.1.2.1 e)).seesB (fun b hb => hb.1.1),
  ((M.f2.only h4 (fun b h1 h2 => Hue.apart (by decide : 2 ≠ 3) b h1 (M.f3.top b h2))).only hS (fun b h1 (e : _ = _) => h1.1.2.1 e)).seesB (fun b hb => hb.1.1),
  own_sees (own_only o6 hS (fun b hb (e : _ = _) => (far6 b hb).2 e)) (fun b hb => (far6 b hb).1) (by rw [List.flatMap_append, List.flatMap_singleton]),
  (((MineO.of M.f4).only h4 (fun b h1 h2 => Hue.apart (by decide : 4 ≠ 3) b h1 (M.f3.top b h2))).only hS (fun b h1 (e : _ = _) => h1.1.2.1 e)).seesB (fun b hb => hb.1.1)⟩,
  ⟨by have := q.fit.n0; dsimp only; omega,
  by have := q.fit.n1; dsimp only; omega,
  by have := q.fit.n2; dsimp only; omega,
  fun c hc => Nat.le_trans (q.fit.k2 c hc) (by decide),
  by have := q.fit.n3; dsimp only; omega,
  by have := q.fit.n4; dsimp only; omega,
  fun c hc => Nat.le_trans (q.fit.k4 c hc) (by decide)⟩, q.codes, own_cap o6, (c4.keep hS (fun (e : _ = _) => by omega) (fun b (e : _ = _) => by omega)).more hm, only_new w4o hle _, hn.1, hn.2.1⟩

theorem DeskD.card {A6 : Option Addr} {c6 : Nat}  {rs : List (Hd Card)} (hrs : rs.map Hd.x = d.trouble) (hin : ∀ r ∈ rs, Sees wr (w.heap.size + 1) 2 r.A r.n (r.x.punches.flatMap Punch.enc) ∧ ∀ b, OwnB r.A b → b ≠ gd ∧ ¬ OwnB H.A4 b) (q : DeskD w wr g gd m z H d) (o6 : w4.ownsRow 0 31 4 (.slice A6 (H.n4 + 1) c6) (H.n4 + 1) (rs.flatMap cardSh.enc ++ [.int .i64 0, .int .i64 0, .int .i64 0, .slice none 0 0])) (h4 : Only (OwnB H.A4) wr w4) (q4 : ∀ b, OwnB A6 b → OwnB H.A4 b ∨ wr.heap.size ≤ b) (hm : m ≤ m') :
  DeskS w (w4.setCell ⟨gd, 4, none⟩ (.slice A6 (H.n4 + 1) c6)) g gd m' ⟨H.A0, H.n0, H.c0, H.A1, H.n1, H.c1, H.A2, H.n2, H.c2, H.A3, H.n3, H.c3, A6, H.n4 + 1, c6⟩ { d with trouble := d.trouble ++ [⟨0, 0, 0, []⟩] } := by
 have hn := q.nums
 have hgl := q.box.lt
 obtain ⟨col, M⟩ := q.mine
 have top : ∀ b, OwnB H.A4 b → w.heap.size < b ∧ b ≠ gd ∧ b < z := fun b hb => (mineN_top M.f4 b hb).1
 have far6 : ∀ b, OwnB A6 b → w.heap.size + 1 ≤ b ∧ b ≠ gd := fun b hb => by
  rcases q4 b hb with h5 | h5
  ·have := top b h5; exact ⟨by omega, this.2.1⟩
  ·exact ⟨by omega, by omega⟩
 have hS : Only (fun b => b = gd) w4 (w4.setCell ⟨gd, 4, none⟩ (.slice A6 (H.n4 + 1) c6)) := only_set (Only.refl _ _) 4 _
 have hle : w.heap.size ≤ gd := by omega
 have box4 := q.box.only h4 (fun hb => (top _ hb).2.1 rfl)
 have w4o : Only (fun b => b = g) w w4 := ⟨h4.os.trans q.only.os, h4.tape.trans q.only.tape, h4.output.trans q.only.output, Nat.le_trans q.only.size h4.size, fun i hi hS => (h4.block i (Nat.lt_of_lt_of_le hi q.only.size) (fun hb => by have := (top _ hb).1; omega)).trans (q.only.block i hi hS)⟩
 have c4 := q.cur.keep h4 (fun hb => by have := (top _ hb).1; omega) (fun b hb => by have := (top _ hb).1; omega)
 have s4 : SeesN cardSh (w4.setCell ⟨gd, 4, none⟩ (.slice A6 (H.n4 + 1) c6)) (w.heap.size + 1) A6 (H.n4 + 1) (d.trouble ++ [⟨0, 0, 0, []⟩]) := by
  refine ⟨rs ++ [⟨⟨0, 0, 0, []⟩, none, 0, 0⟩], by rw [List.map_append, hrs]; rfl, own_sees (own_only o6 hS (fun b hb (e : _ = _) => (far6 b hb).2 e)) (fun b hb => (far6 b hb).1) (by rw [List.flatMap_append, List.flatMap_singleton]; rfl), fun r hr => ?_⟩
  rcases List.mem_append.1 hr with hr | hr
  ·obtain ⟨h7, h8⟩ := hin r hr
   exact (h7.only h4 (fun b off e _ hb => (h8 b (by rw [e]; rfl)).2 hb)).only hS (fun b off e _ (he : b = gd) => (h8 b (by rw [e]; rfl)).1 he)
  ·obtain rfl := List.mem_singleton.1 hr
   exact Sees.nil _ _ _ _
 exact ⟨box4.set_ 4 _, (q.res.only h4 (fun hb => by have := (top _ hb).1; omega)).only hS (fun (e : _ = _) => by omega), ⟨((M.f0.only h4 (fun b h1 h2 => Hue.apart (by decide : 0 ≠ 4) b h1 (mineN_top M.f4 b h2))).only hS (fun b h1 (e : _ = _) => h1.1.2.1 e)).seesB (fun b hb => hb.1.1),
  ((M.f1.only h4 (fun b h1 h2 => Hue.apart (by decide : 1 ≠ 4) b h1 (mineN_top M.f4 b h2))).only hS (fun b h1 (e : _ = _) => h1.1.2.1 e)).seesB (fun b hb => hb.1.1),
  ((M.f2.only h4 (fun b h1 h2 => Hue.apart (by decide : 2 ≠ 4) b h1 (mineN_top M.f4 b h2))).only hS (fun b h1 (e : _ = _) => h1.1.2.1 e)).seesB (fun b hb => hb.1.1),
  ((M.f3.only h4 (fun b h1 h2 => Hue.apart (by decide : 3 ≠ 4) b h1 (mineN_top M.f4 b h2))).only hS (fun b h1 (e : _ = _) => h1.1.2.1 e)).seesB (fun b hb => hb.1.1),
  s4⟩,
  ⟨by have := q.fit.n0; dsimp only; omega,
  by have := q.fit.n1; dsimp only; omega,
  by have := q.fit.n2; dsimp only; omega,
  fun c hc => Nat.le_trans (q.fit.k2 c hc) (by decide),
  by have := q.fit.n3; dsimp only; omega,
  by have := q.fit.n4; dsimp only; omega,
  fun c hc => by
   rcases List.mem_append.1 hc with hc | hc
   ·exact Nat.le_trans (q.fit.k4 c hc) (by decide)
   ·obtain rfl := List.mem_singleton.1 hc; exact Nat.zero_le _⟩, q.codes, q.cap, (c4.keep hS (fun (e : _ = _) => by omega) (fun b (e : _ = _) => by omega)).more hm, only_new w4o hle _, hn.1, hn.2.1⟩

end
theorem stepM_good {d e : DeskV} {s : DeskStep} (h : stepM d s = some e) : deskB e = true := by
 unfold stepM at h
 split at h
 ·rename_i h2
  unfold stepB at h2
  simp only [Bool.and_eq_true] at h2
  injection h with h
  rw [← h]
  exact h2.2.2
 ·cases h
/-- A desk, drawn: its lists lie behind the cursor. -/
def DrawnDk (w : World) (g n : Nat) (e : Ending) (w' : World) : Prop := ∃ (H : DeskH) (d : DeskV), e = .returned (.agg #[.slice H.A0 H.n0 H.c0, .slice H.A1 H.n1 H.c1, .slice H.A2 H.n2 H.c2, .slice H.A3 H.n3 H.c3, .slice H.A4 H.n4 H.c4]) ∧ SeesDesk w' (w.heap.size + 1) H d ∧ DeskFit 2000 H d ∧ H.n0 ≤ 14 ∧ H.n3 ≤ H.c3 ∧ Cur w' g n ∧ Only (fun b => b = g) w w'
theorem DeskS.done {w wr : World} {g gd m : Nat} {H : DeskH} {d : DeskV} (q : DeskS w wr g gd m H d) : DrawnDk w g m (.returned (.agg #[.slice H.A0 H.n0 H.c0, .slice H.A1 H.n1 H.c1, .slice H.A2 H.n2 H.c2, .slice H.A3 H.n3 H.c3, .slice H.A4 H.n4 H.c4])) (((((wr.setCell ⟨w.heap.size, 0, none⟩ (.slice H.A0 H.n0 H.c0)).setCell ⟨w.heap.size, 1, none⟩ (.slice H.A1 H.n1 H.c1)).setCell ⟨w.heap.size, 2, none⟩ (.slice H.A2 H.n2 H.c2)).setCell ⟨w.heap.size, 3, none⟩ (.slice H.A3 H.n3 H.c3)).setCell ⟨w.heap.size, 4, none⟩ (.slice H.A4 H.n4 H.c4)) := by
 have hn := q.nums
 have hS : Only (fun b => b = w.heap.size) wr (((((wr.setCell ⟨w.heap.size, 0, none⟩ (.slice H.A0 H.n0 H.c0)).setCell ⟨w.heap.size, 1, none⟩ (.slice H.A1 H.n1 H.c1)).setCell ⟨w.heap.size, 2, none⟩ (.slice H.A2 H.n2 H.c2)).setCell ⟨w.heap.size, 3, none⟩ (.slice H.A3 H.n3 H.c3)).setCell ⟨w.heap.size, 4, none⟩ (.slice H.A4 H.n4 H.c4)) := only_set (only_set (only_set (only_set (only_set (Only.refl _ _) 0 _) 1 _) 2 _) 3 _) 4 _
 have hle := Nat.le_refl w.heap.size
 exact ⟨H, d, rfl, q.sees.draw hS (Nat.lt_succ_self _), q.fit, q.codes, q.cap, q.cur.keep hS (fun (e : _ = _) => by omega) (fun b (e : _ = _) => by omega), only_new (only_new (only_new (only_new (only_new q.only hle _) hle _) hle _) hle _) hle _⟩

set_option maxRecDepth 100000 in
set_option maxHeartbeats 16000000 in
theorem desk_any (g n : Nat) (w : World) (h : Cur w g n) (hn : n ≤ 400000) :
  Calls Tryz.prog 32 #[.pointer (some ⟨g, 0, none⟩)] w (DrawnDk w g (n + 2500)) := by
 have U : Below w.heap.size w (w.alloc (.cells #[.slice none 0 0, .slice none 0 0, .slice none 0 0, .slice none 0 0, .slice none 0 0] 28)) := (Below.refl _ _).alloc (Nat.le_refl _) _
 have R0 : Blk (w.alloc (.cells #[.slice none 0 0, .slice none 0 0, .slice none 0 0, .slice none 0 0, .slice none 0 0] 28)) w.heap.size 28 [.slice none 0 0, .slice none 0 0, .slice none 0 0, .slice none 0 0, .slice none 0 0] := Blk.at_ rfl
 have UE : Below (w.alloc (.cells #[.slice none 0 0, .slice none 0 0, .slice none 0 0, .slice none 0 0, .slice none 0 0] 28)).heap.size (w.alloc (.cells #[.slice none 0 0, .slice none 0 0, .slice none 0 0, .slice none 0 0, .slice none 0 0] 28)) ((w.alloc (.cells #[.slice none 0 0, .slice none 0 0, .slice none 0 0, .slice none 0 0, .slice none 0 0] 28)).alloc (.cells #[] 3)) := (Below.refl _ _).alloc (Nat.le_refl _) _
 have D0 : Drw (w.alloc (.cells #[.slice none 0 0, .slice none 0 0, .slice none 0 0, .slice none 0 0, .slice none 0 0] 28)) ((w.alloc (.cells #[.slice none 0 0, .slice none 0 0, .slice none 0 0, .slice none 0 0, .slice none 0 0] 28)).alloc (.cells #[] 3)) g n (some ⟨(w.alloc (.cells #[.slice none 0 0, .slice none 0 0, .slice none 0 0, .slice none 0 0, .slice none 0 0] 28)).heap.size, 0, none⟩) 0 0 [] := ⟨own_empty _ 3 1, (h.next U).next UE, .of_below UE⟩
 have hsz : (w.alloc (.cells #[.slice none 0 0, .slice none 0 0, .slice none 0 0, .slice none 0 0, .slice none 0 0] 28)).heap.size = w.heap.size + 1 := by simp
 have hgw := h.lt
 have o0 : Only (fun b => b = g) w (w.alloc (.cells #[.slice none 0 0, .slice none 0 0, .slice none 0 0, .slice none 0 0, .slice none 0 0] 28)) := .of_below U
 rw [hsz] at D0
 go_enter Tryz.func32, Tryz.ntmps32
 go_wp2_with fail
 generalize (w.alloc (.cells #[.slice none 0 0, .slice none 0 0, .slice none 0 0, .slice none 0 0, .slice none 0 0] 28)).alloc (.cells #[] 3) = w1 at *
 generalize (w.alloc (.cells #[.slice none 0 0, .slice none 0 0, .slice none 0 0, .slice none 0 0, .slice none 0 0] 28)) = wb at *
 clear UE h U
 have hg : g < wb.heap.size := by omega
 go_loopw [3, 4] (fun v i wr => ∃ (j k c : Nat) (A : Option Addr) (xs : List Int), i = .int .i64 (j : Int) ∧ j ≤ 4 ∧ k ≤ j ∧ v = .slice A k c ∧ Drw wb wr g (n + 2 * j) A k c xs) (fun _ i _ => 4 - (intOf i).toNat)
 case atStart => exact ⟨0, 0, _, _, [], rfl, Nat.zero_le _, Nat.le_refl _, rfl, D0⟩
 case round =>
  obtain ⟨j, k, cc, A5, xs, rfl, hj, hkj, rfl, D⟩ := hrel
  clear D0
  by_cases hlt : j < 4
  ·have hjp : (j : Int) < 4 := by omega
   go_wp2_with fail
   refine (one_any 2 g _ _ D.cur (by omega) (by decide) (by decide)).mono ?_
   rintro e w2 ⟨yes, rfl, c2, o2⟩
   have D2 := D.drawn hg c2 o2
   clear D c2 o2
   cases yes
   ·go_wp2_with fail
    go_roundw
    case rel => exact ⟨j + 1, k, cc, A5, xs, by go_num, by omega, by omega, rfl, D2.more (by omega)⟩
    case measure => simp [intOf]; omega
   ·have hl := lit_cell w2 [1, 2, 5, 17] (i := j) (by simpa using hlt)
    obtain ⟨x, hx⟩ : ∃ x, ([1, 2, 5, 17] : List Int)[j]'(by simpa using hlt) = x := ⟨_, rfl⟩
    rw [hx] at hl
    have hcl : (w2.alloc (.cells #[.int .i64 1, .int .i64 2, .int .i64 5, .int .i64 17] 3)).cell? ⟨w2.heap.size, j, none⟩ = some (.int .i64 x) := hl
    clear hl hx
    have UA : Below w2.heap.size w2 (w2.alloc (.cells #[.int .i64 1, .int .i64 2, .int .i64 5, .int .i64 17] 3)) := (Below.refl _ _).alloc (Nat.le_refl _) _
    have UB : Below w2.heap.size w2 ((w2.alloc (.cells #[.int .i64 1, .int .i64 2, .int .i64 5, .int .i64 17] 3)).alloc (.cells #[.int .i64 x] 3)) := UA.alloc (by simp) _
    have BX : Blk ((w2.alloc (.cells #[.int .i64 1, .int .i64 2, .int .i64 5, .int .i64 17] 3)).alloc (.cells #[.int .i64 x] 3)) (w2.heap.size + 1) 3 [.int .i64 x] := Blk.at_ (by simp)
    have D5 := D2.below UB
    have hz4 := D5.only.size
    clear UA D2 UB
    go_wp2_with (at_builtin; go_loud (refine wpList_cat rfl _ _ _ rfl Tryz.underlying24 info_int rfl (by decide) rfl D5.own rfl (m := 1) (BX.sees (s := 1) (Nat.zero_le _) rfl) rfl (by omega) (by omega) (by decide) (by omega) ?_); intro A6 c6 w5 o5 h5 b5 q5)
    have D6 := D5.push hg o5 h5
    go_roundw
    case rel => exact ⟨j + 1, k + 1, c6, A6, _, by go_num, by omega, by omega, rfl, D6.more (by omega)⟩
    case measure => simp [intOf]; omega
  ·obtain rfl : j = 4 := by omega
   have hjp : ¬ ((4 : Nat) : Int) < 4 := by omega
   go_wp2_with fail
   refine (codes12_any g _ _ D.cur (by omega)).mono ?_
   rintro e w3 ⟨A1, k1, c1, ys, rfl, D3, hk1⟩
   have DF := D.drawn hg D3.cur D3.only
   have R3 := R0.only DF.only (fun (e : _ = _) => by omega)
   go_wp2_with fail
   refine (l25NewW_any A1 k1 c1 ys A5 k cc xs w3 ((Sees.of_own D3.own).less (Nat.zero_le _)) (by omega) ((Sees.of_own DF.own).less (Nat.zero_le _)) (by omega)).mono ?_
   rintro e w4 ⟨H, rfl, M4, F4, C4, -, b4⟩
   have UB : Below w4.heap.size w4 (w4.alloc (.cells #[.slice H.A0 H.n0 H.c0, .slice H.A1 H.n1 H.c1, .slice H.A2 H.n2 H.c2, .slice H.A3 H.n3 H.c3, .slice H.A4 H.n4 H.c4] 28)) := (Below.refl _ _).alloc (Nat.le_refl _) _
   have s4 := M4.toW.desk.sees
   have z3 := DF.only.size
   have z4 := b4.size
   have z5 := UB.size
   have l0 := s4.f0.icount
   have l1 := s4.f1.icount
   have l2 := s4.f2.count
   have l3 := s4.f3.count (by decide) (fun _ => rfl)
   have l4 := s4.f4.count
   have l5 := D3.own.1
   have l6 := DF.own.1
   rw [ints_length] at l5 l6
   simp only [freshD, List.length_nil] at l0 l1 l2 l3 l4
   have DD : DeskD w (w4.alloc (.cells #[.slice H.A0 H.n0 H.c0, .slice H.A1 H.n1 H.c1, .slice H.A2 H.n2 H.c2, .slice H.A3 H.n3 H.c3, .slice H.A4 H.n4 H.c4] 28)) g w4.heap.size (n + 150) w4.heap.size H (freshD ys xs) :=
    ⟨Blk.at_ rfl, (R3.next b4).next UB, (M4.toW.next UB).wide (fun b hb => ⟨by have := hb.1; omega, by have := hb.2; omega, hb.2⟩), ⟨by omega, by omega, by omega, by simp [freshD], by omega, by omega, by simp [freshD]⟩, by omega, C4, ((DF.cur.next b4).next UB).more (by omega), (((o0.trans DF.only).then_ b4).then_ UB), hgw, by omega, by omega⟩
   clear UB s4 z3 z4 z5 l0 l1 l2 l3 l4 l5 l6 F4 C4 b4 M4 R3 DF D3 D R0 o0 hg hsz hjp hk1 hlt
   go_upto_region 8 with fail
   generalize (w4.alloc (.cells #[.slice H.A0 H.n0 H.c0, .slice H.A1 H.n1 H.c1, .slice H.A2 H.n2 H.c2, .slice H.A3 H.n3 H.c3, .slice H.A4 H.n4 H.c4] 28)) = w5 at *
   generalize w4.heap.size = gd at *
   go_wp2_with fail
   refine (pick_any 16 g _ _ DD.cur (by omega) (by decide) (by decide)).mono ?_
   rintro e w6 ⟨r, rfl, hr, c6, o6⟩
   have D6 := DD.drawn c6 o6
   have hr15 : r ≤ 15 := hr
   clear DD c6 o6 hr
   go_wp2_with fail
   go_loopw [6] (fun v wr => ∃ (j t z : Nat) (H : DeskH) (d : DeskV), v = .int .i64 (j : Int) ∧ j + t ≤ 15 ∧ DeskD w wr g gd (n + 152 + 120 * t) z H d) (fun v _ => (intOf v).toNat)
   case atStart => exact ⟨r, 0, _, H, _, rfl, by omega, D6⟩
   case round =>
    clear D6
    obtain ⟨j, t, z, H, d, rfl, hjt, D⟩ := hrel
    by_cases hpos : 0 < j
    ·obtain ⟨j, rfl⟩ : ∃ i, j = i + 1 := ⟨j - 1, by omega⟩
     have hpi : (0 : Int) < ((j + 1 : Nat) : Int) := by omega
     go_upto_region 11 with fail
     obtain ⟨wi0, rfl⟩ : ∃ w' : World, w' = wr := ⟨_, rfl⟩
     have D0 := D.up
     clear D
     have D := D0.below ((Quiet.one wi0).below _)
     refine wp_region_held_drew (S := fun w' => w'.cell? ⟨gd, 0, none⟩ = some (.slice H.A0 H.n0 H.c0) ∧ w'.cell? ⟨gd, 1, none⟩ = some (.slice H.A1 H.n1 H.c1) ∧ w'.cell? ⟨gd, 2, none⟩ = some (.slice H.A2 H.n2 H.c2) ∧ w'.cell? ⟨gd, 3, none⟩ = some (.slice H.A3 H.n3 H.c3) ∧ w'.cell? ⟨gd, 4, none⟩ = some (.slice H.A4 H.n4 H.c4)) (by kernel_rfl) (⟨D.box.cell 0, D.box.cell 1, D.box.cell 2, D.box.cell 3, D.box.cell 4⟩) (fun hH => ?_)
     try replace hc := hc.next ((Quiet.one wi0).below _)
     generalize wi0.drew = wi1 at *
     refine wT (i := 0) (v := ?_) rfl (by kernel_rfl) (by kernel_rfl) (by kernel_rfl) (fun _ _ _ h => h) (Or.inl ⟨by rfl, ?_⟩) (by assumption) ?_
     rotate_left 1
     ·(intro w hSw; (try dsimp only at hSw); go_simp; try with_reducible rfl)
     (try simp only [Act.put, pX])
     refine wT (i := 1) (v := ?_) rfl (by kernel_rfl) (by kernel_rfl) (by kernel_rfl) (fun _ _ _ h => h) (Or.inl ⟨by rfl, ?_⟩) (by assumption) ?_
     rotate_left 1
     ·(intro w hSw; (try dsimp only at hSw); go_simp; try with_reducible rfl)
     (try simp only [Act.put, pX])
     refine wT (i := 2) (v := ?_) rfl (by kernel_rfl) (by kernel_rfl) (by kernel_rfl) (fun _ _ _ h => h) (Or.inl ⟨by rfl, ?_⟩) (by assumption) ?_
     rotate_left 1
     ·(intro w hSw; (try dsimp only at hSw); go_simp; try with_reducible rfl)
     (try simp only [Act.put, pX])
     refine wR (rs := [3, 8]) (by kernel_rfl) (by simp) ?_
     refine aC rfl (fun K hK => ?_) ?_
     go_simp
     have sd := D.mine.desk.seesB (lo := w.heap.size + 1) (fun b hb => hb.1)
     have hlo := Nat.lt_succ_of_lt D.nums.1
     refine (deskStep_any g _ (w.heap.size + 1) H d wi1 D.cur (by omega) sd hlo D.codes (by have := D.fit.n4; omega)).mono ?_
     rintro e wi2 ⟨PA, pk, pc, s, rfl, ow, hpk, kc, oc⟩
     replace D := D.drawn kc oc
     try replace RB := RB.only oc (fun (e : _ = _) => by have := D.nums; omega)
     have xs : Sees wi2 0 2 PA pk (s.punches.flatMap Punch.enc) := (Sees.of_own ow).less (Nat.zero_le _)
     clear kc oc ow sd hlo
     go_wp2_with fail
     refine hK.out _ _ (⟨D.box.cell 0, D.box.cell 1, D.box.cell 2, D.box.cell 3, D.box.cell 4⟩) (fun hH => ?_)
     clear hK K
     (try simp only [Act.put, pX])
     refine wR (rs := [4, 8]) (by kernel_rfl) (by simp) ?_
     refine aC rfl (fun K hK => ?_) ?_
     go_simp
     have sd := D.mine.desk.sees
     refine (specStepDeskW_any H d PA pk pc s wi2 sd (D.fit.mono (by decide)) D.cap xs (by omega)).mono ?_
     rintro e wi3 ⟨H2, rfl, M2, F2, C2, b2⟩
     have hq1 := D.box.lt
     have hq2 := D.nums
     have M3 : MineW wi3 (fun b => w.heap.size < b ∧ b ≠ gd ∧ b < wi3.heap.size) H2 ((stepM d s).getD deskZ) := M2.wide (fun b hb => ⟨by have := hb.1; omega, by have := hb.1; omega, hb.2⟩)
     try have M4 : MineW wi3 (fun b => w.heap.size < b ∧ b ≠ gd ∧ b ≠ gx ∧ b < wi3.heap.size) H2 ((stepM d s).getD deskZ) := M2.wide (fun b hb => ⟨by have := hb.1; omega, by have := hb.1; omega, by have := hb.1; have := RB.lt; omega, hb.2⟩)
     replace D := D.below b2
     try replace RB := RB.next b2
     clear M2 b2 sd hq1 hq2 xs F2
     go_wp2_with fail
     refine hK.out _ _ (⟨D.box.cell 0, D.box.cell 1, D.box.cell 2, D.box.cell 3, D.box.cell 4⟩) (fun hH => ?_)
     clear hK K
     (try simp only [Act.put, pX])
     refine wT (i := 5) (v := ?_) rfl (by kernel_rfl) (by kernel_rfl) (by kernel_rfl) (fun _ _ _ h => h) (Or.inl ⟨by rfl, ?_⟩) (by assumption) ?_
     rotate_left 1
     ·(intro w hSw; (try dsimp only at hSw); go_simp; try with_reducible rfl)
     (try simp only [Act.put, pX])
     refine wT (i := 6) (v := ?_) rfl (by kernel_rfl) (by kernel_rfl) (by kernel_rfl) (fun _ _ _ h => h) (Or.inl ⟨by rfl, ?_⟩) (by assumption) ?_
     rotate_left 1
     ·(intro w hSw; (try dsimp only at hSw); go_simp; try with_reducible rfl)
     (try simp only [Act.put, pX])
     refine wT (i := 7) (v := ?_) rfl (by kernel_rfl) (by kernel_rfl) (by kernel_rfl) (fun _ _ _ h => h) (Or.inl ⟨by rfl, ?_⟩) (by assumption) ?_
     rotate_left 1
     ·(intro w hSw; (try dsimp only at hSw); go_simp; try with_reducible rfl)
     (try simp only [Act.put, pX])
     refine wR (rs := [8]) (by kernel_rfl) (by simp) ?_
     refine aC rfl (fun K hK => ?_) aN
     go_simp
     have U := (Below.refl wi3.heap.size wi3).alloc (Nat.le_refl _) (.cells #[.slice none 0 0, .slice none 0 0, .slice none 0 0, .slice none 0 0, .slice none 0 0] 28)
     have RB : Blk (wi3.alloc (.cells #[.slice none 0 0, .slice none 0 0, .slice none 0 0, .slice none 0 0, .slice none 0 0] 28)) wi3.heap.size 28 [.slice none 0 0, .slice none 0 0, .slice none 0 0, .slice none 0 0, .slice none 0 0] := Blk.at_ rfl
     have hgx : gd < wi3.heap.size ∧ wi0.heap.size ≤ wi3.heap.size := ⟨D.box.lt, D.nums.2.2⟩
     try have M4 : MineW (wi3.alloc (.cells #[.slice none 0 0, .slice none 0 0, .slice none 0 0, .slice none 0 0, .slice none 0 0] 28)) (fun b => w.heap.size < b ∧ b ≠ gd ∧ b ≠ wi3.heap.size ∧ b < (wi3.alloc (.cells #[.slice none 0 0, .slice none 0 0, .slice none 0 0, .slice none 0 0, .slice none 0 0] 28)).heap.size) H2 ((stepM d s).getD deskZ) := (M3.next U).wide (fun b hb => ⟨hb.1, hb.2.1, Nat.ne_of_lt hb.2.2, Nat.lt_of_lt_of_le hb.2.2 U.size⟩)
     replace D := D.below U
     try replace xs := xs.next U
     clear U
     refine hK.out _ _ (⟨D.box.cell 0, D.box.cell 1, D.box.cell 2, D.box.cell 3, D.box.cell 4⟩) (fun hH => ?_)
     clear hK K
     (try simp only [Act.put, pX])
     generalize wi3.alloc (.cells #[.slice none 0 0, .slice none 0 0, .slice none 0 0, .slice none 0 0, .slice none 0 0] 28) = wi4 at *
     generalize wi3.heap.size = gx at *
     refine wR (rs := [9]) (by kernel_rfl) (by simp) ?_
     refine aC rfl (fun K hK => ?_) aN
     go_simp
     have cr := RB.cell
     have fr := RB.frozen
     go_simp
     have ho : Only (fun b => b = gx) wi4 (((((wi4.setCell ⟨gx, 0, none⟩ (.slice H2.A0 H2.n0 H2.c0)).setCell ⟨gx, 1, none⟩ (.slice H2.A1 H2.n1 H2.c1)).setCell ⟨gx, 2, none⟩ (.slice H2.A2 H2.n2 H2.c2)).setCell ⟨gx, 3, none⟩ (.slice H2.A3 H2.n3 H2.c3)).setCell ⟨gx, 4, none⟩ (.slice H2.A4 H2.n4 H2.c4)) := only_set (only_set (only_set (only_set (only_set (Only.refl _ _) 0 _) 1 _) 2 _) 3 _) 4 _
     replace D := D.far ho ⟨hgx.2, hgx.1⟩
     have RN : Blk (((((wi4.setCell ⟨gx, 0, none⟩ (.slice H2.A0 H2.n0 H2.c0)).setCell ⟨gx, 1, none⟩ (.slice H2.A1 H2.n1 H2.c1)).setCell ⟨gx, 2, none⟩ (.slice H2.A2 H2.n2 H2.c2)).setCell ⟨gx, 3, none⟩ (.slice H2.A3 H2.n3 H2.c3)).setCell ⟨gx, 4, none⟩ (.slice H2.A4 H2.n4 H2.c4)) gx 28 [.slice H2.A0 H2.n0 H2.c0, .slice H2.A1 H2.n1 H2.c1, .slice H2.A2 H2.n2 H2.c2, .slice H2.A3 H2.n3 H2.c3, .slice H2.A4 H2.n4 H2.c4] := ((((RB.set_ 0 _).set_ 1 _).set_ 2 _).set_ 3 _).set_ 4 _
     replace M4 : MineW (((((wi4.setCell ⟨gx, 0, none⟩ (.slice H2.A0 H2.n0 H2.c0)).setCell ⟨gx, 1, none⟩ (.slice H2.A1 H2.n1 H2.c1)).setCell ⟨gx, 2, none⟩ (.slice H2.A2 H2.n2 H2.c2)).setCell ⟨gx, 3, none⟩ (.slice H2.A3 H2.n3 H2.c3)).setCell ⟨gx, 4, none⟩ (.slice H2.A4 H2.n4 H2.c4)) (fun b => w.heap.size < b ∧ b ≠ gd ∧ b ≠ gx ∧ b < (((((wi4.setCell ⟨gx, 0, none⟩ (.slice H2.A0 H2.n0 H2.c0)).setCell ⟨gx, 1, none⟩ (.slice H2.A1 H2.n1 H2.c1)).setCell ⟨gx, 2, none⟩ (.slice H2.A2 H2.n2 H2.c2)).setCell ⟨gx, 3, none⟩ (.slice H2.A3 H2.n3 H2.c3)).setCell ⟨gx, 4, none⟩ (.slice H2.A4 H2.n4 H2.c4)).heap.size) H2 ((stepM d s).getD deskZ) := (M4.only ho (fun _ h1 (e : _ = _) => h1.2.2.1 e)).wide (fun b hb => ⟨hb.1, hb.2.1, hb.2.2.1, Nat.lt_of_lt_of_le hb.2.2.2 ho.size⟩)
     clear cr fr RB ho M3
     refine hK.out _ (((((wi4.setCell ⟨gx, 0, none⟩ (.slice H2.A0 H2.n0 H2.c0)).setCell ⟨gx, 1, none⟩ (.slice H2.A1 H2.n1 H2.c1)).setCell ⟨gx, 2, none⟩ (.slice H2.A2 H2.n2 H2.c2)).setCell ⟨gx, 3, none⟩ (.slice H2.A3 H2.n3 H2.c3)).setCell ⟨gx, 4, none⟩ (.slice H2.A4 H2.n4 H2.c4)) (⟨D.box.cell 0, D.box.cell 1, D.box.cell 2, D.box.cell 3, D.box.cell 4⟩) (fun hH => ?_)
     clear hK K
     (try simp only [Act.put, pX])
     generalize (((((wi4.setCell ⟨gx, 0, none⟩ (.slice H2.A0 H2.n0 H2.c0)).setCell ⟨gx, 1, none⟩ (.slice H2.A1 H2.n1 H2.c1)).setCell ⟨gx, 2, none⟩ (.slice H2.A2 H2.n2 H2.c2)).setCell ⟨gx, 3, none⟩ (.slice H2.A3 H2.n3 H2.c3)).setCell ⟨gx, 4, none⟩ (.slice H2.A4 H2.n4 H2.c4)) = wi5 at *
     refine wT (i := 10) (v := ?_) rfl (by kernel_rfl) (by kernel_rfl) (by kernel_rfl) (fun _ _ _ h => h) (Or.inl ⟨by rfl, ?_⟩) (by assumption) ?_
     rotate_left 1
     ·(intro w hSw; (try dsimp only at hSw); go_simp; try with_reducible rfl)
     (try simp only [Act.put, pX])
     refine wD (by kernel_rfl) ?_ _
     clear hH
     cases hR : stepM d s with
     | none =>
      simp only [Option.isSome_none]
      clear M4 RN
      go_wp2_with fail
      go_roundw
      case rel => exact ⟨j, t + 1, _, H, d, by go_num, by omega, D.more (by omega)⟩
      case measure => simp [intOf]
     | some e2 =>
      have hg2 := stepM_good hR
      simp only [hR, Option.getD_some] at M4
      simp only [Option.isSome_some]
      clear hR
      have s2 := M4.desk.sees
      have f2 := (deskB_small hg2).fit s2 (Nat.le_refl 1000) (Nat.le_refl 1000)
      have k2 : H2.n0 ≤ 14 := by have := s2.f0.icount; have := deskB_codes hg2; omega
      have D2 := D.turn M4 f2 k2 C2
      clear s2 hg2
      have bc := D.box.cell
      have bf := D.box.frozen
      have cx := RN.cell
      go_wp2_with fail
      go_roundw
      case rel => exact ⟨j, t + 1, _, H2, e2, by go_num, by omega, D2.more (by omega)⟩
      case measure => simp [intOf]
     refine aC rfl (fun K hK => ?_) aN
     go_simp
     have U := (Below.refl wi2.heap.size wi2).alloc (Nat.le_refl _) (.cells #[.slice none 0 0, .slice none 0 0, .slice none 0 0, .slice none 0 0, .slice none 0 0] 28)
     have RB : Blk (wi2.alloc (.cells #[.slice none 0 0, .slice none 0 0, .slice none 0 0, .slice none 0 0, .slice none 0 0] 28)) wi2.heap.size 28 [.slice none 0 0, .slice none 0 0, .slice none 0 0, .slice none 0 0, .slice none 0 0] := Blk.at_ rfl
     have hgx : gd < wi2.heap.size ∧ wi0.heap.size ≤ wi2.heap.size := ⟨D.box.lt, D.nums.2.2⟩
     try have M4 : MineW (wi2.alloc (.cells #[.slice none 0 0, .slice none 0 0, .slice none 0 0, .slice none 0 0, .slice none 0 0] 28)) (fun b => w.heap.size < b ∧ b ≠ gd ∧ b ≠ wi2.heap.size ∧ b < (wi2.alloc (.cells #[.slice none 0 0, .slice none 0 0, .slice none 0 0, .slice none 0 0, .slice none 0 0] 28)).heap.size) H2 ((stepM d s).getD deskZ) := (M3.next U).wide (fun b hb => ⟨hb.1, hb.2.1, Nat.ne_of_lt hb.2.2, Nat.lt_of_lt_of_le hb.2.2 U.size⟩)
     replace D := D.below U
     try replace xs := xs.next U
     clear U
     refine hK.out _ _ (⟨D.box.cell 0, D.box.cell 1, D.box.cell 2, D.box.cell 3, D.box.cell 4⟩) (fun hH => ?_)
     clear hK K
     (try simp only [Act.put, pX])
     generalize wi2.alloc (.cells #[.slice none 0 0, .slice none 0 0, .slice none 0 0, .slice none 0 0, .slice none 0 0] 28) = wi3 at *
     generalize wi2.heap.size = gx at *
     refine wR (rs := [4]) (by kernel_rfl) (by simp) ?_
     refine aC rfl (fun K hK => ?_) aN
     go_simp
     have sd := D.mine.desk.sees
     refine (specStepDeskW_any H d PA pk pc s wi3 sd (D.fit.mono (by decide)) D.cap xs (by omega)).mono ?_
     rintro e wi4 ⟨H2, rfl, M2, F2, C2, b2⟩
     have hq1 := D.box.lt
     have hq2 := D.nums
     have M3 : MineW wi4 (fun b => w.heap.size < b ∧ b ≠ gd ∧ b < wi4.heap.size) H2 ((stepM d s).getD deskZ) := M2.wide (fun b hb => ⟨by have := hb.1; omega, by have := hb.1; omega, hb.2⟩)
     try have M4 : MineW wi4 (fun b => w.heap.size < b ∧ b ≠ gd ∧ b ≠ gx ∧ b < wi4.heap.size) H2 ((stepM d s).getD deskZ) := M2.wide (fun b hb => ⟨by have := hb.1; omega, by have := hb.1; omega, by have := hb.1; have := RB.lt; omega, hb.2⟩)
     replace D := D.below b2
     try replace RB := RB.next b2
     clear M2 b2 sd hq1 hq2 xs F2
     go_wp2_with fail
     refine hK.out _ _ (⟨D.box.cell 0, D.box.cell 1, D.box.cell 2, D.box.cell 3, D.box.cell 4⟩) (fun hH => ?_)
     clear hK K
     (try simp only [Act.put, pX])
     refine wT (i := 5) (v := ?_) rfl (by kernel_rfl) (by kernel_rfl) (by kernel_rfl) (fun _ _ _ h => h) (Or.inl ⟨by rfl, ?_⟩) (by assumption) ?_
     rotate_left 1
     ·(intro w hSw; (try dsimp only at hSw); go_simp; try with_reducible rfl)
     (try simp only [Act.put, pX])
     refine wT (i := 6) (v := ?_) rfl (by kernel_rfl) (by kernel_rfl) (by kernel_rfl) (fun _ _ _ h => h) (Or.inl ⟨by rfl, ?_⟩) (by assumption) ?_
     rotate_left 1
     ·(intro w hSw; (try dsimp only at hSw); go_simp; try with_reducible rfl)
     (try simp only [Act.put, pX])
     refine wT (i := 7) (v := ?_) rfl (by kernel_rfl) (by kernel_rfl) (by kernel_rfl) (fun _ _ _ h => h) (Or.inl ⟨by rfl, ?_⟩) (by assumption) ?_
     rotate_left 1
     ·(intro w hSw; (try dsimp only at hSw); go_simp; try with_reducible rfl)
     (try simp only [Act.put, pX])
     refine wR (rs := [9]) (by kernel_rfl) (by simp) ?_
     refine aC rfl (fun K hK => ?_) aN
     go_simp
     have cr := RB.cell
     have fr := RB.frozen
     go_simp
     have ho : Only (fun b => b = gx) wi4 (((((wi4.setCell ⟨gx, 0, none⟩ (.slice H2.A0 H2.n0 H2.c0)).setCell ⟨gx, 1, none⟩ (.slice H2.A1 H2.n1 H2.c1)).setCell ⟨gx, 2, none⟩ (.slice H2.A2 H2.n2 H2.c2)).setCell ⟨gx, 3, none⟩ (.slice H2.A3 H2.n3 H2.c3)).setCell ⟨gx, 4, none⟩ (.slice H2.A4 H2.n4 H2.c4)) := only_set (only_set (only_set (only_set (only_set (Only.refl _ _) 0 _) 1 _) 2 _) 3 _) 4 _
     replace D := D.far ho ⟨hgx.2, hgx.1⟩
     have RN : Blk (((((wi4.setCell ⟨gx, 0, none⟩ (.slice H2.A0 H2.n0 H2.c0)).setCell ⟨gx, 1, none⟩ (.slice H2.A1 H2.n1 H2.c1)).setCell ⟨gx, 2, none⟩ (.slice H2.A2 H2.n2 H2.c2)).setCell ⟨gx, 3, none⟩ (.slice H2.A3 H2.n3 H2.c3)).setCell ⟨gx, 4, none⟩ (.slice H2.A4 H2.n4 H2.c4)) gx 28 [.slice H2.A0 H2.n0 H2.c0, .slice H2.A1 H2.n1 H2.c1, .slice H2.A2 H2.n2 H2.c2, .slice H2.A3 H2.n3 H2.c3, .slice H2.A4 H2.n4 H2.c4] := ((((RB.set_ 0 _).set_ 1 _).set_ 2 _).set_ 3 _).set_ 4 _
     replace M4 : MineW (((((wi4.setCell ⟨gx, 0, none⟩ (.slice H2.A0 H2.n0 H2.c0)).setCell ⟨gx, 1, none⟩ (.slice H2.A1 H2.n1 H2.c1)).setCell ⟨gx, 2, none⟩ (.slice H2.A2 H2.n2 H2.c2)).setCell ⟨gx, 3, none⟩ (.slice H2.A3 H2.n3 H2.c3)).setCell ⟨gx, 4, none⟩ (.slice H2.A4 H2.n4 H2.c4)) (fun b => w.heap.size < b ∧ b ≠ gd ∧ b ≠ gx ∧ b < (((((wi4.setCell ⟨gx, 0, none⟩ (.slice H2.A0 H2.n0 H2.c0)).setCell ⟨gx, 1, none⟩ (.slice H2.A1 H2.n1 H2.c1)).setCell ⟨gx, 2, none⟩ (.slice H2.A2 H2.n2 H2.c2)).setCell ⟨gx, 3, none⟩ (.slice H2.A3 H2.n3 H2.c3)).setCell ⟨gx, 4, none⟩ (.slice H2.A4 H2.n4 H2.c4)).heap.size) H2 ((stepM d s).getD deskZ) := (M4.only ho (fun _ h1 (e : _ = _) => h1.2.2.1 e)).wide (fun b hb => ⟨hb.1, hb.2.1, hb.2.2.1, Nat.lt_of_lt_of_le hb.2.2.2 ho.size⟩)
     clear cr fr RB ho M3
     refine hK.out _ (((((wi4.setCell ⟨gx, 0, none⟩ (.slice H2.A0 H2.n0 H2.c0)).setCell ⟨gx, 1, none⟩ (.slice H2.A1 H2.n1 H2.c1)).setCell ⟨gx, 2, none⟩ (.slice H2.A2 H2.n2 H2.c2)).setCell ⟨gx, 3, none⟩ (.slice H2.A3 H2.n3 H2.c3)).setCell ⟨gx, 4, none⟩ (.slice H2.A4 H2.n4 H2.c4)) (⟨D.box.cell 0, D.box.cell 1, D.box.cell 2, D.box.cell 3, D.box.cell 4⟩) (fun hH => ?_)
     clear hK K
     (try simp only [Act.put, pX])
     generalize (((((wi4.setCell ⟨gx, 0, none⟩ (.slice H2.A0 H2.n0 H2.c0)).setCell ⟨gx, 1, none⟩ (.slice H2.A1 H2.n1 H2.c1)).setCell ⟨gx, 2, none⟩ (.slice H2.A2 H2.n2 H2.c2)).setCell ⟨gx, 3, none⟩ (.slice H2.A3 H2.n3 H2.c3)).setCell ⟨gx, 4, none⟩ (.slice H2.A4 H2.n4 H2.c4)) = wi5 at *
     refine wT (i := 10) (v := ?_) rfl (by kernel_rfl) (by kernel_rfl) (by kernel_rfl) (fun _ _ _ h => h) (Or.inl ⟨by rfl, ?_⟩) (by assumption) ?_
     rotate_left 1
     ·(intro w hSw; (try dsimp only at hSw); go_simp; try with_reducible rfl)
     (try simp only [Act.put, pX])
     refine wD (by kernel_rfl) ?_ _
     clear hH
     cases hR : stepM d s with
     | none =>
      simp only [Option.isSome_none]
      clear M4 RN
      go_wp2_with fail
      go_roundw
      case rel => exact ⟨j, t + 1, _, H, d, by go_num, by omega, D.more (by omega)⟩
      case measure => simp [intOf]
     | some e2 =>
      have hg2 := stepM_good hR
      simp only [hR, Option.getD_some] at M4
      simp only [Option.isSome_some]
      clear hR
      have s2 := M4.desk.sees
      have f2 := (deskB_small hg2).fit s2 (Nat.le_refl 1000) (Nat.le_refl 1000)
      have k2 : H2.n0 ≤ 14 := by have := s2.f0.icount; have := deskB_codes hg2; omega
      have D2 := D.turn M4 f2 k2 C2
      clear s2 hg2
      have bc := D.box.cell
      have bf := D.box.frozen
      have cx := RN.cell
      go_wp2_with fail
      go_roundw
      case rel => exact ⟨j, t + 1, _, H2, e2, by go_num, by omega, D2.more (by omega)⟩
      case measure => simp [intOf]
     refine aC rfl (fun K hK => ?_) aN
     go_simp
     have U := (Below.refl wi1.heap.size wi1).alloc (Nat.le_refl _) (.cells #[.slice none 0 0, .slice none 0 0, .slice none 0 0, .slice none 0 0, .slice none 0 0] 28)
     have RB : Blk (wi1.alloc (.cells #[.slice none 0 0, .slice none 0 0, .slice none 0 0, .slice none 0 0, .slice none 0 0] 28)) wi1.heap.size 28 [.slice none 0 0, .slice none 0 0, .slice none 0 0, .slice none 0 0, .slice none 0 0] := Blk.at_ rfl
     have hgx : gd < wi1.heap.size ∧ wi0.heap.size ≤ wi1.heap.size := ⟨D.box.lt, D.nums.2.2⟩
     try have M4 : MineW (wi1.alloc (.cells #[.slice none 0 0, .slice none 0 0, .slice none 0 0, .slice none 0 0, .slice none 0 0] 28)) (fun b => w.heap.size < b ∧ b ≠ gd ∧ b ≠ wi1.heap.size ∧ b < (wi1.alloc (.cells #[.slice none 0 0, .slice none 0 0, .slice none 0 0, .slice none 0 0, .slice none 0 0] 28)).heap.size) H2 ((stepM d s).getD deskZ) := (M3.next U).wide (fun b hb => ⟨hb.1, hb.2.1, Nat.ne_of_lt hb.2.2, Nat.lt_of_lt_of_le hb.2.2 U.size⟩)
     replace D := D.below U
     try replace xs := xs.next U
     clear U
     refine hK.out _ _ (⟨D.box.cell 0, D.box.cell 1, D.box.cell 2, D.box.cell 3, D.box.cell 4⟩) (fun hH => ?_)
     clear hK K
     (try simp only [Act.put, pX])
     generalize wi1.alloc (.cells #[.slice none 0 0, .slice none 0 0, .slice none 0 0, .slice none 0 0, .slice none 0 0] 28) = wi2 at *
     generalize wi1.heap.size = gx at *
     refine wR (rs := [3]) (by kernel_rfl) (by simp) ?_
     refine aC rfl (fun K hK => ?_) aN
     go_simp
     have sd := D.mine.desk.seesB (lo := w.heap.size + 1) (fun b hb => hb.1)
     have hlo := Nat.lt_succ_of_lt D.nums.1
     refine (deskStep_any g _ (w.heap.size + 1) H d wi2 D.cur (by omega) sd hlo D.codes (by have := D.fit.n4; omega)).mono ?_
     rintro e wi3 ⟨PA, pk, pc, s, rfl, ow, hpk, kc, oc⟩
     replace D := D.drawn kc oc
     try replace RB := RB.only oc (fun (e : _ = _) => by have := D.nums; omega)
     have xs : Sees wi3 0 2 PA pk (s.punches.flatMap Punch.enc) := (Sees.of_own ow).less (Nat.zero_le _)
     clear kc oc ow sd hlo
     go_wp2_with fail
     refine hK.out _ _ (⟨D.box.cell 0, D.box.cell 1, D.box.cell 2, D.box.cell 3, D.box.cell 4⟩) (fun hH => ?_)
     clear hK K
     (try simp only [Act.put, pX])
     refine wR (rs := [4]) (by kernel_rfl) (by simp) ?_
     refine aC rfl (fun K hK => ?_) aN
     go_simp
     have sd := D.mine.desk.sees
     refine (specStepDeskW_any H d PA pk pc s wi3 sd (D.fit.mono (by decide)) D.cap xs (by omega)).mono ?_
     rintro e wi4 ⟨H2, rfl, M2, F2, C2, b2⟩
     have hq1 := D.box.lt
     have hq2 := D.nums
     have M3 : MineW wi4 (fun b => w.heap.size < b ∧ b ≠ gd ∧ b < wi4.heap.size) H2 ((stepM d s).getD deskZ) := M2.wide (fun b hb => ⟨by have := hb.1; omega, by have := hb.1; omega, hb.2⟩)
     try have M4 : MineW wi4 (fun b => w.heap.size < b ∧ b ≠ gd ∧ b ≠ gx ∧ b < wi4.heap.size) H2 ((stepM d s).getD deskZ) := M2.wide (fun b hb => ⟨by have := hb.1; omega, by have := hb.1; omega, by have := hb.1; have := RB.lt; omega, hb.2⟩)
     replace D := D.below b2
     try replace RB := RB.next b2
     clear M2 b2 sd hq1 hq2 xs F2
     go_wp2_with fail
     refine hK.out _ _ (⟨D.box.cell 0, D.box.cell 1, D.box.cell 2, D.box.cell 3, D.box.cell 4⟩) (fun hH => ?_)
     clear hK K
     (try simp only [Act.put, pX])
     refine wT (i := 5) (v := ?_) rfl (by kernel_rfl) (by kernel_rfl) (by kernel_rfl) (fun _ _ _ h => h) (Or.inl ⟨by rfl, ?_⟩) (by assumption) ?_
     rotate_left 1
     ·(intro w hSw; (try dsimp only at hSw); go_simp; try with_reducible rfl)
     (try simp only [Act.put, pX])
     refine wT (i := 6) (v := ?_) rfl (by kernel_rfl) (by kernel_rfl) (by kernel_rfl) (fun _ _ _ h => h) (Or.inl ⟨by rfl, ?_⟩) (by assumption) ?_
     rotate_left 1
     ·(intro w hSw; (try dsimp only at hSw); go_simp; try with_reducible rfl)
     (try simp only [Act.put, pX])
     refine wT (i := 7) (v := ?_) rfl (by kernel_rfl) (by kernel_rfl) (by kernel_rfl) (fun _ _ _ h => h) (Or.inl ⟨by rfl, ?_⟩) (by assumption) ?_
     rotate_left 1
     ·(intro w hSw; (try dsimp only at hSw); go_simp; try with_reducible rfl)
     (try simp only [Act.put, pX])
     refine wR (rs := [9]) (by kernel_rfl) (by simp) ?_
     refine aC rfl (fun K hK => ?_) aN
     go_simp
     have cr := RB.cell
     have fr := RB.frozen
     go_simp
     have ho : Only (fun b => b = gx) wi4 (((((wi4.setCell ⟨gx, 0, none⟩ (.slice H2.A0 H2.n0 H2.c0)).setCell ⟨gx, 1, none⟩ (.slice H2.A1 H2.n1 H2.c1)).setCell ⟨gx, 2, none⟩ (.slice H2.A2 H2.n2 H2.c2)).setCell ⟨gx, 3, none⟩ (.slice H2.A3 H2.n3 H2.c3)).setCell ⟨gx, 4, none⟩ (.slice H2.A4 H2.n4 H2.c4)) := only_set (only_set (only_set (only_set (only_set (Only.refl _ _) 0 _) 1 _) 2 _) 3 _) 4 _
     replace D := D.far ho ⟨hgx.2, hgx.1⟩
     have RN : Blk (((((wi4.setCell ⟨gx, 0, none⟩ (.slice H2.A0 H2.n0 H2.c0)).setCell ⟨gx, 1, none⟩ (.slice H2.A1 H2.n1 H2.c1)).setCell ⟨gx, 2, none⟩ (.slice H2.A2 H2.n2 H2.c2)).setCell ⟨gx, 3, none⟩ (.slice H2.A3 H2.n3 H2.c3)).setCell ⟨gx, 4, none⟩ (.slice H2.A4 H2.n4 H2.c4)) gx 28 [.slice H2.A0 H2.n0 H2.c0, .slice H2.A1 H2.n1 H2.c1, .slice H2.A2 H2.n2 H2.c2, .slice H2.A3 H2.n3 H2.c3, .slice H2.A4 H2.n4 H2.c4] := ((((RB.set_ 0 _).set_ 1 _).set_ 2 _).set_ 3 _).set_ 4 _
     replace M4 : MineW (((((wi4.setCell ⟨gx, 0, none⟩ (.slice H2.A0 H2.n0 H2.c0)).setCell ⟨gx, 1, none⟩ (.slice H2.A1 H2.n1 H2.c1)).setCell ⟨gx, 2, none⟩ (.slice H2.A2 H2.n2 H2.c2)).setCell ⟨gx, 3, none⟩ (.slice H2.A3 H2.n3 H2.c3)).setCell ⟨gx, 4, none⟩ (.slice H2.A4 H2.n4 H2.c4)) (fun b => w.heap.size < b ∧ b ≠ gd ∧ b ≠ gx ∧ b < (((((wi4.setCell ⟨gx, 0, none⟩ (.slice H2.A0 H2.n0 H2.c0)).setCell ⟨gx, 1, none⟩ (.slice H2.A1 H2.n1 H2.c1)).setCell ⟨gx, 2, none⟩ (.slice H2.A2 H2.n2 H2.c2)).setCell ⟨gx, 3, none⟩ (.slice H2.A3 H2.n3 H2.c3)).setCell ⟨gx, 4, none⟩ (.slice H2.A4 H2.n4 H2.c4)).heap.size) H2 ((stepM d s).getD deskZ) := (M4.only ho (fun _ h1 (e : _ = _) => h1.2.2.1 e)).wide (fun b hb => ⟨hb.1, hb.2.1, hb.2.2.1, Nat.lt_of_lt_of_le hb.2.2.2 ho.size⟩)
     clear cr fr RB ho M3
     refine hK.out _ (((((wi4.setCell ⟨gx, 0, none⟩ (.slice H2.A0 H2.n0 H2.c0)).setCell ⟨gx, 1, none⟩ (.slice H2.A1 H2.n1 H2.c1)).setCell ⟨gx, 2, none⟩ (.slice H2.A2 H2.n2 H2.c2)).setCell ⟨gx, 3, none⟩ (.slice H2.A3 H2.n3 H2.c3)).setCell ⟨gx, 4, none⟩ (.slice H2.A4 H2.n4 H2.c4)) (⟨D.box.cell 0, D.box.cell 1, D.box.cell 2, D.box.cell 3, D.box.cell 4⟩) (fun hH => ?_)
     clear hK K
     (try simp only [Act.put, pX])
     generalize (((((wi4.setCell ⟨gx, 0, none⟩ (.slice H2.A0 H2.n0 H2.c0)).setCell ⟨gx, 1, none⟩ (.slice H2.A1 H2.n1 H2.c1)).setCell ⟨gx, 2, none⟩ (.slice H2.A2 H2.n2 H2.c2)).setCell ⟨gx, 3, none⟩ (.slice H2.A3 H2.n3 H2.c3)).setCell ⟨gx, 4, none⟩ (.slice H2.A4 H2.n4 H2.c4)) = wi5 at *
     refine wT (i := 10) (v := ?_) rfl (by kernel_rfl) (by kernel_rfl) (by kernel_rfl) (fun _ _ _ h => h) (Or.inl ⟨by rfl, ?_⟩) (by assumption) ?_
     rotate_left 1
     ·(intro w hSw; (try dsimp only at hSw); go_simp; try with_reducible rfl)
     (try simp only [Act.put, pX])
     refine wD (by kernel_rfl) ?_ _
     clear hH
     cases hR : stepM d s with
     | none =>
      simp only [Option.isSome_none]
      clear M4 RN
      go_wp2_with fail
      go_roundw
      case rel => exact ⟨j, t + 1, _, H, d, by go_num, by omega, D.more (by omega)⟩
      case measure => simp [intOf]
     | some e2 =>
      have hg2 := stepM_good hR
      simp only [hR, Option.getD_some] at M4
      simp only [Option.isSome_some]
      clear hR
      have s2 := M4.desk.sees
      have f2 := (deskB_small hg2).fit s2 (Nat.le_refl 1000) (Nat.le_refl 1000)
      have k2 : H2.n0 ≤ 14 := by have := s2.f0.icount; have := deskB_codes hg2; omega
      have D2 := D.turn M4 f2 k2 C2
      clear s2 hg2
      have bc := D.box.cell
      have bf := D.box.frozen
      have cx := RN.cell
      go_wp2_with fail
      go_roundw
      case rel => exact ⟨j, t + 1, _, H2, e2, by go_num, by omega, D2.more (by omega)⟩
      case measure => simp [intOf]
    ·obtain rfl : j = 0 := by omega
     have hpi : ¬ (0 : Int) < ((0 : Nat) : Int) := by omega
     go_wp2_with fail
     refine (pick_any 32 g _ _ D.cur (by omega) (by decide) (by decide)).mono ?_
     rintro e w7 ⟨r2, rfl, -, c7, o7⟩
     have D7 := D.drawn c7 o7
     clear D c7 o7
     go_upto_block 4 with fail
     go_cut [] from 45 to 76 (fun wr => ∃ (H : DeskH) (d : DeskV), DeskS w wr g gd (n + 2500) H d)
     case first =>
      have bc := D7.box.cell
      by_cases r0 : r2 = 0
      ·subst r0
       go_upto_region 16 with fail
       obtain ⟨wi0, rfl⟩ : ∃ w' : World, w' = w7 := ⟨_, rfl⟩
       have D0 := D7
       clear D7 bc
       have D := D0.below ((Quiet.one wi0).below _)
       refine wp_region_held_drew (S := fun w' => True) (by kernel_rfl) (trivial) (fun hH => ?_)
       try replace hc := hc.next ((Quiet.one wi0).below _)
       generalize wi0.drew = wi1 at *
       refine wT (i := 0) (v := ?_) rfl (by kernel_rfl) (by kernel_rfl) (by kernel_rfl) (fun _ _ _ h => h) (Or.inl ⟨by rfl, ?_⟩) (by assumption) ?_
       rotate_left 1
       ·(intro w hSw; (try dsimp only at hSw); go_simp; try with_reducible rfl)
       (try simp only [Act.put, pX])
       refine wT (i := 2) (v := ?_) rfl (by kernel_rfl) (by kernel_rfl) (by kernel_rfl) (fun _ _ _ h => h) (Or.inl ⟨by rfl, ?_⟩) (by assumption) ?_
       rotate_left 1
       ·(intro w hSw; (try dsimp only at hSw); go_simp; try with_reducible rfl)
       (try simp only [Act.put, pX])
       refine wR (rs := [1, 3]) (by kernel_rfl) (by simp) ?_
       refine aC rfl (fun K hK => ?_) ?_
       go_simp
       have bc2 := D.box.cell
       go_simp
       clear bc2
       refine hK.out _ _ (trivial) (fun hH => ?_)
       clear hK K
       (try simp only [Act.put, pX])
       obtain ⟨wi2, rfl⟩ : ∃ w' : World, w' = wi1 := ⟨_, rfl⟩
       refine wR (rs := [3]) (by kernel_rfl) (by simp) ?_
       refine aC rfl (fun K hK => ?_) aN
       go_simp
       have U := (Below.refl wi2.heap.size wi2).alloc (Nat.le_refl _) (.cells #[.int .i64 0, .int .i64 1, .int .i64 10000] 3)
       have BL : Blk (wi2.alloc (.cells #[.int .i64 0, .int .i64 1, .int .i64 10000] 3)) wi2.heap.size 3 (ints [0, 1, 10000]) := Blk.at_ rfl
       have hgl : wi2.heap.size ≠ g := Nat.ne_of_gt D.cur.lt
       replace D := D.below U
       try replace B0 := B0.next U
       try replace BM := BM.next U
       clear U
       refine hK.out _ _ (trivial) (fun hH => ?_)
       clear hK K
       (try simp only [Act.put, pX])
       generalize wi2.alloc (.cells #[.int .i64 0, .int .i64 1, .int .i64 10000] 3) = wi3 at *
       generalize wi2.heap.size = gl at *
       (try clear bc)
       have bc := D.box.cell
       refine wR (rs := [4]) (by kernel_rfl) (by simp) ?_
       refine aC rfl (fun K hK => ?_) aN
       go_simp
       refine (among_any g _ gl 3 3 [0, 1, 10000] wi3 BL hgl D.cur (by omega) rfl (by decide) (by decide)).mono ?_
       rintro e wi4 ⟨x, rfl, -, kc, oc⟩
       replace D := D.drawn kc oc
       try replace BL := BL.only oc (fun (e : _ = _) => hgl e)
       try replace BM := BM.only oc (fun (e : _ = _) => hgm e)
       try replace RB := RB.only oc (fun (e : _ = _) => by have := D.nums; omega)
       clear kc oc
       (try clear bc)
       have bc := D.box.cell
       go_wp2_with fail
       refine hK.out _ _ (trivial) (fun hH => ?_)
       clear hK K
       (try simp only [Act.put, pX])
       refine wR (rs := [5]) (by kernel_rfl) (by simp) ?_
       refine aC rfl (fun K hK => ?_) aN
       go_simp
       have U := (Below.refl wi4.heap.size wi4).alloc (Nat.le_refl _) (.cells #[.int .i64 x] 3)
       have BX : Blk (wi4.alloc (.cells #[.int .i64 x] 3)) wi4.heap.size 3 [.int .i64 x] := Blk.at_ rfl
       have hgx : wi4.heap.size ≠ g := Nat.ne_of_gt D.cur.lt
       replace D := D.below U
       try replace BL := BL.next U
       try replace BM := BM.next U
       clear U
       refine hK.out _ _ (trivial) (fun hH => ?_)
       clear hK K
       (try simp only [Act.put, pX])
       generalize wi4.alloc (.cells #[.int .i64 x] 3) = wi5 at *
       generalize wi4.heap.size = gx at *
       (try clear bc)
       have bc := D.box.cell
       refine wR (rs := [6]) (by kernel_rfl) (by simp) ?_
       refine aC rfl (fun K hK => ?_) aN
       obtain ⟨col, M⟩ := D.mine
       have hsw := D.res.lt
       refine step_cat rfl _ _ _ (by rfl) Tryz.underlying24 info_int rfl (by decide) (by rfl) M.f1.own (by rfl) (m := 1) (BX.sees (s := 1) (Nat.zero_le _) rfl) (by rfl) (by have := D.fit.n1; omega) (by omega) (by decide) (Nat.zero_le _) ?_
       intro A6 c6 wi6 o6 h6 b6 q6
       have B6 := D.box.only h6 (fun hb => (M.f1.top _ hb).1.2.1 rfl)
       clear bc
       have bc := B6.cell
       have bf := B6.frozen
       refine hK.out _ _ (trivial) (fun hH => ?_)
       clear hK K
       (try simp only [Act.put, pX])
       refine wT (i := 7) (v := ?_) rfl (by kernel_rfl) (by kernel_rfl) (by kernel_rfl) (fun _ _ _ h => h) (Or.inl ⟨by rfl, ?_⟩) (by assumption) ?_
       rotate_left 1
       ·(intro w hSw; (try dsimp only at hSw); go_simp; try with_reducible rfl)
       (try simp only [Act.put, pX])
       refine wR (rs := [8]) (by kernel_rfl) (by simp) ?_
       refine aC rfl (fun K hK => ?_) aN
       go_simp
       refine hK.out _ _ (trivial) (fun hH => ?_)
       clear hK K
       (try simp only [Act.put, pX])
       refine wD (by kernel_rfl) ?_ _
       go_wp2_with fail
       go_meet
       exact ⟨_, _, D.known o6 h6 q6 (by omega)⟩
       refine aC rfl (fun K hK => ?_) aN
       go_simp
       have U := (Below.refl wi1.heap.size wi1).alloc (Nat.le_refl _) (.cells #[.int .i64 0, .int .i64 1, .int .i64 10000] 3)
       have BL : Blk (wi1.alloc (.cells #[.int .i64 0, .int .i64 1, .int .i64 10000] 3)) wi1.heap.size 3 (ints [0, 1, 10000]) := Blk.at_ rfl
       have hgl : wi1.heap.size ≠ g := Nat.ne_of_gt D.cur.lt
       replace D := D.below U
       try replace B0 := B0.next U
       try replace BM := BM.next U
       clear U
       refine hK.out _ _ (trivial) (fun hH => ?_)
       clear hK K
       (try simp only [Act.put, pX])
       generalize wi1.alloc (.cells #[.int .i64 0, .int .i64 1, .int .i64 10000] 3) = wi2 at *
       generalize wi1.heap.size = gl at *
       (try clear bc)
       have bc := D.box.cell
       refine wR (rs := [1, 4]) (by kernel_rfl) (by simp) ?_
       refine aC rfl (fun K hK => ?_) ?_
       go_simp
       have bc2 := D.box.cell
       go_simp
       clear bc2
       refine hK.out _ _ (trivial) (fun hH => ?_)
       clear hK K
       (try simp only [Act.put, pX])
       obtain ⟨wi3, rfl⟩ : ∃ w' : World, w' = wi2 := ⟨_, rfl⟩
       refine wR (rs := [4]) (by kernel_rfl) (by simp) ?_
       refine aC rfl (fun K hK => ?_) aN
       go_simp
       refine (among_any g _ gl 3 3 [0, 1, 10000] wi3 BL hgl D.cur (by omega) rfl (by decide) (by decide)).mono ?_
       rintro e wi4 ⟨x, rfl, -, kc, oc⟩
       replace D := D.drawn kc oc
       try replace BL := BL.only oc (fun (e : _ = _) => hgl e)
       try replace BM := BM.only oc (fun (e : _ = _) => hgm e)
       try replace RB := RB.only oc (fun (e : _ = _) => by have := D.nums; omega)
       clear kc oc
       (try clear bc)
       have bc := D.box.cell
       go_wp2_with fail
       refine hK.out _ _ (trivial) (fun hH => ?_)
       clear hK K
       (try simp only [Act.put, pX])
       refine wR (rs := [5]) (by kernel_rfl) (by simp) ?_
       refine aC rfl (fun K hK => ?_) aN
       go_simp
       have U := (Below.refl wi4.heap.size wi4).alloc (Nat.le_refl _) (.cells #[.int .i64 x] 3)
       have BX : Blk (wi4.alloc (.cells #[.int .i64 x] 3)) wi4.heap.size 3 [.int .i64 x] := Blk.at_ rfl
       have hgx : wi4.heap.size ≠ g := Nat.ne_of_gt D.cur.lt
       replace D := D.below U
       try replace BL := BL.next U
       try replace BM := BM.next U
       clear U
       refine hK.out _ _ (trivial) (fun hH => ?_)
       clear hK K
       (try simp only [Act.put, pX])
       generalize wi4.alloc (.cells #[.int .i64 x] 3) = wi5 at *
       generalize wi4.heap.size = gx at *
       (try clear bc)
       have bc := D.box.cell
       refine wR (rs := [6]) (by kernel_rfl) (by simp) ?_
       refine aC rfl (fun K hK => ?_) aN
       obtain ⟨col, M⟩ := D.mine
       have hsw := D.res.lt
       refine step_cat rfl _ _ _ (by rfl) Tryz.underlying24 info_int rfl (by decide) (by rfl) M.f1.own (by rfl) (m := 1) (BX.sees (s := 1) (Nat.zero_le _) rfl) (by rfl) (by have := D.fit.n1; omega) (by omega) (by decide) (Nat.zero_le _) ?_
       intro A6 c6 wi6 o6 h6 b6 q6
       have B6 := D.box.only h6 (fun hb => (M.f1.top _ hb).1.2.1 rfl)
       clear bc
       have bc := B6.cell
       have bf := B6.frozen
       refine hK.out _ _ (trivial) (fun hH => ?_)
       clear hK K
       (try simp only [Act.put, pX])
       refine wT (i := 7) (v := ?_) rfl (by kernel_rfl) (by kernel_rfl) (by kernel_rfl) (fun _ _ _ h => h) (Or.inl ⟨by rfl, ?_⟩) (by assumption) ?_
       rotate_left 1
       ·(intro w hSw; (try dsimp only at hSw); go_simp; try with_reducible rfl)
       (try simp only [Act.put, pX])
       refine wR (rs := [8]) (by kernel_rfl) (by simp) ?_
       refine aC rfl (fun K hK => ?_) aN
       go_simp
       refine hK.out _ _ (trivial) (fun hH => ?_)
       clear hK K
       (try simp only [Act.put, pX])
       refine wD (by kernel_rfl) ?_ _
       go_wp2_with fail
       go_meet
       exact ⟨_, _, D.known o6 h6 q6 (by omega)⟩
       refine aC rfl (fun K hK => ?_) aN
       go_simp
       refine (among_any g _ gl 3 3 [0, 1, 10000] wi2 BL hgl D.cur (by omega) rfl (by decide) (by decide)).mono ?_
       rintro e wi3 ⟨x, rfl, -, kc, oc⟩
       replace D := D.drawn kc oc
       try replace BL := BL.only oc (fun (e : _ = _) => hgl e)
       try replace BM := BM.only oc (fun (e : _ = _) => hgm e)
       try replace RB := RB.only oc (fun (e : _ = _) => by have := D.nums; omega)
       clear kc oc
       (try clear bc)
       have bc := D.box.cell
       go_wp2_with fail
       refine hK.out _ _ (trivial) (fun hH => ?_)
       clear hK K
       (try simp only [Act.put, pX])
       refine wR (rs := [1, 5]) (by kernel_rfl) (by simp) ?_
       refine aC rfl (fun K hK => ?_) ?_
       go_simp
       have bc2 := D.box.cell
       go_simp
       clear bc2
       refine hK.out _ _ (trivial) (fun hH => ?_)
       clear hK K
       (try simp only [Act.put, pX])
       obtain ⟨wi4, rfl⟩ : ∃ w' : World, w' = wi3 := ⟨_, rfl⟩
       refine wR (rs := [5]) (by kernel_rfl) (by simp) ?_
       refine aC rfl (fun K hK => ?_) aN
       go_simp
       have U := (Below.refl wi4.heap.size wi4).alloc (Nat.le_refl _) (.cells #[.int .i64 x] 3)
       have BX : Blk (wi4.alloc (.cells #[.int .i64 x] 3)) wi4.heap.size 3 [.int .i64 x] := Blk.at_ rfl
       have hgx : wi4.heap.size ≠ g := Nat.ne_of_gt D.cur.lt
       replace D := D.below U
       try replace BL := BL.next U
       try replace BM := BM.next U
       clear U
       refine hK.out _ _ (trivial) (fun hH => ?_)
       clear hK K
       (try simp only [Act.put, pX])
       generalize wi4.alloc (.cells #[.int .i64 x] 3) = wi5 at *
       generalize wi4.heap.size = gx at *
       (try clear bc)
       have bc := D.box.cell
       refine wR (rs := [6]) (by kernel_rfl) (by simp) ?_
       refine aC rfl (fun K hK => ?_) aN
       obtain ⟨col, M⟩ := D.mine
       have hsw := D.res.lt
       refine step_cat rfl _ _ _ (by rfl) Tryz.underlying24 info_int rfl (by decide) (by rfl) M.f1.own (by rfl) (m := 1) (BX.sees (s := 1) (Nat.zero_le _) rfl) (by rfl) (by have := D.fit.n1; omega) (by omega) (by decide) (Nat.zero_le _) ?_
       intro A6 c6 wi6 o6 h6 b6 q6
       have B6 := D.box.only h6 (fun hb => (M.f1.top _ hb).1.2.1 rfl)
       clear bc
       have bc := B6.cell
       have bf := B6.frozen
       refine hK.out _ _ (trivial) (fun hH => ?_)
       clear hK K
       (try simp only [Act.put, pX])
       refine wT (i := 7) (v := ?_) rfl (by kernel_rfl) (by kernel_rfl) (by kernel_rfl) (fun _ _ _ h => h) (Or.inl ⟨by rfl, ?_⟩) (by assumption) ?_
       rotate_left 1
       ·(intro w hSw; (try dsimp only at hSw); go_simp; try with_reducible rfl)
       (try simp only [Act.put, pX])
       refine wR (rs := [8]) (by kernel_rfl) (by simp) ?_
       refine aC rfl (fun K hK => ?_) aN
       go_simp
       refine hK.out _ _ (trivial) (fun hH => ?_)
       clear hK K
       (try simp only [Act.put, pX])
       refine wD (by kernel_rfl) ?_ _
       go_wp2_with fail
       go_meet
       exact ⟨_, _, D.known o6 h6 q6 (by omega)⟩
       refine aC rfl (fun K hK => ?_) aN
       go_simp
       have U := (Below.refl wi3.heap.size wi3).alloc (Nat.le_refl _) (.cells #[.int .i64 x] 3)
       have BX : Blk (wi3.alloc (.cells #[.int .i64 x] 3)) wi3.heap.size 3 [.int .i64 x] := Blk.at_ rfl
       have hgx : wi3.heap.size ≠ g := Nat.ne_of_gt D.cur.lt
       replace D := D.below U
       try replace BL := BL.next U
       try replace BM := BM.next U
       clear U
       refine hK.out _ _ (trivial) (fun hH => ?_)
       clear hK K
       (try simp only [Act.put, pX])
       generalize wi3.alloc (.cells #[.int .i64 x] 3) = wi4 at *
       generalize wi3.heap.size = gx at *
       (try clear bc)
       have bc := D.box.cell
       refine wR (rs := [1]) (by kernel_rfl) (by simp) ?_
       refine aC rfl (fun K hK => ?_) aN
       go_simp
       have bc2 := D.box.cell
       go_simp
       clear bc2
       refine hK.out _ _ (trivial) (fun hH => ?_)
       clear hK K
       (try simp only [Act.put, pX])
       obtain ⟨wi5, rfl⟩ : ∃ w' : World, w' = wi4 := ⟨_, rfl⟩
       refine wR (rs := [6]) (by kernel_rfl) (by simp) ?_
       refine aC rfl (fun K hK => ?_) aN
       obtain ⟨col, M⟩ := D.mine
       have hsw := D.res.lt
       refine step_cat rfl _ _ _ (by rfl) Tryz.underlying24 info_int rfl (by decide) (by rfl) M.f1.own (by rfl) (m := 1) (BX.sees (s := 1) (Nat.zero_le _) rfl) (by rfl) (by have := D.fit.n1; omega) (by omega) (by decide) (Nat.zero_le _) ?_
       intro A6 c6 wi6 o6 h6 b6 q6
       have B6 := D.box.only h6 (fun hb => (M.f1.top _ hb).1.2.1 rfl)
       clear bc
       have bc := B6.cell
       have bf := B6.frozen
       refine hK.out _ _ (trivial) (fun hH => ?_)
       clear hK K
       (try simp only [Act.put, pX])
       refine wT (i := 7) (v := ?_) rfl (by kernel_rfl) (by kernel_rfl) (by kernel_rfl) (fun _ _ _ h => h) (Or.inl ⟨by rfl, ?_⟩) (by assumption) ?_
       rotate_left 1
       ·(intro w hSw; (try dsimp only at hSw); go_simp; try with_reducible rfl)
       (try simp only [Act.put, pX])
       refine wR (rs := [8]) (by kernel_rfl) (by simp) ?_
       refine aC rfl (fun K hK => ?_) aN
       go_simp
       refine hK.out _ _ (trivial) (fun hH => ?_)
       clear hK K
       (try simp only [Act.put, pX])
       refine wD (by kernel_rfl) ?_ _
       go_wp2_with fail
       go_meet
       exact ⟨_, _, D.known o6 h6 q6 (by omega)⟩
      have e0 : ((r2 : Int) == 0) = false := beq_eq_false_iff_ne.2 (by omega)
      by_cases r1 : r2 = 1
      ·subst r1
       go_upto_region 18 with fail
       obtain ⟨wi0, rfl⟩ : ∃ w' : World, w' = w7 := ⟨_, rfl⟩
       have D0 := D7
       clear D7 bc
       have D := D0.below ((Quiet.one wi0).below _)
       refine wp_region_held_drew (S := fun w' => True) (by kernel_rfl) (trivial) (fun hH => ?_)
       try replace hc := hc.next ((Quiet.one wi0).below _)
       generalize wi0.drew = wi1 at *
       refine wT (i := 0) (v := ?_) rfl (by kernel_rfl) (by kernel_rfl) (by kernel_rfl) (fun _ _ _ h => h) (Or.inl ⟨by rfl, ?_⟩) (by assumption) ?_
       rotate_left 1
       ·(intro w hSw; (try dsimp only at hSw); go_simp; try with_reducible rfl)
       (try simp only [Act.put, pX])
       refine wT (i := 2) (v := ?_) rfl (by kernel_rfl) (by kernel_rfl) (by kernel_rfl) (fun _ _ _ h => h) (Or.inl ⟨by rfl, ?_⟩) (by assumption) ?_
       rotate_left 1
       ·(intro w hSw; (try dsimp only at hSw); go_simp; try with_reducible rfl)
       (try simp only [Act.put, pX])
       refine wT (i := 5) (v := ?_) rfl (by kernel_rfl) (by kernel_rfl) (by kernel_rfl) (fun _ _ _ h => h) (Or.inl ⟨by rfl, ?_⟩) (by assumption) ?_
       rotate_left 1
       ·(intro w hSw; (try dsimp only at hSw); go_simp; try with_reducible rfl)
       (try simp only [Act.put, pX])
       refine wR (rs := [1, 3, 6]) (by kernel_rfl) (by simp) ?_
       refine aC rfl (fun K hK => ?_) ?_
       go_simp
       have bc2 := D.box.cell
       go_simp
       clear bc2
       refine hK.out _ _ (trivial) (fun hH => ?_)
       clear hK K
       (try simp only [Act.put, pX])
       obtain ⟨wi2, rfl⟩ : ∃ w' : World, w' = wi1 := ⟨_, rfl⟩
       refine wR (rs := [3, 6]) (by kernel_rfl) (by simp) ?_
       refine aC rfl (fun K hK => ?_) ?_
       go_simp
       have U := (Below.refl wi2.heap.size wi2).alloc (Nat.le_refl _) (.cells #[.int .i64 1, .int .i64 2, .int .i64 5, .int .i64 17] 3)
       have BL : Blk (wi2.alloc (.cells #[.int .i64 1, .int .i64 2, .int .i64 5, .int .i64 17] 3)) wi2.heap.size 3 (ints [1, 2, 5, 17]) := Blk.at_ rfl
       have hgl : wi2.heap.size ≠ g := Nat.ne_of_gt D.cur.lt
       replace D := D.below U
       try replace B0 := B0.next U
       try replace BM := BM.next U
       clear U
       refine hK.out _ _ (trivial) (fun hH => ?_)
       clear hK K
       (try simp only [Act.put, pX])
       generalize wi2.alloc (.cells #[.int .i64 1, .int .i64 2, .int .i64 5, .int .i64 17] 3) = wi3 at *
       generalize wi2.heap.size = gl at *
       (try clear bc)
       have bc := D.box.cell
       refine wR (rs := [4, 6]) (by kernel_rfl) (by simp) ?_
       refine aC rfl (fun K hK => ?_) ?_
       go_simp
       refine (among_any g _ gl 4 3 [1, 2, 5, 17] wi3 BL hgl D.cur (by omega) rfl (by decide) (by decide)).mono ?_
       rintro e wi4 ⟨x, rfl, -, kc, oc⟩
       replace D := D.drawn kc oc
       try replace BL := BL.only oc (fun (e : _ = _) => hgl e)
       try replace BM := BM.only oc (fun (e : _ = _) => hgm e)
       try replace RB := RB.only oc (fun (e : _ = _) => by have := D.nums; omega)
       clear kc oc
       (try clear bc)
       have bc := D.box.cell
       go_wp2_with fail
       refine hK.out _ _ (trivial) (fun hH => ?_)
       clear hK K
       (try simp only [Act.put, pX])
       refine wR (rs := [6]) (by kernel_rfl) (by simp) ?_
       refine aC rfl (fun K hK => ?_) aN
       go_simp
       have U := (Below.refl wi4.heap.size wi4).alloc (Nat.le_refl _) (.cells #[.int .i64 0, .int .i64 (-1), .int .i64 13] 3)
       have BM : Blk (wi4.alloc (.cells #[.int .i64 0, .int .i64 (-1), .int .i64 13] 3)) wi4.heap.size 3 (ints [0, -1, 13]) := Blk.at_ rfl
       have hgm : wi4.heap.size ≠ g := Nat.ne_of_gt D.cur.lt
       replace D := D.below U
       try replace BL := BL.next U
       try replace B0 := B0.next U
       clear U
       refine hK.out _ _ (trivial) (fun hH => ?_)
       clear hK K
       (try simp only [Act.put, pX])
       generalize wi4.alloc (.cells #[.int .i64 0, .int .i64 (-1), .int .i64 13] 3) = wi5 at *
       generalize wi4.heap.size = gm at *
       (try clear bc)
       have bc := D.box.cell
       refine wR (rs := [7]) (by kernel_rfl) (by simp) ?_
       refine aC rfl (fun K hK => ?_) aN
       go_simp
       refine (among_any g _ gm 3 3 [0, -1, 13] wi5 BM hgm D.cur (by omega) rfl (by decide) (by decide)).mono ?_
       rintro e wi6 ⟨y, rfl, -, kc, oc⟩
       replace D := D.drawn kc oc
       try replace BL := BL.only oc (fun (e : _ = _) => hgl e)
       try replace BM := BM.only oc (fun (e : _ = _) => hgm e)
       try replace RB := RB.only oc (fun (e : _ = _) => by have := D.nums; omega)
       clear kc oc
       (try clear bc)
       have bc := D.box.cell
       go_wp2_with fail
       refine hK.out _ _ (trivial) (fun hH => ?_)
       clear hK K
       (try simp only [Act.put, pX])
       refine wT (i := 8) (v := ?_) rfl (by kernel_rfl) (by kernel_rfl) (by kernel_rfl) (fun _ _ _ h => h) (Or.inl ⟨by rfl, ?_⟩) (by assumption) ?_
       rotate_left 1
       ·(intro w hSw; (try dsimp only at hSw); go_simp; try with_reducible rfl)
       (try simp only [Act.put, pX])
       refine wR (rs := [9]) (by kernel_rfl) (by simp) ?_
       refine aC rfl (fun K hK => ?_) aN
       go_simp
       have U := (Below.refl wi6.heap.size wi6).alloc (Nat.le_refl _) (.cells #[.int .i64 x, .int .i64 y, .int .i64 0] 41)
       have BX : Blk (wi6.alloc (.cells #[.int .i64 x, .int .i64 y, .int .i64 0] 41)) wi6.heap.size 41 [.int .i64 x, .int .i64 y, .int .i64 0] := Blk.at_ rfl
       have hgx : wi6.heap.size ≠ g := Nat.ne_of_gt D.cur.lt
       replace D := D.below U
       try replace BL := BL.next U
       try replace BM := BM.next U
       clear U
       refine hK.out _ _ (trivial) (fun hH => ?_)
       clear hK K
       (try simp only [Act.put, pX])
       generalize wi6.alloc (.cells #[.int .i64 x, .int .i64 y, .int .i64 0] 41) = wi7 at *
       generalize wi6.heap.size = gx at *
       (try clear bc)
       have bc := D.box.cell
       refine wR (rs := [10]) (by kernel_rfl) (by simp) ?_
       refine aC rfl (fun K hK => ?_) aN
       obtain ⟨col, M⟩ := D.mine
       have hsw := D.res.lt
       refine step_cat rfl _ _ _ (by rfl) Tryz.underlying26 info_impl_DeskRow rfl (by decide) (by rfl) M.f3.own (by rfl) (m := 1) (BX.sees (s := 3) (Nat.zero_le _) rfl) (by rfl) (by have := D.fit.n3; omega) (by omega) (by decide) (Nat.zero_le _) ?_
       intro A6 c6 wi8 o6 h6 b6 q6
       have B6 := D.box.only h6 (fun hb => (M.f3.top _ hb).1.2.1 rfl)
       clear bc
       have bc := B6.cell
       have bf := B6.frozen
       refine hK.out _ _ (trivial) (fun hH => ?_)
       clear hK K
       (try simp only [Act.put, pX])
       refine wT (i := 11) (v := ?_) rfl (by kernel_rfl) (by kernel_rfl) (by kernel_rfl) (fun _ _ _ h => h) (Or.inl ⟨by rfl, ?_⟩) (by assumption) ?_
       rotate_left 1
       ·(intro w hSw; (try dsimp only at hSw); go_simp; try with_reducible rfl)
       (try simp only [Act.put, pX])
       refine wR (rs := [12]) (by kernel_rfl) (by simp) ?_
       refine aC rfl (fun K hK => ?_) aN
       go_simp
       refine hK.out _ _ (trivial) (fun hH => ?_)
       clear hK K
       (try simp only [Act.put, pX])
       refine wD (by kernel_rfl) ?_ _
       go_wp2_with fail
       go_meet
       exact ⟨_, _, D.row (x := ⟨x, y, 0⟩) o6 h6 q6 (by omega)⟩
       refine aC rfl (fun K hK => ?_) aN
       go_simp
       have U := (Below.refl wi3.heap.size wi3).alloc (Nat.le_refl _) (.cells #[.int .i64 0, .int .i64 (-1), .int .i64 13] 3)
       have BM : Blk (wi3.alloc (.cells #[.int .i64 0, .int .i64 (-1), .int .i64 13] 3)) wi3.heap.size 3 (ints [0, -1, 13]) := Blk.at_ rfl
       have hgm : wi3.heap.size ≠ g := Nat.ne_of_gt D.cur.lt
       replace D := D.below U
       try replace BL := BL.next U
       try replace B0 := B0.next U
       clear U
       refine hK.out _ _ (trivial) (fun hH => ?_)
       clear hK K
       (try simp only [Act.put, pX])
       generalize wi3.alloc (.cells #[.int .i64 0, .int .i64 (-1), .int .i64 13] 3) = wi4 at *
       generalize wi3.heap.size = gm at *
       (try clear bc)
       have bc := D.box.cell
       refine wR (rs := [4]) (by kernel_rfl) (by simp) ?_
       refine aC rfl (fun K hK => ?_) aN
       go_simp
       refine (among_any g _ gl 4 3 [1, 2, 5, 17] wi4 BL hgl D.cur (by omega) rfl (by decide) (by decide)).mono ?_
       rintro e wi5 ⟨x, rfl, -, kc, oc⟩
       replace D := D.drawn kc oc
       try replace BL := BL.only oc (fun (e : _ = _) => hgl e)
       try replace BM := BM.only oc (fun (e : _ = _) => hgm e)
       try replace RB := RB.only oc (fun (e : _ = _) => by have := D.nums; omega)
       clear kc oc
       (try clear bc)
       have bc := D.box.cell
       go_wp2_with fail
       refine hK.out _ _ (trivial) (fun hH => ?_)
       clear hK K
       (try simp only [Act.put, pX])
       refine wR (rs := [7]) (by kernel_rfl) (by simp) ?_
       refine aC rfl (fun K hK => ?_) aN
       go_simp
       refine (among_any g _ gm 3 3 [0, -1, 13] wi5 BM hgm D.cur (by omega) rfl (by decide) (by decide)).mono ?_
       rintro e wi6 ⟨y, rfl, -, kc, oc⟩
       replace D := D.drawn kc oc
       try replace BL := BL.only oc (fun (e : _ = _) => hgl e)
       try replace BM := BM.only oc (fun (e : _ = _) => hgm e)
       try replace RB := RB.only oc (fun (e : _ = _) => by have := D.nums; omega)
       clear kc oc
       (try clear bc)
       have bc := D.box.cell
       go_wp2_with fail
       refine hK.out _ _ (trivial) (fun hH => ?_)
       clear hK K
       (try simp only [Act.put, pX])
       refine wT (i := 8) (v := ?_) rfl (by kernel_rfl) (by kernel_rfl) (by kernel_rfl) (fun _ _ _ h => h) (Or.inl ⟨by rfl, ?_⟩) (by assumption) ?_
       rotate_left 1
       ·(intro w hSw; (try dsimp only at hSw); go_simp; try with_reducible rfl)
       (try simp only [Act.put, pX])
       refine wR (rs := [9]) (by kernel_rfl) (by simp) ?_
       refine aC rfl (fun K hK => ?_) aN
       go_simp
       have U := (Below.refl wi6.heap.size wi6).alloc (Nat.le_refl _) (.cells #[.int .i64 x, .int .i64 y, .int .i64 0] 41)
       have BX : Blk (wi6.alloc (.cells #[.int .i64 x, .int .i64 y, .int .i64 0] 41)) wi6.heap.size 41 [.int .i64 x, .int .i64 y, .int .i64 0] := Blk.at_ rfl
       have hgx : wi6.heap.size ≠ g := Nat.ne_of_gt D.cur.lt
       replace D := D.below U
       try replace BL := BL.next U
       try replace BM := BM.next U
       clear U
       refine hK.out _ _ (trivial) (fun hH => ?_)
       clear hK K
       (try simp only [Act.put, pX])
       generalize wi6.alloc (.cells #[.int .i64 x, .int .i64 y, .int .i64 0] 41) = wi7 at *
       generalize wi6.heap.size = gx at *
       (try clear bc)
       have bc := D.box.cell
       refine wR (rs := [10]) (by kernel_rfl) (by simp) ?_
       refine aC rfl (fun K hK => ?_) aN
       obtain ⟨col, M⟩ := D.mine
       have hsw := D.res.lt
       refine step_cat rfl _ _ _ (by rfl) Tryz.underlying26 info_impl_DeskRow rfl (by decide) (by rfl) M.f3.own (by rfl) (m := 1) (BX.sees (s := 3) (Nat.zero_le _) rfl) (by rfl) (by have := D.fit.n3; omega) (by omega) (by decide) (Nat.zero_le _) ?_
       intro A6 c6 wi8 o6 h6 b6 q6
       have B6 := D.box.only h6 (fun hb => (M.f3.top _ hb).1.2.1 rfl)
       clear bc
       have bc := B6.cell
       have bf := B6.frozen
       refine hK.out _ _ (trivial) (fun hH => ?_)
       clear hK K
       (try simp only [Act.put, pX])
       refine wT (i := 11) (v := ?_) rfl (by kernel_rfl) (by kernel_rfl) (by kernel_rfl) (fun _ _ _ h => h) (Or.inl ⟨by rfl, ?_⟩) (by assumption) ?_
       rotate_left 1
       ·(intro w hSw; (try dsimp only at hSw); go_simp; try with_reducible rfl)
       (try simp only [Act.put, pX])
       refine wR (rs := [12]) (by kernel_rfl) (by simp) ?_
       refine aC rfl (fun K hK => ?_) aN
       go_simp
       refine hK.out _ _ (trivial) (fun hH => ?_)
       clear hK K
       (try simp only [Act.put, pX])
       refine wD (by kernel_rfl) ?_ _
       go_wp2_with fail
       go_meet
       exact ⟨_, _, D.row (x := ⟨x, y, 0⟩) o6 h6 q6 (by omega)⟩
       refine aC rfl (fun K hK => ?_) aN
       go_simp
       have U := (Below.refl wi2.heap.size wi2).alloc (Nat.le_refl _) (.cells #[.int .i64 0, .int .i64 (-1), .int .i64 13] 3)
       have BM : Blk (wi2.alloc (.cells #[.int .i64 0, .int .i64 (-1), .int .i64 13] 3)) wi2.heap.size 3 (ints [0, -1, 13]) := Blk.at_ rfl
       have hgm : wi2.heap.size ≠ g := Nat.ne_of_gt D.cur.lt
       replace D := D.below U
       try replace BL := BL.next U
       try replace B0 := B0.next U
       clear U
       refine hK.out _ _ (trivial) (fun hH => ?_)
       clear hK K
       (try simp only [Act.put, pX])
       generalize wi2.alloc (.cells #[.int .i64 0, .int .i64 (-1), .int .i64 13] 3) = wi3 at *
       generalize wi2.heap.size = gm at *
       (try clear bc)
       have bc := D.box.cell
       refine wR (rs := [3]) (by kernel_rfl) (by simp) ?_
       refine aC rfl (fun K hK => ?_) aN
       go_simp
       have U := (Below.refl wi3.heap.size wi3).alloc (Nat.le_refl _) (.cells #[.int .i64 1, .int .i64 2, .int .i64 5, .int .i64 17] 3)
       have BL : Blk (wi3.alloc (.cells #[.int .i64 1, .int .i64 2, .int .i64 5, .int .i64 17] 3)) wi3.heap.size 3 (ints [1, 2, 5, 17]) := Blk.at_ rfl
       have hgl : wi3.heap.size ≠ g := Nat.ne_of_gt D.cur.lt
       replace D := D.below U
       try replace B0 := B0.next U
       try replace BM := BM.next U
       clear U
       refine hK.out _ _ (trivial) (fun hH => ?_)
       clear hK K
       (try simp only [Act.put, pX])
       generalize wi3.alloc (.cells #[.int .i64 1, .int .i64 2, .int .i64 5, .int .i64 17] 3) = wi4 at *
       generalize wi3.heap.size = gl at *
       (try clear bc)
       have bc := D.box.cell
       refine wR (rs := [4]) (by kernel_rfl) (by simp) ?_
       refine aC rfl (fun K hK => ?_) aN
       go_simp
       refine (among_any g _ gl 4 3 [1, 2, 5, 17] wi4 BL hgl D.cur (by omega) rfl (by decide) (by decide)).mono ?_
       rintro e wi5 ⟨x, rfl, -, kc, oc⟩
       replace D := D.drawn kc oc
       try replace BL := BL.only oc (fun (e : _ = _) => hgl e)
       try replace BM := BM.only oc (fun (e : _ = _) => hgm e)
       try replace RB := RB.only oc (fun (e : _ = _) => by have := D.nums; omega)
       clear kc oc
       (try clear bc)
       have bc := D.box.cell
       go_wp2_with fail
       refine hK.out _ _ (trivial) (fun hH => ?_)
       clear hK K
       (try simp only [Act.put, pX])
       refine wR (rs := [7]) (by kernel_rfl) (by simp) ?_
       refine aC rfl (fun K hK => ?_) aN
       go_simp
       refine (among_any g _ gm 3 3 [0, -1, 13] wi5 BM hgm D.cur (by omega) rfl (by decide) (by decide)).mono ?_
       rintro e wi6 ⟨y, rfl, -, kc, oc⟩
       replace D := D.drawn kc oc
       try replace BL := BL.only oc (fun (e : _ = _) => hgl e)
       try replace BM := BM.only oc (fun (e : _ = _) => hgm e)
       try replace RB := RB.only oc (fun (e : _ = _) => by have := D.nums; omega)
       clear kc oc
       (try clear bc)
       have bc := D.box.cell
       go_wp2_with fail
       refine hK.out _ _ (trivial) (fun hH => ?_)
       clear hK K
       (try simp only [Act.put, pX])
       refine wT (i := 8) (v := ?_) rfl (by kernel_rfl) (by kernel_rfl) (by kernel_rfl) (fun _ _ _ h => h) (Or.inl ⟨by rfl, ?_⟩) (by assumption) ?_
       rotate_left 1
       ·(intro w hSw; (try dsimp only at hSw); go_simp; try with_reducible rfl)
       (try simp only [Act.put, pX])
       refine wR (rs := [9]) (by kernel_rfl) (by simp) ?_
       refine aC rfl (fun K hK => ?_) aN
       go_simp
       have U := (Below.refl wi6.heap.size wi6).alloc (Nat.le_refl _) (.cells #[.int .i64 x, .int .i64 y, .int .i64 0] 41)
       have BX : Blk (wi6.alloc (.cells #[.int .i64 x, .int .i64 y, .int .i64 0] 41)) wi6.heap.size 41 [.int .i64 x, .int .i64 y, .int .i64 0] := Blk.at_ rfl
       have hgx : wi6.heap.size ≠ g := Nat.ne_of_gt D.cur.lt
       replace D := D.below U
       try replace BL := BL.next U
       try replace BM := BM.next U
       clear U
       refine hK.out _ _ (trivial) (fun hH => ?_)
       clear hK K
       (try simp only [Act.put, pX])
       generalize wi6.alloc (.cells #[.int .i64 x, .int .i64 y, .int .i64 0] 41) = wi7 at *
       generalize wi6.heap.size = gx at *
       (try clear bc)
       have bc := D.box.cell
       refine wR (rs := [10]) (by kernel_rfl) (by simp) ?_
       refine aC rfl (fun K hK => ?_) aN
       obtain ⟨col, M⟩ := D.mine
       have hsw := D.res.lt
       refine step_cat rfl _ _ _ (by rfl) Tryz.underlying26 info_impl_DeskRow rfl (by decide) (by rfl) M.f3.own (by rfl) (m := 1) (BX.sees (s := 3) (Nat.zero_le _) rfl) (by rfl) (by have := D.fit.n3; omega) (by omega) (by decide) (Nat.zero_le _) ?_
       intro A6 c6 wi8 o6 h6 b6 q6
       have B6 := D.box.only h6 (fun hb => (M.f3.top _ hb).1.2.1 rfl)
       clear bc
       have bc := B6.cell
       have bf := B6.frozen
       refine hK.out _ _ (trivial) (fun hH => ?_)
       clear hK K
       (try simp only [Act.put, pX])
       refine wT (i := 11) (v := ?_) rfl (by kernel_rfl) (by kernel_rfl) (by kernel_rfl) (fun _ _ _ h => h) (Or.inl ⟨by rfl, ?_⟩) (by assumption) ?_
       rotate_left 1
       ·(intro w hSw; (try dsimp only at hSw); go_simp; try with_reducible rfl)
       (try simp only [Act.put, pX])
       refine wR (rs := [12]) (by kernel_rfl) (by simp) ?_
       refine aC rfl (fun K hK => ?_) aN
       go_simp
       refine hK.out _ _ (trivial) (fun hH => ?_)
       clear hK K
       (try simp only [Act.put, pX])
       refine wD (by kernel_rfl) ?_ _
       go_wp2_with fail
       go_meet
       exact ⟨_, _, D.row (x := ⟨x, y, 0⟩) o6 h6 q6 (by omega)⟩
       refine aC rfl (fun K hK => ?_) ?_
       go_simp
       have U := (Below.refl wi1.heap.size wi1).alloc (Nat.le_refl _) (.cells #[.int .i64 1, .int .i64 2, .int .i64 5, .int .i64 17] 3)
       have BL : Blk (wi1.alloc (.cells #[.int .i64 1, .int .i64 2, .int .i64 5, .int .i64 17] 3)) wi1.heap.size 3 (ints [1, 2, 5, 17]) := Blk.at_ rfl
       have hgl : wi1.heap.size ≠ g := Nat.ne_of_gt D.cur.lt
       replace D := D.below U
       try replace B0 := B0.next U
       try replace BM := BM.next U
       clear U
       refine hK.out _ _ (trivial) (fun hH => ?_)
       clear hK K
       (try simp only [Act.put, pX])
       generalize wi1.alloc (.cells #[.int .i64 1, .int .i64 2, .int .i64 5, .int .i64 17] 3) = wi2 at *
       generalize wi1.heap.size = gl at *
       (try clear bc)
       have bc := D.box.cell
       refine wR (rs := [1, 4, 6]) (by kernel_rfl) (by simp) ?_
       refine aC rfl (fun K hK => ?_) ?_
       go_simp
       have bc2 := D.box.cell
       go_simp
       clear bc2
       refine hK.out _ _ (trivial) (fun hH => ?_)
       clear hK K
       (try simp only [Act.put, pX])
       obtain ⟨wi3, rfl⟩ : ∃ w' : World, w' = wi2 := ⟨_, rfl⟩
       refine wR (rs := [4, 6]) (by kernel_rfl) (by simp) ?_
       refine aC rfl (fun K hK => ?_) ?_
       go_simp
       refine (among_any g _ gl 4 3 [1, 2, 5, 17] wi3 BL hgl D.cur (by omega) rfl (by decide) (by decide)).mono ?_
       rintro e wi4 ⟨x, rfl, -, kc, oc⟩
       replace D := D.drawn kc oc
       try replace BL := BL.only oc (fun (e : _ = _) => hgl e)
       try replace BM := BM.only oc (fun (e : _ = _) => hgm e)
       try replace RB := RB.only oc (fun (e : _ = _) => by have := D.nums; omega)
       clear kc oc
       (try clear bc)
       have bc := D.box.cell
       go_wp2_with fail
       refine hK.out _ _ (trivial) (fun hH => ?_)
       clear hK K
       (try simp only [Act.put, pX])
       refine wR (rs := [6]) (by kernel_rfl) (by simp) ?_
       refine aC rfl (fun K hK => ?_) aN
       go_simp
       have U := (Below.refl wi4.heap.size wi4).alloc (Nat.le_refl _) (.cells #[.int .i64 0, .int .i64 (-1), .int .i64 13] 3)
       have BM : Blk (wi4.alloc (.cells #[.int .i64 0, .int .i64 (-1), .int .i64 13] 3)) wi4.heap.size 3 (ints [0, -1, 13]) := Blk.at_ rfl
       have hgm : wi4.heap.size ≠ g := Nat.ne_of_gt D.cur.lt
       replace D := D.below U
       try replace BL := BL.next U
       try replace B0 := B0.next U
       clear U
       refine hK.out _ _ (trivial) (fun hH => ?_)
       clear hK K
       (try simp only [Act.put, pX])
       generalize wi4.alloc (.cells #[.int .i64 0, .int .i64 (-1), .int .i64 13] 3) = wi5 at *
       generalize wi4.heap.size = gm at *
       (try clear bc)
       have bc := D.box.cell
       refine wR (rs := [7]) (by kernel_rfl) (by simp) ?_
       refine aC rfl (fun K hK => ?_) aN
       go_simp
       refine (among_any g _ gm 3 3 [0, -1, 13] wi5 BM hgm D.cur (by omega) rfl (by decide) (by decide)).mono ?_
       rintro e wi6 ⟨y, rfl, -, kc, oc⟩
       replace D := D.drawn kc oc
       try replace BL := BL.only oc (fun (e : _ = _) => hgl e)
       try replace BM := BM.only oc (fun (e : _ = _) => hgm e)
       try replace RB := RB.only oc (fun (e : _ = _) => by have := D.nums; omega)
       clear kc oc
       (try clear bc)
       have bc := D.box.cell
       go_wp2_with fail
       refine hK.out _ _ (trivial) (fun hH => ?_)
       clear hK K
       (try simp only [Act.put, pX])
       refine wT (i := 8) (v := ?_) rfl (by kernel_rfl) (by kernel_rfl) (by kernel_rfl) (fun _ _ _ h => h) (Or.inl ⟨by rfl, ?_⟩) (by assumption) ?_
       rotate_left 1
       ·(intro w hSw; (try dsimp only at hSw); go_simp; try with_reducible rfl)
       (try simp only [Act.put, pX])
       refine wR (rs := [9]) (by kernel_rfl) (by simp) ?_
       refine aC rfl (fun K hK => ?_) aN
       go_simp
       have U := (Below.refl wi6.heap.size wi6).alloc (Nat.le_refl _) (.cells #[.int .i64 x, .int .i64 y, .int .i64 0] 41)
       have BX : Blk (wi6.alloc (.cells #[.int .i64 x, .int .i64 y, .int .i64 0] 41)) wi6.heap.size 41 [.int .i64 x, .int .i64 y, .int .i64 0] := Blk.at_ rfl
       have hgx : wi6.heap.size ≠ g := Nat.ne_of_gt D.cur.lt
       replace D := D.below U
       try replace BL := BL.next U
       try replace BM := BM.next U
       clear U
       refine hK.out _ _ (trivial) (fun hH => ?_)
       clear hK K
       (try simp only [Act.put, pX])
       generalize wi6.alloc (.cells #[.int .i64 x, .int .i64 y, .int .i64 0] 41) = wi7 at *
       generalize wi6.heap.size = gx at *
       (try clear bc)
       have bc := D.box.cell
       refine wR (rs := [10]) (by kernel_rfl) (by simp) ?_
       refine aC rfl (fun K hK => ?_) aN
       obtain ⟨col, M⟩ := D.mine
       have hsw := D.res.lt
       refine step_cat rfl _ _ _ (by rfl) Tryz.underlying26 info_impl_DeskRow rfl (by decide) (by rfl) M.f3.own (by rfl) (m := 1) (BX.sees (s := 3) (Nat.zero_le _) rfl) (by rfl) (by have := D.fit.n3; omega) (by omega) (by decide) (Nat.zero_le _) ?_
       intro A6 c6 wi8 o6 h6 b6 q6
       have B6 := D.box.only h6 (fun hb => (M.f3.top _ hb).1.2.1 rfl)
       clear bc
       have bc := B6.cell
       have bf := B6.frozen
       refine hK.out _ _ (trivial) (fun hH => ?_)
       clear hK K
       (try simp only [Act.put, pX])
       refine wT (i := 11) (v := ?_) rfl (by kernel_rfl) (by kernel_rfl) (by kernel_rfl) (fun _ _ _ h => h) (Or.inl ⟨by rfl, ?_⟩) (by assumption) ?_
       rotate_left 1
       ·(intro w hSw; (try dsimp only at hSw); go_simp; try with_reducible rfl)
       (try simp only [Act.put, pX])
       refine wR (rs := [12]) (by kernel_rfl) (by simp) ?_
       refine aC rfl (fun K hK => ?_) aN
       go_simp
       refine hK.out _ _ (trivial) (fun hH => ?_)
       clear hK K
       (try simp only [Act.put, pX])
       refine wD (by kernel_rfl) ?_ _
       go_wp2_with fail
       go_meet
       exact ⟨_, _, D.row (x := ⟨x, y, 0⟩) o6 h6 q6 (by omega)⟩
       refine aC rfl (fun K hK => ?_) aN
       go_simp
       have U := (Below.refl wi3.heap.size wi3).alloc (Nat.le_refl _) (.cells #[.int .i64 0, .int .i64 (-1), .int .i64 13] 3)
       have BM : Blk (wi3.alloc (.cells #[.int .i64 0, .int .i64 (-1), .int .i64 13] 3)) wi3.heap.size 3 (ints [0, -1, 13]) := Blk.at_ rfl
       have hgm : wi3.heap.size ≠ g := Nat.ne_of_gt D.cur.lt
       replace D := D.below U
       try replace BL := BL.next U
       try replace B0 := B0.next U
       clear U
       refine hK.out _ _ (trivial) (fun hH => ?_)
       clear hK K
       (try simp only [Act.put, pX])
       generalize wi3.alloc (.cells #[.int .i64 0, .int .i64 (-1), .int .i64 13] 3) = wi4 at *
       generalize wi3.heap.size = gm at *
       (try clear bc)
       have bc := D.box.cell
       refine wR (rs := [4]) (by kernel_rfl) (by simp) ?_
       refine aC rfl (fun K hK => ?_) aN
       go_simp
       refine (among_any g _ gl 4 3 [1, 2, 5, 17] wi4 BL hgl D.cur (by omega) rfl (by decide) (by decide)).mono ?_
       rintro e wi5 ⟨x, rfl, -, kc, oc⟩
       replace D := D.drawn kc oc
       try replace BL := BL.only oc (fun (e : _ = _) => hgl e)
       try replace BM := BM.only oc (fun (e : _ = _) => hgm e)
       try replace RB := RB.only oc (fun (e : _ = _) => by have := D.nums; omega)
       clear kc oc
       (try clear bc)
       have bc := D.box.cell
       go_wp2_with fail
       refine hK.out _ _ (trivial) (fun hH => ?_)
       clear hK K
       (try simp only [Act.put, pX])
       refine wR (rs := [7]) (by kernel_rfl) (by simp) ?_
       refine aC rfl (fun K hK => ?_) aN
       go_simp
       refine (among_any g _ gm 3 3 [0, -1, 13] wi5 BM hgm D.cur (by omega) rfl (by decide) (by decide)).mono ?_
       rintro e wi6 ⟨y, rfl, -, kc, oc⟩
       replace D := D.drawn kc oc
       try replace BL := BL.only oc (fun (e : _ = _) => hgl e)
       try replace BM := BM.only oc (fun (e : _ = _) => hgm e)
       try replace RB := RB.only oc (fun (e : _ = _) => by have := D.nums; omega)
       clear kc oc
       (try clear bc)
       have bc := D.box.cell
       go_wp2_with fail
       refine hK.out _ _ (trivial) (fun hH => ?_)
       clear hK K
       (try simp only [Act.put, pX])
       refine wT (i := 8) (v := ?_) rfl (by kernel_rfl) (by kernel_rfl) (by kernel_rfl) (fun _ _ _ h => h) (Or.inl ⟨by rfl, ?_⟩) (by assumption) ?_
       rotate_left 1
       ·(intro w hSw; (try dsimp only at hSw); go_simp; try with_reducible rfl)
       (try simp only [Act.put, pX])
       refine wR (rs := [9]) (by kernel_rfl) (by simp) ?_
       refine aC rfl (fun K hK => ?_) aN
       go_simp
       have U := (Below.refl wi6.heap.size wi6).alloc (Nat.le_refl _) (.cells #[.int .i64 x, .int .i64 y, .int .i64 0] 41)
       have BX : Blk (wi6.alloc (.cells #[.int .i64 x, .int .i64 y, .int .i64 0] 41)) wi6.heap.size 41 [.int .i64 x, .int .i64 y, .int .i64 0] := Blk.at_ rfl
       have hgx : wi6.heap.size ≠ g := Nat.ne_of_gt D.cur.lt
       replace D := D.below U
       try replace BL := BL.next U
       try replace BM := BM.next U
       clear U
       refine hK.out _ _ (trivial) (fun hH => ?_)
       clear hK K
       (try simp only [Act.put, pX])
       generalize wi6.alloc (.cells #[.int .i64 x, .int .i64 y, .int .i64 0] 41) = wi7 at *
       generalize wi6.heap.size = gx at *
       (try clear bc)
       have bc := D.box.cell
       refine wR (rs := [10]) (by kernel_rfl) (by simp) ?_
       refine aC rfl (fun K hK => ?_) aN
       obtain ⟨col, M⟩ := D.mine
       have hsw := D.res.lt
       refine step_cat rfl _ _ _ (by rfl) Tryz.underlying26 info_impl_DeskRow rfl (by decide) (by rfl) M.f3.own (by rfl) (m := 1) (BX.sees (s := 3) (Nat.zero_le _) rfl) (by rfl) (by have := D.fit.n3; omega) (by omega) (by decide) (Nat.zero_le _) ?_
       intro A6 c6 wi8 o6 h6 b6 q6
       have B6 := D.box.only h6 (fun hb => (M.f3.top _ hb).1.2.1 rfl)
       clear bc
       have bc := B6.cell
       have bf := B6.frozen
       refine hK.out _ _ (trivial) (fun hH => ?_)
       clear hK K
       (try simp only [Act.put, pX])
       refine wT (i := 11) (v := ?_) rfl (by kernel_rfl) (by kernel_rfl) (by kernel_rfl) (fun _ _ _ h => h) (Or.inl ⟨by rfl, ?_⟩) (by assumption) ?_
       rotate_left 1
       ·(intro w hSw; (try dsimp only at hSw); go_simp; try with_reducible rfl)
       (try simp only [Act.put, pX])
       refine wR (rs := [12]) (by kernel_rfl) (by simp) ?_
       refine aC rfl (fun K hK => ?_) aN
       go_simp
       refine hK.out _ _ (trivial) (fun hH => ?_)
       clear hK K
       (try simp only [Act.put, pX])
       refine wD (by kernel_rfl) ?_ _
       go_wp2_with fail
       go_meet
       exact ⟨_, _, D.row (x := ⟨x, y, 0⟩) o6 h6 q6 (by omega)⟩
       refine aC rfl (fun K hK => ?_) ?_
       go_simp
       refine (among_any g _ gl 4 3 [1, 2, 5, 17] wi2 BL hgl D.cur (by omega) rfl (by decide) (by decide)).mono ?_
       rintro e wi3 ⟨x, rfl, -, kc, oc⟩
       replace D := D.drawn kc oc
       try replace BL := BL.only oc (fun (e : _ = _) => hgl e)
       try replace BM := BM.only oc (fun (e : _ = _) => hgm e)
       try replace RB := RB.only oc (fun (e : _ = _) => by have := D.nums; omega)
       clear kc oc
       (try clear bc)
       have bc := D.box.cell
       go_wp2_with fail
       refine hK.out _ _ (trivial) (fun hH => ?_)
       clear hK K
       (try simp only [Act.put, pX])
       refine wR (rs := [1, 6]) (by kernel_rfl) (by simp) ?_
       refine aC rfl (fun K hK => ?_) ?_
       go_simp
       have bc2 := D.box.cell
       go_simp
       clear bc2
       refine hK.out _ _ (trivial) (fun hH => ?_)
       clear hK K
       (try simp only [Act.put, pX])
       obtain ⟨wi4, rfl⟩ : ∃ w' : World, w' = wi3 := ⟨_, rfl⟩
       refine wR (rs := [6]) (by kernel_rfl) (by simp) ?_
       refine aC rfl (fun K hK => ?_) aN
       go_simp
       have U := (Below.refl wi4.heap.size wi4).alloc (Nat.le_refl _) (.cells #[.int .i64 0, .int .i64 (-1), .int .i64 13] 3)
       have BM : Blk (wi4.alloc (.cells #[.int .i64 0, .int .i64 (-1), .int .i64 13] 3)) wi4.heap.size 3 (ints [0, -1, 13]) := Blk.at_ rfl
       have hgm : wi4.heap.size ≠ g := Nat.ne_of_gt D.cur.lt
       replace D := D.below U
       try replace BL := BL.next U
       try replace B0 := B0.next U
       clear U
       refine hK.out _ _ (trivial) (fun hH => ?_)
       clear hK K
       (try simp only [Act.put, pX])
       generalize wi4.alloc (.cells #[.int .i64 0, .int .i64 (-1), .int .i64 13] 3) = wi5 at *
       generalize wi4.heap.size = gm at *
       (try clear bc)
       have bc := D.box.cell
       refine wR (rs := [7]) (by kernel_rfl) (by simp) ?_
       refine aC rfl (fun K hK => ?_) aN
       go_simp
       refine (among_any g _ gm 3 3 [0, -1, 13] wi5 BM hgm D.cur (by omega) rfl (by decide) (by decide)).mono ?_
       rintro e wi6 ⟨y, rfl, -, kc, oc⟩
       replace D := D.drawn kc oc
       try replace BL := BL.only oc (fun (e : _ = _) => hgl e)
       try replace BM := BM.only oc (fun (e : _ = _) => hgm e)
       try replace RB := RB.only oc (fun (e : _ = _) => by have := D.nums; omega)
       clear kc oc
       (try clear bc)
       have bc := D.box.cell
       go_wp2_with fail
       refine hK.out _ _ (trivial) (fun hH => ?_)
       clear hK K
       (try simp only [Act.put, pX])
       refine wT (i := 8) (v := ?_) rfl (by kernel_rfl) (by kernel_rfl) (by kernel_rfl) (fun _ _ _ h => h) (Or.inl ⟨by rfl, ?_⟩) (by assumption) ?_
       rotate_left 1
       ·(intro w hSw; (try dsimp only at hSw); go_simp; try with_reducible rfl)
       (try simp only [Act.put, pX])
       refine wR (rs := [9]) (by kernel_rfl) (by simp) ?_
       refine aC rfl (fun K hK => ?_) aN
       go_simp
       have U := (Below.refl wi6.heap.size wi6).alloc (Nat.le_refl _) (.cells #[.int .i64 x, .int .i64 y, .int .i64 0] 41)
       have BX : Blk (wi6.alloc (.cells #[.int .i64 x, .int .i64 y, .int .i64 0] 41)) wi6.heap.size 41 [.int .i64 x, .int .i64 y, .int .i64 0] := Blk.at_ rfl
       have hgx : wi6.heap.size ≠ g := Nat.ne_of_gt D.cur.lt
       replace D := D.below U
       try replace BL := BL.next U
       try replace BM := BM.next U
       clear U
       refine hK.out _ _ (trivial) (fun hH => ?_)
       clear hK K
       (try simp only [Act.put, pX])
       generalize wi6.alloc (.cells #[.int .i64 x, .int .i64 y, .int .i64 0] 41) = wi7 at *
       generalize wi6.heap.size = gx at *
       (try clear bc)
       have bc := D.box.cell
       refine wR (rs := [10]) (by kernel_rfl) (by simp) ?_
       refine aC rfl (fun K hK => ?_) aN
       obtain ⟨col, M⟩ := D.mine
       have hsw := D.res.lt
       refine step_cat rfl _ _ _ (by rfl) Tryz.underlying26 info_impl_DeskRow rfl (by decide) (by rfl) M.f3.own (by rfl) (m := 1) (BX.sees (s := 3) (Nat.zero_le _) rfl) (by rfl) (by have := D.fit.n3; omega) (by omega) (by decide) (Nat.zero_le _) ?_
       intro A6 c6 wi8 o6 h6 b6 q6
       have B6 := D.box.only h6 (fun hb => (M.f3.top _ hb).1.2.1 rfl)
       clear bc
       have bc := B6.cell
       have bf := B6.frozen
       refine hK.out _ _ (trivial) (fun hH => ?_)
       clear hK K
       (try simp only [Act.put, pX])
       refine wT (i := 11) (v := ?_) rfl (by kernel_rfl) (by kernel_rfl) (by kernel_rfl) (fun _ _ _ h => h) (Or.inl ⟨by rfl, ?_⟩) (by assumption) ?_
       rotate_left 1
       ·(intro w hSw; (try dsimp only at hSw); go_simp; try with_reducible rfl)
       (try simp only [Act.put, pX])
       refine wR (rs := [12]) (by kernel_rfl) (by simp) ?_
       refine aC rfl (fun K hK => ?_) aN
       go_simp
       refine hK.out _ _ (trivial) (fun hH => ?_)
       clear hK K
       (try simp only [Act.put, pX])
       refine wD (by kernel_rfl) ?_ _
       go_wp2_with fail
       go_meet
       exact ⟨_, _, D.row (x := ⟨x, y, 0⟩) o6 h6 q6 (by omega)⟩
       refine aC rfl (fun K hK => ?_) aN
       go_simp
       have U := (Below.refl wi3.heap.size wi3).alloc (Nat.le_refl _) (.cells #[.int .i64 0, .int .i64 (-1), .int .i64 13] 3)
       have BM : Blk (wi3.alloc (.cells #[.int .i64 0, .int .i64 (-1), .int .i64 13] 3)) wi3.heap.size 3 (ints [0, -1, 13]) := Blk.at_ rfl
       have hgm : wi3.heap.size ≠ g := Nat.ne_of_gt D.cur.lt
       replace D := D.below U
       try replace BL := BL.next U
       try replace B0 := B0.next U
       clear U
       refine hK.out _ _ (trivial) (fun hH => ?_)
       clear hK K
       (try simp only [Act.put, pX])
       generalize wi3.alloc (.cells #[.int .i64 0, .int .i64 (-1), .int .i64 13] 3) = wi4 at *
       generalize wi3.heap.size = gm at *
       (try clear bc)
       have bc := D.box.cell
       refine wR (rs := [1, 7]) (by kernel_rfl) (by simp) ?_
       refine aC rfl (fun K hK => ?_) ?_
       go_simp
       have bc2 := D.box.cell
       go_simp
       clear bc2
       refine hK.out _ _ (trivial) (fun hH => ?_)
       clear hK K
       (try simp only [Act.put, pX])
       obtain ⟨wi5, rfl⟩ : ∃ w' : World, w' = wi4 := ⟨_, rfl⟩
       refine wR (rs := [7]) (by kernel_rfl) (by simp) ?_
       refine aC rfl (fun K hK => ?_) aN
       go_simp
       refine (among_any g _ gm 3 3 [0, -1, 13] wi5 BM hgm D.cur (by omega) rfl (by decide) (by decide)).mono ?_
       rintro e wi6 ⟨y, rfl, -, kc, oc⟩
       replace D := D.drawn kc oc
       try replace BL := BL.only oc (fun (e : _ = _) => hgl e)
       try replace BM := BM.only oc (fun (e : _ = _) => hgm e)
       try replace RB := RB.only oc (fun (e : _ = _) => by have := D.nums; omega)
       clear kc oc
       (try clear bc)
       have bc := D.box.cell
       go_wp2_with fail
       refine hK.out _ _ (trivial) (fun hH => ?_)
       clear hK K
       (try simp only [Act.put, pX])
       refine wT (i := 8) (v := ?_) rfl (by kernel_rfl) (by kernel_rfl) (by kernel_rfl) (fun _ _ _ h => h) (Or.inl ⟨by rfl, ?_⟩) (by assumption) ?_
       rotate_left 1
       ·(intro w hSw; (try dsimp only at hSw); go_simp; try with_reducible rfl)
       (try simp only [Act.put, pX])
       refine wR (rs := [9]) (by kernel_rfl) (by simp) ?_
       refine aC rfl (fun K hK => ?_) aN
       go_simp
       have U := (Below.refl wi6.heap.size wi6).alloc (Nat.le_refl _) (.cells #[.int .i64 x, .int .i64 y, .int .i64 0] 41)
       have BX : Blk (wi6.alloc (.cells #[.int .i64 x, .int .i64 y, .int .i64 0] 41)) wi6.heap.size 41 [.int .i64 x, .int .i64 y, .int .i64 0] := Blk.at_ rfl
       have hgx : wi6.heap.size ≠ g := Nat.ne_of_gt D.cur.lt
       replace D := D.below U
       try replace BL := BL.next U
       try replace BM := BM.next U
       clear U
       refine hK.out _ _ (trivial) (fun hH => ?_)
       clear hK K
       (try simp only [Act.put, pX])
       generalize wi6.alloc (.cells #[.int .i64 x, .int .i64 y, .int .i64 0] 41) = wi7 at *
       generalize wi6.heap.size = gx at *
       (try clear bc)
       have bc := D.box.cell
       refine wR (rs := [10]) (by kernel_rfl) (by simp) ?_
       refine aC rfl (fun K hK => ?_) aN
       obtain ⟨col, M⟩ := D.mine
       have hsw := D.res.lt
       refine step_cat rfl _ _ _ (by rfl) Tryz.underlying26 info_impl_DeskRow rfl (by decide) (by rfl) M.f3.own (by rfl) (m := 1) (BX.sees (s := 3) (Nat.zero_le _) rfl) (by rfl) (by have := D.fit.n3; omega) (by omega) (by decide) (Nat.zero_le _) ?_
       intro A6 c6 wi8 o6 h6 b6 q6
       have B6 := D.box.only h6 (fun hb => (M.f3.top _ hb).1.2.1 rfl)
       clear bc
       have bc := B6.cell
       have bf := B6.frozen
       refine hK.out _ _ (trivial) (fun hH => ?_)
       clear hK K
       (try simp only [Act.put, pX])
       refine wT (i := 11) (v := ?_) rfl (by kernel_rfl) (by kernel_rfl) (by kernel_rfl) (fun _ _ _ h => h) (Or.inl ⟨by rfl, ?_⟩) (by assumption) ?_
       rotate_left 1
       ·(intro w hSw; (try dsimp only at hSw); go_simp; try with_reducible rfl)
       (try simp only [Act.put, pX])
       refine wR (rs := [12]) (by kernel_rfl) (by simp) ?_
       refine aC rfl (fun K hK => ?_) aN
       go_simp
       refine hK.out _ _ (trivial) (fun hH => ?_)
       clear hK K
       (try simp only [Act.put, pX])
       refine wD (by kernel_rfl) ?_ _
       go_wp2_with fail
       go_meet
       exact ⟨_, _, D.row (x := ⟨x, y, 0⟩) o6 h6 q6 (by omega)⟩
       refine aC rfl (fun K hK => ?_) aN
       go_simp
       refine (among_any g _ gm 3 3 [0, -1, 13] wi4 BM hgm D.cur (by omega) rfl (by decide) (by decide)).mono ?_
       rintro e wi5 ⟨y, rfl, -, kc, oc⟩
       replace D := D.drawn kc oc
       try replace BL := BL.only oc (fun (e : _ = _) => hgl e)
       try replace BM := BM.only oc (fun (e : _ = _) => hgm e)
       try replace RB := RB.only oc (fun (e : _ = _) => by have := D.nums; omega)
       clear kc oc
       (try clear bc)
       have bc := D.box.cell
       go_wp2_with fail
       refine hK.out _ _ (trivial) (fun hH => ?_)
       clear hK K
       (try simp only [Act.put, pX])
       refine wT (i := 8) (v := ?_) rfl (by kernel_rfl) (by kernel_rfl) (by kernel_rfl) (fun _ _ _ h => h) (Or.inl ⟨by rfl, ?_⟩) (by assumption) ?_
       rotate_left 1
       ·(intro w hSw; (try dsimp only at hSw); go_simp; try with_reducible rfl)
       (try simp only [Act.put, pX])
       refine wR (rs := [1, 9]) (by kernel_rfl) (by simp) ?_
       refine aC rfl (fun K hK => ?_) ?_
       go_simp
       have bc2 := D.box.cell
       go_simp
       clear bc2
       refine hK.out _ _ (trivial) (fun hH => ?_)
       clear hK K
       (try simp only [Act.put, pX])
       obtain ⟨wi6, rfl⟩ : ∃ w' : World, w' = wi5 := ⟨_, rfl⟩
       refine wR (rs := [9]) (by kernel_rfl) (by simp) ?_
       refine aC rfl (fun K hK => ?_) aN
       go_simp
       have U := (Below.refl wi6.heap.size wi6).alloc (Nat.le_refl _) (.cells #[.int .i64 x, .int .i64 y, .int .i64 0] 41)
       have BX : Blk (wi6.alloc (.cells #[.int .i64 x, .int .i64 y, .int .i64 0] 41)) wi6.heap.size 41 [.int .i64 x, .int .i64 y, .int .i64 0] := Blk.at_ rfl
       have hgx : wi6.heap.size ≠ g := Nat.ne_of_gt D.cur.lt
       replace D := D.below U
       try replace BL := BL.next U
       try replace BM := BM.next U
       clear U
       refine hK.out _ _ (trivial) (fun hH => ?_)
       clear hK K
       (try simp only [Act.put, pX])
       generalize wi6.alloc (.cells #[.int .i64 x, .int .i64 y, .int .i64 0] 41) = wi7 at *
       generalize wi6.heap.size = gx at *
       (try clear bc)
       have bc := D.box.cell
       refine wR (rs := [10]) (by kernel_rfl) (by simp) ?_
       refine aC rfl (fun K hK => ?_) aN
       obtain ⟨col, M⟩ := D.mine
       have hsw := D.res.lt
       refine step_cat rfl _ _ _ (by rfl) Tryz.underlying26 info_impl_DeskRow rfl (by decide) (by rfl) M.f3.own (by rfl) (m := 1) (BX.sees (s := 3) (Nat.zero_le _) rfl) (by rfl) (by have := D.fit.n3; omega) (by omega) (by decide) (Nat.zero_le _) ?_
       intro A6 c6 wi8 o6 h6 b6 q6
       have B6 := D.box.only h6 (fun hb => (M.f3.top _ hb).1.2.1 rfl)
       clear bc
       have bc := B6.cell
       have bf := B6.frozen
       refine hK.out _ _ (trivial) (fun hH => ?_)
       clear hK K
       (try simp only [Act.put, pX])
       refine wT (i := 11) (v := ?_) rfl (by kernel_rfl) (by kernel_rfl) (by kernel_rfl) (fun _ _ _ h => h) (Or.inl ⟨by rfl, ?_⟩) (by assumption) ?_
       rotate_left 1
       ·(intro w hSw; (try dsimp only at hSw); go_simp; try with_reducible rfl)
       (try simp only [Act.put, pX])
       refine wR (rs := [12]) (by kernel_rfl) (by simp) ?_
       refine aC rfl (fun K hK => ?_) aN
       go_simp
       refine hK.out _ _ (trivial) (fun hH => ?_)
       clear hK K
       (try simp only [Act.put, pX])
       refine wD (by kernel_rfl) ?_ _
       go_wp2_with fail
       go_meet
       exact ⟨_, _, D.row (x := ⟨x, y, 0⟩) o6 h6 q6 (by omega)⟩
       refine aC rfl (fun K hK => ?_) aN
       go_simp
       have U := (Below.refl wi5.heap.size wi5).alloc (Nat.le_refl _) (.cells #[.int .i64 x, .int .i64 y, .int .i64 0] 41)
       have BX : Blk (wi5.alloc (.cells #[.int .i64 x, .int .i64 y, .int .i64 0] 41)) wi5.heap.size 41 [.int .i64 x, .int .i64 y, .int .i64 0] := Blk.at_ rfl
       have hgx : wi5.heap.size ≠ g := Nat.ne_of_gt D.cur.lt
       replace D := D.below U
       try replace BL := BL.next U
       try replace BM := BM.next U
       clear U
       refine hK.out _ _ (trivial) (fun hH => ?_)
       clear hK K
       (try simp only [Act.put, pX])
       generalize wi5.alloc (.cells #[.int .i64 x, .int .i64 y, .int .i64 0] 41) = wi6 at *
       generalize wi5.heap.size = gx at *
       (try clear bc)
       have bc := D.box.cell
       refine wR (rs := [1]) (by kernel_rfl) (by simp) ?_
       refine aC rfl (fun K hK => ?_) aN
       go_simp
       have bc2 := D.box.cell
       go_simp
       clear bc2
       refine hK.out _ _ (trivial) (fun hH => ?_)
       clear hK K
       (try simp only [Act.put, pX])
       obtain ⟨wi7, rfl⟩ : ∃ w' : World, w' = wi6 := ⟨_, rfl⟩
       refine wR (rs := [10]) (by kernel_rfl) (by simp) ?_
       refine aC rfl (fun K hK => ?_) aN
       obtain ⟨col, M⟩ := D.mine
       have hsw := D.res.lt
       refine step_cat rfl _ _ _ (by rfl) Tryz.underlying26 info_impl_DeskRow rfl (by decide) (by rfl) M.f3.own (by rfl) (m := 1) (BX.sees (s := 3) (Nat.zero_le _) rfl) (by rfl) (by have := D.fit.n3; omega) (by omega) (by decide) (Nat.zero_le _) ?_
       intro A6 c6 wi8 o6 h6 b6 q6
       have B6 := D.box.only h6 (fun hb => (M.f3.top _ hb).1.2.1 rfl)
       clear bc
       have bc := B6.cell
       have bf := B6.frozen
       refine hK.out _ _ (trivial) (fun hH => ?_)
       clear hK K
       (try simp only [Act.put, pX])
       refine wT (i := 11) (v := ?_) rfl (by kernel_rfl) (by kernel_rfl) (by kernel_rfl) (fun _ _ _ h => h) (Or.inl ⟨by rfl, ?_⟩) (by assumption) ?_
       rotate_left 1
       ·(intro w hSw; (try dsimp only at hSw); go_simp; try with_reducible rfl)
       (try simp only [Act.put, pX])
       refine wR (rs := [12]) (by kernel_rfl) (by simp) ?_
       refine aC rfl (fun K hK => ?_) aN
       go_simp
       refine hK.out _ _ (trivial) (fun hH => ?_)
       clear hK K
       (try simp only [Act.put, pX])
       refine wD (by kernel_rfl) ?_ _
       go_wp2_with fail
       go_meet
       exact ⟨_, _, D.row (x := ⟨x, y, 0⟩) o6 h6 q6 (by omega)⟩
       refine aC rfl (fun K hK => ?_) aN
       go_simp
       have U := (Below.refl wi2.heap.size wi2).alloc (Nat.le_refl _) (.cells #[.int .i64 0, .int .i64 (-1), .int .i64 13] 3)
       have BM : Blk (wi2.alloc (.cells #[.int .i64 0, .int .i64 (-1), .int .i64 13] 3)) wi2.heap.size 3 (ints [0, -1, 13]) := Blk.at_ rfl
       have hgm : wi2.heap.size ≠ g := Nat.ne_of_gt D.cur.lt
       replace D := D.below U
       try replace BL := BL.next U
       try replace B0 := B0.next U
       clear U
       refine hK.out _ _ (trivial) (fun hH => ?_)
       clear hK K
       (try simp only [Act.put, pX])
       generalize wi2.alloc (.cells #[.int .i64 0, .int .i64 (-1), .int .i64 13] 3) = wi3 at *
       generalize wi2.heap.size = gm at *
       (try clear bc)
       have bc := D.box.cell
       refine wR (rs := [1, 4]) (by kernel_rfl) (by simp) ?_
       refine aC rfl (fun K hK => ?_) ?_
       go_simp
       have bc2 := D.box.cell
       go_simp
       clear bc2
       refine hK.out _ _ (trivial) (fun hH => ?_)
       clear hK K
       (try simp only [Act.put, pX])
       obtain ⟨wi4, rfl⟩ : ∃ w' : World, w' = wi3 := ⟨_, rfl⟩
       refine wR (rs := [4]) (by kernel_rfl) (by simp) ?_
       refine aC rfl (fun K hK => ?_) aN
       go_simp
       refine (among_any g _ gl 4 3 [1, 2, 5, 17] wi4 BL hgl D.cur (by omega) rfl (by decide) (by decide)).mono ?_
       rintro e wi5 ⟨x, rfl, -, kc, oc⟩
       replace D := D.drawn kc oc
       try replace BL := BL.only oc (fun (e : _ = _) => hgl e)
       try replace BM := BM.only oc (fun (e : _ = _) => hgm e)
       try replace RB := RB.only oc (fun (e : _ = _) => by have := D.nums; omega)
       clear kc oc
       (try clear bc)
       have bc := D.box.cell
       go_wp2_with fail
       refine hK.out _ _ (trivial) (fun hH => ?_)
       clear hK K
       (try simp only [Act.put, pX])
       refine wR (rs := [7]) (by kernel_rfl) (by simp) ?_
       refine aC rfl (fun K hK => ?_) aN
       go_simp
       refine (among_any g _ gm 3 3 [0, -1, 13] wi5 BM hgm D.cur (by omega) rfl (by decide) (by decide)).mono ?_
       rintro e wi6 ⟨y, rfl, -, kc, oc⟩
       replace D := D.drawn kc oc
       try replace BL := BL.only oc (fun (e : _ = _) => hgl e)
       try replace BM := BM.only oc (fun (e : _ = _) => hgm e)
       try replace RB := RB.only oc (fun (e : _ = _) => by have := D.nums; omega)
       clear kc oc
       (try clear bc)
       have bc := D.box.cell
       go_wp2_with fail
       refine hK.out _ _ (trivial) (fun hH => ?_)
       clear hK K
       (try simp only [Act.put, pX])
       refine wT (i := 8) (v := ?_) rfl (by kernel_rfl) (by kernel_rfl) (by kernel_rfl) (fun _ _ _ h => h) (Or.inl ⟨by rfl, ?_⟩) (by assumption) ?_
       rotate_left 1
       ·(intro w hSw; (try dsimp only at hSw); go_simp; try with_reducible rfl)
       (try simp only [Act.put, pX])
       refine wR (rs := [9]) (by kernel_rfl) (by simp) ?_
       refine aC rfl (fun K hK => ?_) aN
       go_simp
       have U := (Below.refl wi6.heap.size wi6).alloc (Nat.le_refl _) (.cells #[.int .i64 x, .int .i64 y, .int .i64 0] 41)
       have BX : Blk (wi6.alloc (.cells #[.int .i64 x, .int .i64 y, .int .i64 0] 41)) wi6.heap.size 41 [.int .i64 x, .int .i64 y, .int .i64 0] := Blk.at_ rfl
       have hgx : wi6.heap.size ≠ g := Nat.ne_of_gt D.cur.lt
       replace D := D.below U
       try replace BL := BL.next U
       try replace BM := BM.next U
       clear U
       refine hK.out _ _ (trivial) (fun hH => ?_)
       clear hK K
       (try simp only [Act.put, pX])
       generalize wi6.alloc (.cells #[.int .i64 x, .int .i64 y, .int .i64 0] 41) = wi7 at *
       generalize wi6.heap.size = gx at *
       (try clear bc)
       have bc := D.box.cell
       refine wR (rs := [10]) (by kernel_rfl) (by simp) ?_
       refine aC rfl (fun K hK => ?_) aN
       obtain ⟨col, M⟩ := D.mine
       have hsw := D.res.lt
       refine step_cat rfl _ _ _ (by rfl) Tryz.underlying26 info_impl_DeskRow rfl (by decide) (by rfl) M.f3.own (by rfl) (m := 1) (BX.sees (s := 3) (Nat.zero_le _) rfl) (by rfl) (by have := D.fit.n3; omega) (by omega) (by decide) (Nat.zero_le _) ?_
       intro A6 c6 wi8 o6 h6 b6 q6
       have B6 := D.box.only h6 (fun hb => (M.f3.top _ hb).1.2.1 rfl)
       clear bc
       have bc := B6.cell
       have bf := B6.frozen
       refine hK.out _ _ (trivial) (fun hH => ?_)
       clear hK K
       (try simp only [Act.put, pX])
       refine wT (i := 11) (v := ?_) rfl (by kernel_rfl) (by kernel_rfl) (by kernel_rfl) (fun _ _ _ h => h) (Or.inl ⟨by rfl, ?_⟩) (by assumption) ?_
       rotate_left 1
       ·(intro w hSw; (try dsimp only at hSw); go_simp; try with_reducible rfl)
       (try simp only [Act.put, pX])
       refine wR (rs := [12]) (by kernel_rfl) (by simp) ?_
       refine aC rfl (fun K hK => ?_) aN
       go_simp
       refine hK.out _ _ (trivial) (fun hH => ?_)
       clear hK K
       (try simp only [Act.put, pX])
       refine wD (by kernel_rfl) ?_ _
       go_wp2_with fail
       go_meet
       exact ⟨_, _, D.row (x := ⟨x, y, 0⟩) o6 h6 q6 (by omega)⟩
       refine aC rfl (fun K hK => ?_) aN
       go_simp
       refine (among_any g _ gl 4 3 [1, 2, 5, 17] wi3 BL hgl D.cur (by omega) rfl (by decide) (by decide)).mono ?_
       rintro e wi4 ⟨x, rfl, -, kc, oc⟩
       replace D := D.drawn kc oc
       try replace BL := BL.only oc (fun (e : _ = _) => hgl e)
       try replace BM := BM.only oc (fun (e : _ = _) => hgm e)
       try replace RB := RB.only oc (fun (e : _ = _) => by have := D.nums; omega)
       clear kc oc
       (try clear bc)
       have bc := D.box.cell
       go_wp2_with fail
       refine hK.out _ _ (trivial) (fun hH => ?_)
       clear hK K
       (try simp only [Act.put, pX])
       refine wR (rs := [1, 7]) (by kernel_rfl) (by simp) ?_
       refine aC rfl (fun K hK => ?_) ?_
       go_simp
       have bc2 := D.box.cell
       go_simp
       clear bc2
       refine hK.out _ _ (trivial) (fun hH => ?_)
       clear hK K
       (try simp only [Act.put, pX])
       obtain ⟨wi5, rfl⟩ : ∃ w' : World, w' = wi4 := ⟨_, rfl⟩
       refine wR (rs := [7]) (by kernel_rfl) (by simp) ?_
       refine aC rfl (fun K hK => ?_) aN
       go_simp
       refine (among_any g _ gm 3 3 [0, -1, 13] wi5 BM hgm D.cur (by omega) rfl (by decide) (by decide)).mono ?_
       rintro e wi6 ⟨y, rfl, -, kc, oc⟩
       replace D := D.drawn kc oc
       try replace BL := BL.only oc (fun (e : _ = _) => hgl e)
       try replace BM := BM.only oc (fun (e : _ = _) => hgm e)
       try replace RB := RB.only oc (fun (e : _ = _) => by have := D.nums; omega)
       clear kc oc
       (try clear bc)
       have bc := D.box.cell
       go_wp2_with fail
       refine hK.out _ _ (trivial) (fun hH => ?_)
       clear hK K
       (try simp only [Act.put, pX])
       refine wT (i := 8) (v := ?_) rfl (by kernel_rfl) (by kernel_rfl) (by kernel_rfl) (fun _ _ _ h => h) (Or.inl ⟨by rfl, ?_⟩) (by assumption) ?_
       rotate_left 1
       ·(intro w hSw; (try dsimp only at hSw); go_simp; try with_reducible rfl)
       (try simp only [Act.put, pX])
       refine wR (rs := [9]) (by kernel_rfl) (by simp) ?_
       refine aC rfl (fun K hK => ?_) aN
       go_simp
       have U := (Below.refl wi6.heap.size wi6).alloc (Nat.le_refl _) (.cells #[.int .i64 x, .int .i64 y, .int .i64 0] 41)
       have BX : Blk (wi6.alloc (.cells #[.int .i64 x, .int .i64 y, .int .i64 0] 41)) wi6.heap.size 41 [.int .i64 x, .int .i64 y, .int .i64 0] := Blk.at_ rfl
       have hgx : wi6.heap.size ≠ g := Nat.ne_of_gt D.cur.lt
       replace D := D.below U
       try replace BL := BL.next U
       try replace BM := BM.next U
       clear U
       refine hK.out _ _ (trivial) (fun hH => ?_)
       clear hK K
       (try simp only [Act.put, pX])
       generalize wi6.alloc (.cells #[.int .i64 x, .int .i64 y, .int .i64 0] 41) = wi7 at *
       generalize wi6.heap.size = gx at *
       (try clear bc)
       have bc := D.box.cell
       refine wR (rs := [10]) (by kernel_rfl) (by simp) ?_
       refine aC rfl (fun K hK => ?_) aN
       obtain ⟨col, M⟩ := D.mine
       have hsw := D.res.lt
       refine step_cat rfl _ _ _ (by rfl) Tryz.underlying26 info_impl_DeskRow rfl (by decide) (by rfl) M.f3.own (by rfl) (m := 1) (BX.sees (s := 3) (Nat.zero_le _) rfl) (by rfl) (by have := D.fit.n3; omega) (by omega) (by decide) (Nat.zero_le _) ?_
       intro A6 c6 wi8 o6 h6 b6 q6
       have B6 := D.box.only h6 (fun hb => (M.f3.top _ hb).1.2.1 rfl)
       clear bc
       have bc := B6.cell
       have bf := B6.frozen
       refine hK.out _ _ (trivial) (fun hH => ?_)
       clear hK K
       (try simp only [Act.put, pX])
       refine wT (i := 11) (v := ?_) rfl (by kernel_rfl) (by kernel_rfl) (by kernel_rfl) (fun _ _ _ h => h) (Or.inl ⟨by rfl, ?_⟩) (by assumption) ?_
       rotate_left 1
       ·(intro w hSw; (try dsimp only at hSw); go_simp; try with_reducible rfl)
       (try simp only [Act.put, pX])
       refine wR (rs := [12]) (by kernel_rfl) (by simp) ?_
       refine aC rfl (fun K hK => ?_) aN
       go_simp
       refine hK.out _ _ (trivial) (fun hH => ?_)
       clear hK K
       (try simp only [Act.put, pX])
       refine wD (by kernel_rfl) ?_ _
       go_wp2_with fail
       go_meet
       exact ⟨_, _, D.row (x := ⟨x, y, 0⟩) o6 h6 q6 (by omega)⟩
       refine aC rfl (fun K hK => ?_) aN
       go_simp
       refine (among_any g _ gm 3 3 [0, -1, 13] wi4 BM hgm D.cur (by omega) rfl (by decide) (by decide)).mono ?_
       rintro e wi5 ⟨y, rfl, -, kc, oc⟩
       replace D := D.drawn kc oc
       try replace BL := BL.only oc (fun (e : _ = _) => hgl e)
       try replace BM := BM.only oc (fun (e : _ = _) => hgm e)
       try replace RB := RB.only oc (fun (e : _ = _) => by have := D.nums; omega)
       clear kc oc
       (try clear bc)
       have bc := D.box.cell
       go_wp2_with fail
       refine hK.out _ _ (trivial) (fun hH => ?_)
       clear hK K
       (try simp only [Act.put, pX])
       refine wT (i := 8) (v := ?_) rfl (by kernel_rfl) (by kernel_rfl) (by kernel_rfl) (fun _ _ _ h => h) (Or.inl ⟨by rfl, ?_⟩) (by assumption) ?_
       rotate_left 1
       ·(intro w hSw; (try dsimp only at hSw); go_simp; try with_reducible rfl)
       (try simp only [Act.put, pX])
       refine wR (rs := [1, 9]) (by kernel_rfl) (by simp) ?_
       refine aC rfl (fun K hK => ?_) ?_
       go_simp
       have bc2 := D.box.cell
       go_simp
       clear bc2
       refine hK.out _ _ (trivial) (fun hH => ?_)
       clear hK K
       (try simp only [Act.put, pX])
       obtain ⟨wi6, rfl⟩ : ∃ w' : World, w' = wi5 := ⟨_, rfl⟩
       refine wR (rs := [9]) (by kernel_rfl) (by simp) ?_
       refine aC rfl (fun K hK => ?_) aN
       go_simp
       have U := (Below.refl wi6.heap.size wi6).alloc (Nat.le_refl _) (.cells #[.int .i64 x, .int .i64 y, .int .i64 0] 41)
       have BX : Blk (wi6.alloc (.cells #[.int .i64 x, .int .i64 y, .int .i64 0] 41)) wi6.heap.size 41 [.int .i64 x, .int .i64 y, .int .i64 0] := Blk.at_ rfl
       have hgx : wi6.heap.size ≠ g := Nat.ne_of_gt D.cur.lt
       replace D := D.below U
       try replace BL := BL.next U
       try replace BM := BM.next U
       clear U
       refine hK.out _ _ (trivial) (fun hH => ?_)
       clear hK K
       (try simp only [Act.put, pX])
       generalize wi6.alloc (.cells #[.int .i64 x, .int .i64 y, .int .i64 0] 41) = wi7 at *
       generalize wi6.heap.size = gx at *
       (try clear bc)
       have bc := D.box.cell
       refine wR (rs := [10]) (by kernel_rfl) (by simp) ?_
       refine aC rfl (fun K hK => ?_) aN
       obtain ⟨col, M⟩ := D.mine
       have hsw := D.res.lt
       refine step_cat rfl _ _ _ (by rfl) Tryz.underlying26 info_impl_DeskRow rfl (by decide) (by rfl) M.f3.own (by rfl) (m := 1) (BX.sees (s := 3) (Nat.zero_le _) rfl) (by rfl) (by have := D.fit.n3; omega) (by omega) (by decide) (Nat.zero_le _) ?_
       intro A6 c6 wi8 o6 h6 b6 q6
       have B6 := D.box.only h6 (fun hb => (M.f3.top _ hb).1.2.1 rfl)
       clear bc
       have bc := B6.cell
       have bf := B6.frozen
       refine hK.out _ _ (trivial) (fun hH => ?_)
       clear hK K
       (try simp only [Act.put, pX])
       refine wT (i := 11) (v := ?_) rfl (by kernel_rfl) (by kernel_rfl) (by kernel_rfl) (fun _ _ _ h => h) (Or.inl ⟨by rfl, ?_⟩) (by assumption) ?_
       rotate_left 1
       ·(intro w hSw; (try dsimp only at hSw); go_simp; try with_reducible rfl)
       (try simp only [Act.put, pX])
       refine wR (rs := [12]) (by kernel_rfl) (by simp) ?_
       refine aC rfl (fun K hK => ?_) aN
       go_simp
       refine hK.out _ _ (trivial) (fun hH => ?_)
       clear hK K
       (try simp only [Act.put, pX])
       refine wD (by kernel_rfl) ?_ _
       go_wp2_with fail
       go_meet
       exact ⟨_, _, D.row (x := ⟨x, y, 0⟩) o6 h6 q6 (by omega)⟩
       refine aC rfl (fun K hK => ?_) aN
       go_simp
       have U := (Below.refl wi5.heap.size wi5).alloc (Nat.le_refl _) (.cells #[.int .i64 x, .int .i64 y, .int .i64 0] 41)
       have BX : Blk (wi5.alloc (.cells #[.int .i64 x, .int .i64 y, .int .i64 0] 41)) wi5.heap.size 41 [.int .i64 x, .int .i64 y, .int .i64 0] := Blk.at_ rfl
       have hgx : wi5.heap.size ≠ g := Nat.ne_of_gt D.cur.lt
       replace D := D.below U
       try replace BL := BL.next U
       try replace BM := BM.next U
       clear U
       refine hK.out _ _ (trivial) (fun hH => ?_)
       clear hK K
       (try simp only [Act.put, pX])
       generalize wi5.alloc (.cells #[.int .i64 x, .int .i64 y, .int .i64 0] 41) = wi6 at *
       generalize wi5.heap.size = gx at *
       (try clear bc)
       have bc := D.box.cell
       refine wR (rs := [1]) (by kernel_rfl) (by simp) ?_
       refine aC rfl (fun K hK => ?_) aN
       go_simp
       have bc2 := D.box.cell
       go_simp
       clear bc2
       refine hK.out _ _ (trivial) (fun hH => ?_)
       clear hK K
       (try simp only [Act.put, pX])
       obtain ⟨wi7, rfl⟩ : ∃ w' : World, w' = wi6 := ⟨_, rfl⟩
       refine wR (rs := [10]) (by kernel_rfl) (by simp) ?_
       refine aC rfl (fun K hK => ?_) aN
       obtain ⟨col, M⟩ := D.mine
       have hsw := D.res.lt
       refine step_cat rfl _ _ _ (by rfl) Tryz.underlying26 info_impl_DeskRow rfl (by decide) (by rfl) M.f3.own (by rfl) (m := 1) (BX.sees (s := 3) (Nat.zero_le _) rfl) (by rfl) (by have := D.fit.n3; omega) (by omega) (by decide) (Nat.zero_le _) ?_
       intro A6 c6 wi8 o6 h6 b6 q6
       have B6 := D.box.only h6 (fun hb => (M.f3.top _ hb).1.2.1 rfl)
       clear bc
       have bc := B6.cell
       have bf := B6.frozen
       refine hK.out _ _ (trivial) (fun hH => ?_)
       clear hK K
       (try simp only [Act.put, pX])
       refine wT (i := 11) (v := ?_) rfl (by kernel_rfl) (by kernel_rfl) (by kernel_rfl) (fun _ _ _ h => h) (Or.inl ⟨by rfl, ?_⟩) (by assumption) ?_
       rotate_left 1
       ·(intro w hSw; (try dsimp only at hSw); go_simp; try with_reducible rfl)
       (try simp only [Act.put, pX])
       refine wR (rs := [12]) (by kernel_rfl) (by simp) ?_
       refine aC rfl (fun K hK => ?_) aN
       go_simp
       refine hK.out _ _ (trivial) (fun hH => ?_)
       clear hK K
       (try simp only [Act.put, pX])
       refine wD (by kernel_rfl) ?_ _
       go_wp2_with fail
       go_meet
       exact ⟨_, _, D.row (x := ⟨x, y, 0⟩) o6 h6 q6 (by omega)⟩
       refine aC rfl (fun K hK => ?_) aN
       go_simp
       have U := (Below.refl wi1.heap.size wi1).alloc (Nat.le_refl _) (.cells #[.int .i64 0, .int .i64 (-1), .int .i64 13] 3)
       have BM : Blk (wi1.alloc (.cells #[.int .i64 0, .int .i64 (-1), .int .i64 13] 3)) wi1.heap.size 3 (ints [0, -1, 13]) := Blk.at_ rfl
       have hgm : wi1.heap.size ≠ g := Nat.ne_of_gt D.cur.lt
       replace D := D.below U
       try replace BL := BL.next U
       try replace B0 := B0.next U
       clear U
       refine hK.out _ _ (trivial) (fun hH => ?_)
       clear hK K
       (try simp only [Act.put, pX])
       generalize wi1.alloc (.cells #[.int .i64 0, .int .i64 (-1), .int .i64 13] 3) = wi2 at *
       generalize wi1.heap.size = gm at *
       (try clear bc)
       have bc := D.box.cell
       refine wR (rs := [1, 3]) (by kernel_rfl) (by simp) ?_
       refine aC rfl (fun K hK => ?_) ?_
       go_simp
       have bc2 := D.box.cell
       go_simp
       clear bc2
       refine hK.out _ _ (trivial) (fun hH => ?_)
       clear hK K
       (try simp only [Act.put, pX])
       obtain ⟨wi3, rfl⟩ : ∃ w' : World, w' = wi2 := ⟨_, rfl⟩
       refine wR (rs := [3]) (by kernel_rfl) (by simp) ?_
       refine aC rfl (fun K hK => ?_) aN
       go_simp
       have U := (Below.refl wi3.heap.size wi3).alloc (Nat.le_refl _) (.cells #[.int .i64 1, .int .i64 2, .int .i64 5, .int .i64 17] 3)
       have BL : Blk (wi3.alloc (.cells #[.int .i64 1, .int .i64 2, .int .i64 5, .int .i64 17] 3)) wi3.heap.size 3 (ints [1, 2, 5, 17]) := Blk.at_ rfl
       have hgl : wi3.heap.size ≠ g := Nat.ne_of_gt D.cur.lt
       replace D := D.below U
       try replace B0 := B0.next U
       try replace BM := BM.next U
       clear U
       refine hK.out _ _ (trivial) (fun hH => ?_)
       clear hK K
       (try simp only [Act.put, pX])
       generalize wi3.alloc (.cells #[.int .i64 1, .int .i64 2, .int .i64 5, .int .i64 17] 3) = wi4 at *
       generalize wi3.heap.size = gl at *
       (try clear bc)
       have bc := D.box.cell
       refine wR (rs := [4]) (by kernel_rfl) (by simp) ?_
       refine aC rfl (fun K hK => ?_) aN
       go_simp
       refine (among_any g _ gl 4 3 [1, 2, 5, 17] wi4 BL hgl D.cur (by omega) rfl (by decide) (by decide)).mono ?_
       rintro e wi5 ⟨x, rfl, -, kc, oc⟩
       replace D := D.drawn kc oc
       try replace BL := BL.only oc (fun (e : _ = _) => hgl e)
       try replace BM := BM.only oc (fun (e : _ = _) => hgm e)
       try replace RB := RB.only oc (fun (e : _ = _) => by have := D.nums; omega)
       clear kc oc
       (try clear bc)
       have bc := D.box.cell
       go_wp2_with fail
       refine hK.out _ _ (trivial) (fun hH => ?_)
       clear hK K
       (try simp only [Act.put, pX])
       refine wR (rs := [7]) (by kernel_rfl) (by simp) ?_
       refine aC rfl (fun K hK => ?_) aN
       go_simp
       refine (among_any g _ gm 3 3 [0, -1, 13] wi5 BM hgm D.cur (by omega) rfl (by decide) (by decide)).mono ?_
       rintro e wi6 ⟨y, rfl, -, kc, oc⟩
       replace D := D.drawn kc oc
       try replace BL := BL.only oc (fun (e : _ = _) => hgl e)
       try replace BM := BM.only oc (fun (e : _ = _) => hgm e)
       try replace RB := RB.only oc (fun (e : _ = _) => by have := D.nums; omega)
       clear kc oc
       (try clear bc)
       have bc := D.box.cell
       go_wp2_with fail
       refine hK.out _ _ (trivial) (fun hH => ?_)
       clear hK K
       (try simp only [Act.put, pX])
       refine wT (i := 8) (v := ?_) rfl (by kernel_rfl) (by kernel_rfl) (by kernel_rfl) (fun _ _ _ h => h) (Or.inl ⟨by rfl, ?_⟩) (by assumption) ?_
       rotate_left 1
       ·(intro w hSw; (try dsimp only at hSw); go_simp; try with_reducible rfl)
       (try simp only [Act.put, pX])
       refine wR (rs := [9]) (by kernel_rfl) (by simp) ?_
       refine aC rfl (fun K hK => ?_) aN
       go_simp
       have U := (Below.refl wi6.heap.size wi6).alloc (Nat.le_refl _) (.cells #[.int .i64 x, .int .i64 y, .int .i64 0] 41)
       have BX : Blk (wi6.alloc (.cells #[.int .i64 x, .int .i64 y, .int .i64 0] 41)) wi6.heap.size 41 [.int .i64 x, .int .i64 y, .int .i64 0] := Blk.at_ rfl
       have hgx : wi6.heap.size ≠ g := Nat.ne_of_gt D.cur.lt
       replace D := D.below U
       try replace BL := BL.next U
       try replace BM := BM.next U
       clear U
       refine hK.out _ _ (trivial) (fun hH => ?_)
       clear hK K
       (try simp only [Act.put, pX])
       generalize wi6.alloc (.cells #[.int .i64 x, .int .i64 y, .int .i64 0] 41) = wi7 at *
       generalize wi6.heap.size = gx at *
       (try clear bc)
       have bc := D.box.cell
       refine wR (rs := [10]) (by kernel_rfl) (by simp) ?_
       refine aC rfl (fun K hK => ?_) aN
       obtain ⟨col, M⟩ := D.mine
       have hsw := D.res.lt
       refine step_cat rfl _ _ _ (by rfl) Tryz.underlying26 info_impl_DeskRow rfl (by decide) (by rfl) M.f3.own (by rfl) (m := 1) (BX.sees (s := 3) (Nat.zero_le _) rfl) (by rfl) (by have := D.fit.n3; omega) (by omega) (by decide) (Nat.zero_le _) ?_
       intro A6 c6 wi8 o6 h6 b6 q6
       have B6 := D.box.only h6 (fun hb => (M.f3.top _ hb).1.2.1 rfl)
       clear bc
       have bc := B6.cell
       have bf := B6.frozen
       refine hK.out _ _ (trivial) (fun hH => ?_)
       clear hK K
       (try simp only [Act.put, pX])
       refine wT (i := 11) (v := ?_) rfl (by kernel_rfl) (by kernel_rfl) (by kernel_rfl) (fun _ _ _ h => h) (Or.inl ⟨by rfl, ?_⟩) (by assumption) ?_
       rotate_left 1
       ·(intro w hSw; (try dsimp only at hSw); go_simp; try with_reducible rfl)
       (try simp only [Act.put, pX])
       refine wR (rs := [12]) (by kernel_rfl) (by simp) ?_
       refine aC rfl (fun K hK => ?_) aN
       go_simp
       refine hK.out _ _ (trivial) (fun hH => ?_)
       clear hK K
       (try simp only [Act.put, pX])
       refine wD (by kernel_rfl) ?_ _
       go_wp2_with fail
       go_meet
       exact ⟨_, _, D.row (x := ⟨x, y, 0⟩) o6 h6 q6 (by omega)⟩
       refine aC rfl (fun K hK => ?_) aN
       go_simp
       have U := (Below.refl wi2.heap.size wi2).alloc (Nat.le_refl _) (.cells #[.int .i64 1, .int .i64 2, .int .i64 5, .int .i64 17] 3)
       have BL : Blk (wi2.alloc (.cells #[.int .i64 1, .int .i64 2, .int .i64 5, .int .i64 17] 3)) wi2.heap.size 3 (ints [1, 2, 5, 17]) := Blk.at_ rfl
       have hgl : wi2.heap.size ≠ g := Nat.ne_of_gt D.cur.lt
       replace D := D.below U
       try replace B0 := B0.next U
       try replace BM := BM.next U
       clear U
       refine hK.out _ _ (trivial) (fun hH => ?_)
       clear hK K
       (try simp only [Act.put, pX])
       generalize wi2.alloc (.cells #[.int .i64 1, .int .i64 2, .int .i64 5, .int .i64 17] 3) = wi3 at *
       generalize wi2.heap.size = gl at *
       (try clear bc)
       have bc := D.box.cell
       refine wR (rs := [1, 4]) (by kernel_rfl) (by simp) ?_
       refine aC rfl (fun K hK => ?_) ?_
       go_simp
       have bc2 := D.box.cell
       go_simp
       clear bc2
       refine hK.out _ _ (trivial) (fun hH => ?_)
       clear hK K
       (try simp only [Act.put, pX])
       obtain ⟨wi4, rfl⟩ : ∃ w' : World, w' = wi3 := ⟨_, rfl⟩
       refine wR (rs := [4]) (by kernel_rfl) (by simp) ?_
       refine aC rfl (fun K hK => ?_) aN
       go_simp
       refine (among_any g _ gl 4 3 [1, 2, 5, 17] wi4 BL hgl D.cur (by omega) rfl (by decide) (by decide)).mono ?_
       rintro e wi5 ⟨x, rfl, -, kc, oc⟩
       replace D := D.drawn kc oc
       try replace BL := BL.only oc (fun (e : _ = _) => hgl e)
       try replace BM := BM.only oc (fun (e : _ = _) => hgm e)
       try replace RB := RB.only oc (fun (e : _ = _) => by have := D.nums; omega)
       clear kc oc
       (try clear bc)
       have bc := D.box.cell
       go_wp2_with fail
       refine hK.out _ _ (trivial) (fun hH => ?_)
       clear hK K
       (try simp only [Act.put, pX])
       refine wR (rs := [7]) (by kernel_rfl) (by simp) ?_
       refine aC rfl (fun K hK => ?_) aN
       go_simp
       refine (among_any g _ gm 3 3 [0, -1, 13] wi5 BM hgm D.cur (by omega) rfl (by decide) (by decide)).mono ?_
       rintro e wi6 ⟨y, rfl, -, kc, oc⟩
       replace D := D.drawn kc oc
       try replace BL := BL.only oc (fun (e : _ = _) => hgl e)
       try replace BM := BM.only oc (fun (e : _ = _) => hgm e)
       try replace RB := RB.only oc (fun (e : _ = _) => by have := D.nums; omega)
       clear kc oc
       (try clear bc)
       have bc := D.box.cell
       go_wp2_with fail
       refine hK.out _ _ (trivial) (fun hH => ?_)
       clear hK K
       (try simp only [Act.put, pX])
       refine wT (i := 8) (v := ?_) rfl (by kernel_rfl) (by kernel_rfl) (by kernel_rfl) (fun _ _ _ h => h) (Or.inl ⟨by rfl, ?_⟩) (by assumption) ?_
       rotate_left 1
       ·(intro w hSw; (try dsimp only at hSw); go_simp; try with_reducible rfl)
       (try simp only [Act.put, pX])
       refine wR (rs := [9]) (by kernel_rfl) (by simp) ?_
       refine aC rfl (fun K hK => ?_) aN
       go_simp
       have U := (Below.refl wi6.heap.size wi6).alloc (Nat.le_refl _) (.cells #[.int .i64 x, .int .i64 y, .int .i64 0] 41)
       have BX : Blk (wi6.alloc (.cells #[.int .i64 x, .int .i64 y, .int .i64 0] 41)) wi6.heap.size 41 [.int .i64 x, .int .i64 y, .int .i64 0] := Blk.at_ rfl
       have hgx : wi6.heap.size ≠ g := Nat.ne_of_gt D.cur.lt
       replace D := D.below U
       try replace BL := BL.next U
       try replace BM := BM.next U
       clear U
       refine hK.out _ _ (trivial) (fun hH => ?_)
       clear hK K
       (try simp only [Act.put, pX])
       generalize wi6.alloc (.cells #[.int .i64 x, .int .i64 y, .int .i64 0] 41) = wi7 at *
       generalize wi6.heap.size = gx at *
       (try clear bc)
       have bc := D.box.cell
       refine wR (rs := [10]) (by kernel_rfl) (by simp) ?_
       refine aC rfl (fun K hK => ?_) aN
       obtain ⟨col, M⟩ := D.mine
       have hsw := D.res.lt
       refine step_cat rfl _ _ _ (by rfl) Tryz.underlying26 info_impl_DeskRow rfl (by decide) (by rfl) M.f3.own (by rfl) (m := 1) (BX.sees (s := 3) (Nat.zero_le _) rfl) (by rfl) (by have := D.fit.n3; omega) (by omega) (by decide) (Nat.zero_le _) ?_
       intro A6 c6 wi8 o6 h6 b6 q6
       have B6 := D.box.only h6 (fun hb => (M.f3.top _ hb).1.2.1 rfl)
       clear bc
       have bc := B6.cell
       have bf := B6.frozen
       refine hK.out _ _ (trivial) (fun hH => ?_)
       clear hK K
       (try simp only [Act.put, pX])
       refine wT (i := 11) (v := ?_) rfl (by kernel_rfl) (by kernel_rfl) (by kernel_rfl) (fun _ _ _ h => h) (Or.inl ⟨by rfl, ?_⟩) (by assumption) ?_
       rotate_left 1
       ·(intro w hSw; (try dsimp only at hSw); go_simp; try with_reducible rfl)
       (try simp only [Act.put, pX])
       refine wR (rs := [12]) (by kernel_rfl) (by simp) ?_
       refine aC rfl (fun K hK => ?_) aN
       go_simp
       refine hK.out _ _ (trivial) (fun hH => ?_)
       clear hK K
       (try simp only [Act.put, pX])
       refine wD (by kernel_rfl) ?_ _
       go_wp2_with fail
       go_meet
       exact ⟨_, _, D.row (x := ⟨x, y, 0⟩) o6 h6 q6 (by omega)⟩
       refine aC rfl (fun K hK => ?_) aN
       go_simp
       refine (among_any g _ gl 4 3 [1, 2, 5, 17] wi3 BL hgl D.cur (by omega) rfl (by decide) (by decide)).mono ?_
       rintro e wi4 ⟨x, rfl, -, kc, oc⟩
       replace D := D.drawn kc oc
       try replace BL := BL.only oc (fun (e : _ = _) => hgl e)
       try replace BM := BM.only oc (fun (e : _ = _) => hgm e)
       try replace RB := RB.only oc (fun (e : _ = _) => by have := D.nums; omega)
       clear kc oc
       (try clear bc)
       have bc := D.box.cell
       go_wp2_with fail
       refine hK.out _ _ (trivial) (fun hH => ?_)
       clear hK K
       (try simp only [Act.put, pX])
       refine wR (rs := [1, 7]) (by kernel_rfl) (by simp) ?_
       refine aC rfl (fun K hK => ?_) ?_
       go_simp
       have bc2 := D.box.cell
       go_simp
       clear bc2
       refine hK.out _ _ (trivial) (fun hH => ?_)
       clear hK K
       (try simp only [Act.put, pX])
       obtain ⟨wi5, rfl⟩ : ∃ w' : World, w' = wi4 := ⟨_, rfl⟩
       refine wR (rs := [7]) (by kernel_rfl) (by simp) ?_
       refine aC rfl (fun K hK => ?_) aN
       go_simp
       refine (among_any g _ gm 3 3 [0, -1, 13] wi5 BM hgm D.cur (by omega) rfl (by decide) (by decide)).mono ?_
       rintro e wi6 ⟨y, rfl, -, kc, oc⟩
       replace D := D.drawn kc oc
       try replace BL := BL.only oc (fun (e : _ = _) => hgl e)
       try replace BM := BM.only oc (fun (e : _ = _) => hgm e)
       try replace RB := RB.only oc (fun (e : _ = _) => by have := D.nums; omega)
       clear kc oc
       (try clear bc)
       have bc := D.box.cell
       go_wp2_with fail
       refine hK.out _ _ (trivial) (fun hH => ?_)
       clear hK K
       (try simp only [Act.put, pX])
       refine wT (i := 8) (v := ?_) rfl (by kernel_rfl) (by kernel_rfl) (by kernel_rfl) (fun _ _ _ h => h) (Or.inl ⟨by rfl, ?_⟩) (by assumption) ?_
       rotate_left 1
       ·(intro w hSw; (try dsimp only at hSw); go_simp; try with_reducible rfl)
       (try simp only [Act.put, pX])
       refine wR (rs := [9]) (by kernel_rfl) (by simp) ?_
       refine aC rfl (fun K hK => ?_) aN
       go_simp
       have U := (Below.refl wi6.heap.size wi6).alloc (Nat.le_refl _) (.cells #[.int .i64 x, .int .i64 y, .int .i64 0] 41)
       have BX : Blk (wi6.alloc (.cells #[.int .i64 x, .int .i64 y, .int .i64 0] 41)) wi6.heap.size 41 [.int .i64 x, .int .i64 y, .int .i64 0] := Blk.at_ rfl
       have hgx : wi6.heap.size ≠ g := Nat.ne_of_gt D.cur.lt
       replace D := D.below U
       try replace BL := BL.next U
       try replace BM := BM.next U
       clear U
       refine hK.out _ _ (trivial) (fun hH => ?_)
       clear hK K
       (try simp only [Act.put, pX])
       generalize wi6.alloc (.cells #[.int .i64 x, .int .i64 y, .int .i64 0] 41) = wi7 at *
       generalize wi6.heap.size = gx at *
       (try clear bc)
       have bc := D.box.cell
       refine wR (rs := [10]) (by kernel_rfl) (by simp) ?_
       refine aC rfl (fun K hK => ?_) aN
       obtain ⟨col, M⟩ := D.mine
       have hsw := D.res.lt
       refine step_cat rfl _ _ _ (by rfl) Tryz.underlying26 info_impl_DeskRow rfl (by decide) (by rfl) M.f3.own (by rfl) (m := 1) (BX.sees (s := 3) (Nat.zero_le _) rfl) (by rfl) (by have := D.fit.n3; omega) (by omega) (by decide) (Nat.zero_le _) ?_
       intro A6 c6 wi8 o6 h6 b6 q6
       have B6 := D.box.only h6 (fun hb => (M.f3.top _ hb).1.2.1 rfl)
       clear bc
       have bc := B6.cell
       have bf := B6.frozen
       refine hK.out _ _ (trivial) (fun hH => ?_)
       clear hK K
       (try simp only [Act.put, pX])
       refine wT (i := 11) (v := ?_) rfl (by kernel_rfl) (by kernel_rfl) (by kernel_rfl) (fun _ _ _ h => h) (Or.inl ⟨by rfl, ?_⟩) (by assumption) ?_
       rotate_left 1
       ·(intro w hSw; (try dsimp only at hSw); go_simp; try with_reducible rfl)
       (try simp only [Act.put, pX])
       refine wR (rs := [12]) (by kernel_rfl) (by simp) ?_
       refine aC rfl (fun K hK => ?_) aN
       go_simp
       refine hK.out _ _ (trivial) (fun hH => ?_)
       clear hK K
       (try simp only [Act.put, pX])
       refine wD (by kernel_rfl) ?_ _
       go_wp2_with fail
       go_meet
       exact ⟨_, _, D.row (x := ⟨x, y, 0⟩) o6 h6 q6 (by omega)⟩
       refine aC rfl (fun K hK => ?_) aN
       go_simp
       refine (among_any g _ gm 3 3 [0, -1, 13] wi4 BM hgm D.cur (by omega) rfl (by decide) (by decide)).mono ?_
       rintro e wi5 ⟨y, rfl, -, kc, oc⟩
       replace D := D.drawn kc oc
       try replace BL := BL.only oc (fun (e : _ = _) => hgl e)
       try replace BM := BM.only oc (fun (e : _ = _) => hgm e)
       try replace RB := RB.only oc (fun (e : _ = _) => by have := D.nums; omega)
       clear kc oc
       (try clear bc)
       have bc := D.box.cell
       go_wp2_with fail
       refine hK.out _ _ (trivial) (fun hH => ?_)
       clear hK K
       (try simp only [Act.put, pX])
       refine wT (i := 8) (v := ?_) rfl (by kernel_rfl) (by kernel_rfl) (by kernel_rfl) (fun _ _ _ h => h) (Or.inl ⟨by rfl, ?_⟩) (by assumption) ?_
       rotate_left 1
       ·(intro w hSw; (try dsimp only at hSw); go_simp; try with_reducible rfl)
       (try simp only [Act.put, pX])
       refine wR (rs := [1, 9]) (by kernel_rfl) (by simp) ?_
       refine aC rfl (fun K hK => ?_) ?_
       go_simp
       have bc2 := D.box.cell
       go_simp
       clear bc2
       refine hK.out _ _ (trivial) (fun hH => ?_)
       clear hK K
       (try simp only [Act.put, pX])
       obtain ⟨wi6, rfl⟩ : ∃ w' : World, w' = wi5 := ⟨_, rfl⟩
       refine wR (rs := [9]) (by kernel_rfl) (by simp) ?_
       refine aC rfl (fun K hK => ?_) aN
       go_simp
       have U := (Below.refl wi6.heap.size wi6).alloc (Nat.le_refl _) (.cells #[.int .i64 x, .int .i64 y, .int .i64 0] 41)
       have BX : Blk (wi6.alloc (.cells #[.int .i64 x, .int .i64 y, .int .i64 0] 41)) wi6.heap.size 41 [.int .i64 x, .int .i64 y, .int .i64 0] := Blk.at_ rfl
       have hgx : wi6.heap.size ≠ g := Nat.ne_of_gt D.cur.lt
       replace D := D.below U
       try replace BL := BL.next U
       try replace BM := BM.next U
       clear U
       refine hK.out _ _ (trivial) (fun hH => ?_)
       clear hK K
       (try simp only [Act.put, pX])
       generalize wi6.alloc (.cells #[.int .i64 x, .int .i64 y, .int .i64 0] 41) = wi7 at *
       generalize wi6.heap.size = gx at *
       (try clear bc)
       have bc := D.box.cell
       refine wR (rs := [10]) (by kernel_rfl) (by simp) ?_
       refine aC rfl (fun K hK => ?_) aN
       obtain ⟨col, M⟩ := D.mine
       have hsw := D.res.lt
       refine step_cat rfl _ _ _ (by rfl) Tryz.underlying26 info_impl_DeskRow rfl (by decide) (by rfl) M.f3.own (by rfl) (m := 1) (BX.sees (s := 3) (Nat.zero_le _) rfl) (by rfl) (by have := D.fit.n3; omega) (by omega) (by decide) (Nat.zero_le _) ?_
       intro A6 c6 wi8 o6 h6 b6 q6
       have B6 := D.box.only h6 (fun hb => (M.f3.top _ hb).1.2.1 rfl)
       clear bc
       have bc := B6.cell
       have bf := B6.frozen
       refine hK.out _ _ (trivial) (fun hH => ?_)
       clear hK K
       (try simp only [Act.put, pX])
       refine wT (i := 11) (v := ?_) rfl (by kernel_rfl) (by kernel_rfl) (by kernel_rfl) (fun _ _ _ h => h) (Or.inl ⟨by rfl, ?_⟩) (by assumption) ?_
       rotate_left 1
       ·(intro w hSw; (try dsimp only at hSw); go_simp; try with_reducible rfl)
       (try simp only [Act.put, pX])
       refine wR (rs := [12]) (by kernel_rfl) (by simp) ?_
       refine aC rfl (fun K hK => ?_) aN
       go_simp
       refine hK.out _ _ (trivial) (fun hH => ?_)
       clear hK K
       (try simp only [Act.put, pX])
       refine wD (by kernel_rfl) ?_ _
       go_wp2_with fail
       go_meet
       exact ⟨_, _, D.row (x := ⟨x, y, 0⟩) o6 h6 q6 (by omega)⟩
       refine aC rfl (fun K hK => ?_) aN
       go_simp
       have U := (Below.refl wi5.heap.size wi5).alloc (Nat.le_refl _) (.cells #[.int .i64 x, .int .i64 y, .int .i64 0] 41)
       have BX : Blk (wi5.alloc (.cells #[.int .i64 x, .int .i64 y, .int .i64 0] 41)) wi5.heap.size 41 [.int .i64 x, .int .i64 y, .int .i64 0] := Blk.at_ rfl
       have hgx : wi5.heap.size ≠ g := Nat.ne_of_gt D.cur.lt
       replace D := D.below U
       try replace BL := BL.next U
       try replace BM := BM.next U
       clear U
       refine hK.out _ _ (trivial) (fun hH => ?_)
       clear hK K
       (try simp only [Act.put, pX])
       generalize wi5.alloc (.cells #[.int .i64 x, .int .i64 y, .int .i64 0] 41) = wi6 at *
       generalize wi5.heap.size = gx at *
       (try clear bc)
       have bc := D.box.cell
       refine wR (rs := [1]) (by kernel_rfl) (by simp) ?_
       refine aC rfl (fun K hK => ?_) aN
       go_simp
       have bc2 := D.box.cell
       go_simp
       clear bc2
       refine hK.out _ _ (trivial) (fun hH => ?_)
       clear hK K
       (try simp only [Act.put, pX])
       obtain ⟨wi7, rfl⟩ : ∃ w' : World, w' = wi6 := ⟨_, rfl⟩
       refine wR (rs := [10]) (by kernel_rfl) (by simp) ?_
       refine aC rfl (fun K hK => ?_) aN
       obtain ⟨col, M⟩ := D.mine
       have hsw := D.res.lt
       refine step_cat rfl _ _ _ (by rfl) Tryz.underlying26 info_impl_DeskRow rfl (by decide) (by rfl) M.f3.own (by rfl) (m := 1) (BX.sees (s := 3) (Nat.zero_le _) rfl) (by rfl) (by have := D.fit.n3; omega) (by omega) (by decide) (Nat.zero_le _) ?_
       intro A6 c6 wi8 o6 h6 b6 q6
       have B6 := D.box.only h6 (fun hb => (M.f3.top _ hb).1.2.1 rfl)
       clear bc
       have bc := B6.cell
       have bf := B6.frozen
       refine hK.out _ _ (trivial) (fun hH => ?_)
       clear hK K
       (try simp only [Act.put, pX])
       refine wT (i := 11) (v := ?_) rfl (by kernel_rfl) (by kernel_rfl) (by kernel_rfl) (fun _ _ _ h => h) (Or.inl ⟨by rfl, ?_⟩) (by assumption) ?_
       rotate_left 1
       ·(intro w hSw; (try dsimp only at hSw); go_simp; try with_reducible rfl)
       (try simp only [Act.put, pX])
       refine wR (rs := [12]) (by kernel_rfl) (by simp) ?_
       refine aC rfl (fun K hK => ?_) aN
       go_simp
       refine hK.out _ _ (trivial) (fun hH => ?_)
       clear hK K
       (try simp only [Act.put, pX])
       refine wD (by kernel_rfl) ?_ _
       go_wp2_with fail
       go_meet
       exact ⟨_, _, D.row (x := ⟨x, y, 0⟩) o6 h6 q6 (by omega)⟩
      have e1 : ((r2 : Int) == 1) = false := beq_eq_false_iff_ne.2 (by omega)
      by_cases r3 : r2 = 2
      ·subst r3
       have U := (Below.refl w7.heap.size w7).alloc (Nat.le_refl _) (.cells #[.int .i64 0, .int .i64 0, .int .i64 0, .slice none 0 0] 31)
       have BX : Blk (w7.alloc (.cells #[.int .i64 0, .int .i64 0, .int .i64 0, .slice none 0 0] 31)) w7.heap.size 31 [.int .i64 0, .int .i64 0, .int .i64 0, .slice none 0 0] := Blk.at_ rfl
       have D8 := D7.below U
       have bc8 := D8.box.cell
       obtain ⟨col, M⟩ := D8.mine
       obtain ⟨rs, hrs, MR⟩ := M.f4
       have hA8 : ∀ b, OwnB H.A4 b → b ≠ gd := fun b hb => (MR.outer.top b hb).1.2.1
       go_wp2_with (at_builtin; go_loud (refine wpList_cat rfl _ _ _ rfl Tryz.underlying25 info_impl_Card rfl (by decide) rfl MR.outer.own rfl (m := 1) (BX.sees (s := 4) (Nat.zero_le _) rfl) rfl (by have := D8.fit.n4; omega) (by omega) (by decide) (Nat.zero_le _) ?_); intro A6 c6 w9 o6 h6 b6 q6; have B6 := D8.box.only h6 (fun hb => hA8 _ hb rfl); have bc9 := B6.cell; have bf9 := B6.frozen)
       go_meet
       exact ⟨_, _, D8.card hrs (fun r hr => ⟨((MR.inners.each r hr).seesB (fun b hb => hb.1.1)), fun b hb => ⟨((MR.inners.each r hr).top b hb).1.2.1, MR.apart r hr b hb⟩⟩) o6 h6 q6 (by omega)⟩
      have e3 : ((r2 : Int) == 2) = false := beq_eq_false_iff_ne.2 (by omega)
      go_wp2_with fail
      go_meet
      exact ⟨_, _, D7.toS (by omega)⟩
     case rest =>
      clear D7
      obtain ⟨H, d, D⟩ := hcut
      obtain ⟨w10, rfl⟩ : ∃ w' : World, w' = wc := ⟨_, rfl⟩
      have bc := D.box.cell
      have rf := D.res.frozen
      have rc := D.res.cell
      have hne : gd ≠ w.heap.size := by have := D.nums; omega
      go_wp2_with fail
      refine bodyPost_ret (v := .agg #[.slice H.A0 H.n0 H.c0, .slice H.A1 H.n1 H.c1, .slice H.A2 H.n2 H.c2, .slice H.A3 H.n3 H.c3, .slice H.A4 H.n4 H.c4]) (by simp [results, Tryz.results32, go_sem, rc]) rfl ?_
      exact D.done

end Go.Proofs.YtkimlajfhepfgaaGreat
