/- The draws of report lines. -/
import Derived.Test.YtbcblmbpjecilaaGreatDoorCur2
import Derived.Test.YtbcblmbpjecilaaGreatDoorLines
namespace Go.Proofs.YtbcblmbpjecilaaGreatDoor
open Go.RowKit

theorem only_newR {S : Nat → Prop} {a w : World} (h : Only S a w) {p : Addr} (hp : a.heap.size ≤ p.block) (u : Value) : Only S a (w.setCell p u) :=
  ⟨h.os, h.tape, h.output, by simpa [World.setCell] using h.size, fun k hk hS => (Below.heap_setCell _ _ _ _ (fun e => by omega)).trans (h.block k hk hS)⟩
theorem Cur.keepR {w w' : World} {g n : Nat} {S : Nat → Prop} (h : Cur w g n) (ho : Only S w w') (hg : ¬ S g) (hS : ∀ b, S b → g ≤ b) : Cur w' g n := by
  obtain ⟨A, m, c, p, s, h1, h2, h3, h4⟩ := h.ex
  exact ⟨A, m, c, p, s, h1.only ho hg, h2, h3, CodeAt.only h4 h1.lt ho hS⟩
/-- A line that is being drawn: the result's block, the line's block gx. -/
structure LineSt (w wr : World) (g n gx : Nat) (x : ReportLine) : Prop where
  cur : Cur wr g n
  res : Blk wr w.heap.size 41 [.string ⟨#[]⟩, .string ⟨#[]⟩, .int .i64 0, .int .i64 0]
  blk : Blk wr gx 41 [.string x.name, .string x.club, .int .i64 x.status, .int .i64 x.time]
  lo : w.heap.size < gx
  only : Only (fun b => b = g) w wr
section
variable {w wr wv w' : World} {g n n' gx : Nat} {x : ReportLine}
theorem LineSt.below (h : LineSt w wr g n gx x) (hb : Below wr.heap.size wr wv) : LineSt w wv g n gx x := ⟨h.cur.next hb, h.res.next hb, h.blk.next hb, h.lo, h.only.then_ hb⟩
theorem LineSt.drawn (h : LineSt w wr g n gx x) (hg : g < w.heap.size) (hc : Cur wv g n') (ho : Only (fun b => b = g) wr wv) : LineSt w wv g n' gx x :=
  ⟨hc, h.res.only ho (fun (e : _ = _) => by omega), h.blk.only ho (fun (e : _ = _) => by have := h.lo; omega), h.lo, h.only.trans ho⟩
theorem LineSt.step (h : LineSt w wr g n gx x) (hg : g < w.heap.size) (hb : Below wr.heap.size wr wv) (hc : Cur w' g n') (ho : Only (fun b => b = g) wv w') : LineSt w w' g n' gx x := (h.below hb).drawn hg hc ho
theorem LineSt.more (h : LineSt w wr g n gx x) (hn : n ≤ n') : LineSt w wr g n' gx x := { h with cur := h.cur.more hn }
theorem LineSt.kept (h : LineSt w wr g n gx x) (hg : g < w.heap.size) (i : Nat) (v : Value) : Cur (wr.setCell ⟨gx, i, none⟩ v) g n ∧ Blk (wr.setCell ⟨gx, i, none⟩ v) w.heap.size 41 [.string ⟨#[]⟩, .string ⟨#[]⟩, .int .i64 0, .int .i64 0] ∧ Only (fun b => b = g) w (wr.setCell ⟨gx, i, none⟩ v) := by
  have hS : Only (fun b => b = gx) wr (wr.setCell ⟨gx, i, none⟩ v) := only_set (Only.refl _ _) i _
  have hlo := h.lo
  exact ⟨h.cur.keepR hS (fun (e : _ = _) => by omega) (fun b (e : _ = _) => by omega), h.res.only hS (fun (e : _ = _) => by omega), only_newR h.only (by show w.heap.size ≤ gx; omega) _⟩
theorem LineSt.set0 (h : LineSt w wr g n gx x) (hg : g < w.heap.size) (v : ByteArray) : LineSt w (wr.setCell ⟨gx, 0, none⟩ (.string v)) g n gx ⟨v, x.club, x.status, x.time⟩ := by obtain ⟨h1, h2, h3⟩ := h.kept hg 0 (.string v); exact ⟨h1, h2, h.blk.set_ 0 _, h.lo, h3⟩
theorem LineSt.set1 (h : LineSt w wr g n gx x) (hg : g < w.heap.size) (v : ByteArray) : LineSt w (wr.setCell ⟨gx, 1, none⟩ (.string v)) g n gx ⟨x.name, v, x.status, x.time⟩ := by obtain ⟨h1, h2, h3⟩ := h.kept hg 1 (.string v); exact ⟨h1, h2, h.blk.set_ 1 _, h.lo, h3⟩
theorem LineSt.set2 (h : LineSt w wr g n gx x) (hg : g < w.heap.size) (v : Int) : LineSt w (wr.setCell ⟨gx, 2, none⟩ (.int .i64 v)) g n gx ⟨x.name, x.club, v, x.time⟩ := by obtain ⟨h1, h2, h3⟩ := h.kept hg 2 (.int .i64 v); exact ⟨h1, h2, h.blk.set_ 2 _, h.lo, h3⟩
theorem LineSt.set3 (h : LineSt w wr g n gx x) (hg : g < w.heap.size) (v : Int) : LineSt w (wr.setCell ⟨gx, 3, none⟩ (.int .i64 v)) g n gx ⟨x.name, x.club, x.status, v⟩ := by obtain ⟨h1, h2, h3⟩ := h.kept hg 3 (.int .i64 v); exact ⟨h1, h2, h.blk.set_ 3 _, h.lo, h3⟩
end
/-- A line, drawn. -/
def DrawnLn (w : World) (g n : Nat) (e : Ending) (w' : World) : Prop := ∃ x : ReportLine, e = .returned (.agg #[.string x.name, .string x.club, .int .i64 x.status, .int .i64 x.time]) ∧ x.upto 20 ∧ Cur w' g n ∧ Only (fun b => b = g) w w'
theorem LineSt.done {w wr : World} {g n n' gx : Nat} {x : ReportLine} (h : LineSt w wr g n gx x) (hg : g < w.heap.size) (hc : x.upto 20) (hn : n ≤ n') : DrawnLn w g n' (.returned (.agg #[.string x.name, .string x.club, .int .i64 x.status, .int .i64 x.time])) (setManyW wr w.heap.size 0 [.string x.name, .string x.club, .int .i64 x.status, .int .i64 x.time]) := by
  have ho : Only (fun b => b = w.heap.size) wr (setManyW wr w.heap.size 0 [.string x.name, .string x.club, .int .i64 x.status, .int .i64 x.time]) := Only.many (S := fun b => b = w.heap.size) rfl _ (Only.refl _ _) 0
  have h1 := h.only
  exact ⟨x, rfl, hc, (h.cur.keepR ho (fun (e : _ = _) => by omega) (fun b (e : _ = _) => by omega)).more hn, ⟨ho.os.trans h1.os, ho.tape.trans h1.tape, ho.output.trans h1.output, Nat.le_trans h1.size ho.size, fun k hk hS => (ho.block k (Nat.lt_of_lt_of_le hk h1.size) (fun e => by omega)).trans (h1.block k hk hS)⟩⟩
theorem textsR1 : ∀ s ∈ ([⟨#[97, 110, 110]⟩, ⟨#[98, 111]⟩, ⟨#[99, 121]⟩, ⟨#[100, 105]⟩, ⟨#[101, 118, 101]⟩] : List ByteArray), s.size ≤ 20 := by decide
theorem textsR2 : ∀ s ∈ ([⟨#[104, 105, 108, 108]⟩, ⟨#[102, 101, 110]⟩] : List ByteArray), s.size ≤ 20 := by decide
theorem textsR3 : ∀ s ∈ ([⟨#[]⟩, ⟨#[65]⟩, ⟨#[97, 98, 99, 100, 101, 102, 103, 104, 105, 106, 107]⟩] : List ByteArray), s.size ≤ 20 := by decide

set_option maxRecDepth 100000 in
set_option maxHeartbeats 8000000 in
theorem reportLine_any (g n : Nat) (w : World) (h : Cur w g n) (hn : n ≤ 900000) :
    Calls Tryz.prog 70 #[.pointer (some ⟨g, 0, none⟩)] w (DrawnLn w g (n + 20)) := by
  have hg := h.lt
  have U1 : Below w.heap.size w ((w.alloc (.cells #[.string ⟨#[]⟩, .string ⟨#[]⟩, .int .i64 0, .int .i64 0] 41)).alloc (.cells #[.string ⟨#[97, 110, 110]⟩, .string ⟨#[98, 111]⟩, .string ⟨#[99, 121]⟩, .string ⟨#[100, 105]⟩, .string ⟨#[101, 118, 101]⟩] 9)) := ((Below.refl _ _).alloc (Nat.le_refl _) _).alloc (by simp) _
  have R1 : Blk ((w.alloc (.cells #[.string ⟨#[]⟩, .string ⟨#[]⟩, .int .i64 0, .int .i64 0] 41)).alloc (.cells #[.string ⟨#[97, 110, 110]⟩, .string ⟨#[98, 111]⟩, .string ⟨#[99, 121]⟩, .string ⟨#[100, 105]⟩, .string ⟨#[101, 118, 101]⟩] 9)) w.heap.size 41 [.string ⟨#[]⟩, .string ⟨#[]⟩, .int .i64 0, .int .i64 0] := (Blk.at_ rfl).alloc _
  have B1 : Blk ((w.alloc (.cells #[.string ⟨#[]⟩, .string ⟨#[]⟩, .int .i64 0, .int .i64 0] 41)).alloc (.cells #[.string ⟨#[97, 110, 110]⟩, .string ⟨#[98, 111]⟩, .string ⟨#[99, 121]⟩, .string ⟨#[100, 105]⟩, .string ⟨#[101, 118, 101]⟩] 9)) (w.heap.size + 1) 9 (([⟨#[97, 110, 110]⟩, ⟨#[98, 111]⟩, ⟨#[99, 121]⟩, ⟨#[100, 105]⟩, ⟨#[101, 118, 101]⟩] : List ByteArray).map Value.string) := Blk.at_ (by simp)
  go_enter Tryz.func70, Tryz.ntmps70
  go_wp2_with fail
  refine (of_any g n (w.heap.size + 1) 5 _ [⟨#[97, 110, 110]⟩, ⟨#[98, 111]⟩, ⟨#[99, 121]⟩, ⟨#[100, 105]⟩, ⟨#[101, 118, 101]⟩] _ B1 (by omega) (h.next U1) (by omega) rfl (by decide) (by decide)).mono ?_
  rintro e w1 ⟨s1, rfl, m1, c1, o1⟩
  have z1 := textsR1 s1 m1
  have O1 : Only (fun b => b = g) w w1 := (Only.of_below U1).trans o1
  replace R1 := R1.only o1 (fun (e : _ = _) => by omega)
  have lt1 := R1.lt
  clear U1 B1 o1 m1
  have U2 : Below w1.heap.size w1 (w1.alloc (.cells #[.string ⟨#[104, 105, 108, 108]⟩, .string ⟨#[102, 101, 110]⟩] 9)) := (Below.refl _ _).alloc (Nat.le_refl _) _
  go_wp2_with fail
  refine (of_any g _ w1.heap.size 2 _ [⟨#[104, 105, 108, 108]⟩, ⟨#[102, 101, 110]⟩] _ (Blk.at_ rfl : Blk (w1.alloc (.cells #[.string ⟨#[104, 105, 108, 108]⟩, .string ⟨#[102, 101, 110]⟩] 9)) w1.heap.size 9 (([⟨#[104, 105, 108, 108]⟩, ⟨#[102, 101, 110]⟩] : List ByteArray).map Value.string)) (by omega) (c1.next U2) (by omega) rfl (by decide) (by decide)).mono ?_
  rintro e w2 ⟨s2, rfl, m2, c2, o2⟩
  have z2 := textsR2 s2 m2
  have O2 := (O1.then_ U2).trans o2
  have R2 := (R1.next U2).only o2 (fun (e : _ = _) => by omega)
  have lt2 := R2.lt
  clear U2 R1 O1 c1 lt1 o2 m2
  have U3 : Below w2.heap.size w2 (w2.alloc (.cells #[.int .i64 0, .int .i64 0, .int .i64 0, .int .i64 1, .int .i64 2, .int .i64 3] 3)) := (Below.refl _ _).alloc (Nat.le_refl _) _
  go_wp2_with fail
  refine (among_any g _ w2.heap.size 6 _ [0, 0, 0, 1, 2, 3] _ (Blk.at_ rfl : Blk (w2.alloc (.cells #[.int .i64 0, .int .i64 0, .int .i64 0, .int .i64 1, .int .i64 2, .int .i64 3] 3)) w2.heap.size 3 (ints [0, 0, 0, 1, 2, 3])) (by omega) (c2.next U3) (by omega) rfl (by decide) (by decide)).mono ?_
  rintro e w3 ⟨s3, rfl, m3, c3, o3⟩
  have O3 := (O2.then_ U3).trans o3
  have R3 := (R2.next U3).only o3 (fun (e : _ = _) => by omega)
  have lt3 := R3.lt
  clear U3 R2 O2 c2 lt2 o3 m3
  have V : Below w3.heap.size w3 (w3.alloc (.cells #[.string s1, .string s2, .int .i64 s3, .int .i64 0] 41)) := (Below.refl _ _).alloc (Nat.le_refl _) _
  have M : LineSt w (w3.alloc (.cells #[.string s1, .string s2, .int .i64 s3, .int .i64 0] 41)) g (n + 2 + 2 + 2) w3.heap.size ⟨s1, s2, s3, 0⟩ := ⟨c3.next V, R3.next V, Blk.at_ rfl, lt3, O3.then_ V⟩
  have hu : (⟨s1, s2, s3, 0⟩ : ReportLine).upto 20 := ⟨z1, z2⟩
  clear V R3 O3 c3 lt3 z1 z2
  by_cases hz : s3 = 0
  · have zb : (s3 == 0) = true := by rw [hz]; rfl
    clear hz
    go_wp2_with fail
    have hwx : (w3.alloc (.cells #[.string s1, .string s2, .int .i64 s3, .int .i64 0] 41)).heap.size = w3.heap.size + 1 := by simp
    generalize (w3.alloc (.cells #[.string s1, .string s2, .int .i64 s3, .int .i64 0] 41)) = wx at *
    generalize w3.heap.size = gx at *
    have HW := Lib.hid hwx
    clear hwx
    have cm := M.blk.cell
    have fm := M.blk.frozen
    obtain ⟨x, hxe⟩ : ∃ x : ReportLine, x = ⟨s1, s2, s3, 0⟩ := ⟨_, rfl⟩
    have e1 : s1 = x.name := by rw [hxe]
    have e2 : s2 = x.club := by rw [hxe]
    have e3 : s3 = x.status := by rw [hxe]
    have e4 : (0 : Int) = x.time := by rw [hxe]
    rw [← hxe] at M hu
    clear e4
    subst e1 e2 e3
    clear hxe
    refine (among_any g _ (gx + 1) 7 _ [1, 59, 600, 600, 3599, 3600, 36000] _ (Blk.at_ HW.out : Blk (wx.alloc (.cells #[.int .i64 1, .int .i64 59, .int .i64 600, .int .i64 600, .int .i64 3599, .int .i64 3600, .int .i64 36000] 3)) (gx + 1) 3 (ints [1, 59, 600, 600, 3599, 3600, 36000])) (by have := hg; have := M.only.size; have := M.lo; omega) (M.cur.next ((Below.refl _ _).alloc (Nat.le_refl _) _)) (by omega) rfl (by decide) (by decide)).mono ?_
    rintro e wa ⟨wav, rfl, wam, wac, wao⟩
    replace M := M.step hg ((Below.refl _ _).alloc (Nat.le_refl _) _) wac wao
    clear wac wao cm fm
    replace hu : (⟨x.name, x.club, x.status, wav⟩ : ReportLine).upto 20 := hu
    clear wam
    have cm := M.blk.cell
    have fm := M.blk.frozen
    replace M := M.set3 hg wav
    obtain ⟨y, hye⟩ : ∃ y : ReportLine, y = ⟨x.name, x.club, x.status, wav⟩ := ⟨_, rfl⟩
    rw [← hye] at M hu
    go_wp2_with fail
    clear cm fm
    generalize wa.setCell ⟨gx, 3, none⟩ (.int .i64 wav) = wb at *
    clear hye
    clear zb
    obtain ⟨x, hxy⟩ : ∃ x' : ReportLine, x' = y := ⟨y, rfl⟩
    rw [← hxy] at M hu
    clear hxy
    refine (pick_any 70 g _ _ M.cur (by omega) (by decide) (by decide)).mono ?_
    rintro e wp ⟨z, rfl, _, kz, oz⟩
    replace M := M.drawn hg kz oz
    clear kz oz
    have cm := M.blk.cell
    have fm := M.blk.frozen
    by_cases h0 : z = 0
    · have zb0 : ((z : Int) == 0) = true := by rw [h0]; rfl
      clear h0
      go_wp2_with fail
      refine (of_any g _ (wp.heap.size) 3 _ [⟨#[]⟩, ⟨#[65]⟩, ⟨#[97, 98, 99, 100, 101, 102, 103, 104, 105, 106, 107]⟩] _ (Blk.at_ rfl : Blk (wp.alloc (.cells #[.string ⟨#[]⟩, .string ⟨#[65]⟩, .string ⟨#[97, 98, 99, 100, 101, 102, 103, 104, 105, 106, 107]⟩] 9)) (wp.heap.size) 9 (([⟨#[]⟩, ⟨#[65]⟩, ⟨#[97, 98, 99, 100, 101, 102, 103, 104, 105, 106, 107]⟩] : List ByteArray).map Value.string)) (by have := hg; have := M.only.size; have := M.lo; omega) (M.cur.next ((Below.refl _ _).alloc (Nat.le_refl _) _)) (by omega) rfl (by decide) (by decide)).mono ?_
      rintro e wa ⟨wav, rfl, wam, wac, wao⟩
      replace M := M.step hg ((Below.refl _ _).alloc (Nat.le_refl _) _) wac wao
      clear wac wao cm fm
      replace hu : (⟨wav, x.club, x.status, x.time⟩ : ReportLine).upto 20 := ⟨textsR3 wav wam, hu.2⟩
      clear wam
      have cm := M.blk.cell
      have fm := M.blk.frozen
      replace M := M.set0 hg wav
      have cr := M.res.cell
      have fr := M.res.frozen
      have cx := M.blk.cell
      go_wp2_with fail
      refine bodyPost_ret (v := .agg #[.string wav, .string x.club, .int .i64 x.status, .int .i64 x.time]) (by simp [results, Tryz.results70, go_sem, cr]) rfl ?_
      exact M.done hg hu (by omega)
    have zb0 : ((z : Int) == 0) = false := beq_eq_false_iff_ne.2 (by omega)
    by_cases h1 : z = 1
    · have zb1 : ((z : Int) == 1) = true := by rw [h1]; rfl
      clear h0 h1
      go_wp2_with fail
      refine (of_any g _ (wp.heap.size) 3 _ [⟨#[]⟩, ⟨#[65]⟩, ⟨#[97, 98, 99, 100, 101, 102, 103, 104, 105, 106, 107]⟩] _ (Blk.at_ rfl : Blk (wp.alloc (.cells #[.string ⟨#[]⟩, .string ⟨#[65]⟩, .string ⟨#[97, 98, 99, 100, 101, 102, 103, 104, 105, 106, 107]⟩] 9)) (wp.heap.size) 9 (([⟨#[]⟩, ⟨#[65]⟩, ⟨#[97, 98, 99, 100, 101, 102, 103, 104, 105, 106, 107]⟩] : List ByteArray).map Value.string)) (by have := hg; have := M.only.size; have := M.lo; omega) (M.cur.next ((Below.refl _ _).alloc (Nat.le_refl _) _)) (by omega) rfl (by decide) (by decide)).mono ?_
      rintro e wa ⟨wav, rfl, wam, wac, wao⟩
      replace M := M.step hg ((Below.refl _ _).alloc (Nat.le_refl _) _) wac wao
      clear wac wao cm fm
      replace hu : (⟨x.name, wav, x.status, x.time⟩ : ReportLine).upto 20 := ⟨hu.1, textsR3 wav wam⟩
      clear wam
      have cm := M.blk.cell
      have fm := M.blk.frozen
      replace M := M.set1 hg wav
      have cr := M.res.cell
      have fr := M.res.frozen
      have cx := M.blk.cell
      go_wp2_with fail
      refine bodyPost_ret (v := .agg #[.string x.name, .string wav, .int .i64 x.status, .int .i64 x.time]) (by simp [results, Tryz.results70, go_sem, cr]) rfl ?_
      exact M.done hg hu (by omega)
    have zb1 : ((z : Int) == 1) = false := beq_eq_false_iff_ne.2 (by omega)
    by_cases h2 : z = 2
    · have zb2 : ((z : Int) == 2) = true := by rw [h2]; rfl
      clear h0 h1 h2
      go_wp2_with fail
      refine (among_any g _ (wp.heap.size) 2 _ [-1, 4] _ (Blk.at_ rfl : Blk (wp.alloc (.cells #[.int .i64 (-1), .int .i64 4] 3)) (wp.heap.size) 3 (ints [-1, 4])) (by have := hg; have := M.only.size; have := M.lo; omega) (M.cur.next ((Below.refl _ _).alloc (Nat.le_refl _) _)) (by omega) rfl (by decide) (by decide)).mono ?_
      rintro e wa ⟨wav, rfl, wam, wac, wao⟩
      replace M := M.step hg ((Below.refl _ _).alloc (Nat.le_refl _) _) wac wao
      clear wac wao cm fm
      replace hu : (⟨x.name, x.club, wav, x.time⟩ : ReportLine).upto 20 := hu
      clear wam
      have cm := M.blk.cell
      have fm := M.blk.frozen
      replace M := M.set2 hg wav
      have cr := M.res.cell
      have fr := M.res.frozen
      have cx := M.blk.cell
      go_wp2_with fail
      refine bodyPost_ret (v := .agg #[.string x.name, .string x.club, .int .i64 wav, .int .i64 x.time]) (by simp [results, Tryz.results70, go_sem, cr]) rfl ?_
      exact M.done hg hu (by omega)
    have zb2 : ((z : Int) == 2) = false := beq_eq_false_iff_ne.2 (by omega)
    by_cases h3 : z = 3
    · have zb3 : ((z : Int) == 3) = true := by rw [h3]; rfl
      clear h0 h1 h2 h3
      go_wp2_with fail
      refine (among_any g _ (wp.heap.size) 4 _ [-1, 0, 5, 36001] _ (Blk.at_ rfl : Blk (wp.alloc (.cells #[.int .i64 (-1), .int .i64 0, .int .i64 5, .int .i64 36001] 3)) (wp.heap.size) 3 (ints [-1, 0, 5, 36001])) (by have := hg; have := M.only.size; have := M.lo; omega) (M.cur.next ((Below.refl _ _).alloc (Nat.le_refl _) _)) (by omega) rfl (by decide) (by decide)).mono ?_
      rintro e wa ⟨wav, rfl, wam, wac, wao⟩
      replace M := M.step hg ((Below.refl _ _).alloc (Nat.le_refl _) _) wac wao
      clear wac wao cm fm
      replace hu : (⟨x.name, x.club, x.status, wav⟩ : ReportLine).upto 20 := hu
      clear wam
      have cm := M.blk.cell
      have fm := M.blk.frozen
      replace M := M.set3 hg wav
      have cr := M.res.cell
      have fr := M.res.frozen
      have cx := M.blk.cell
      go_wp2_with fail
      refine bodyPost_ret (v := .agg #[.string x.name, .string x.club, .int .i64 x.status, .int .i64 wav]) (by simp [results, Tryz.results70, go_sem, cr]) rfl ?_
      exact M.done hg hu (by omega)
    have zb3 : ((z : Int) == 3) = false := beq_eq_false_iff_ne.2 (by omega)
    clear h0 h1 h2 h3
    have cr := M.res.cell
    have fr := M.res.frozen
    have cx := M.blk.cell
    go_wp2_with fail
    refine bodyPost_ret (v := .agg #[.string x.name, .string x.club, .int .i64 x.status, .int .i64 x.time]) (by simp [results, Tryz.results70, go_sem, cr]) rfl ?_
    exact M.done hg hu (by omega)
  · have zb : (s3 == 0) = false := beq_eq_false_iff_ne.2 hz
    clear hz
    go_wp2_with fail
    have hwx : (w3.alloc (.cells #[.string s1, .string s2, .int .i64 s3, .int .i64 0] 41)).heap.size = w3.heap.size + 1 := by simp
    generalize (w3.alloc (.cells #[.string s1, .string s2, .int .i64 s3, .int .i64 0] 41)) = wx at *
    generalize w3.heap.size = gx at *
    have HW := Lib.hid hwx
    clear hwx
    obtain ⟨x, hxe⟩ : ∃ x : ReportLine, x = ⟨s1, s2, s3, 0⟩ := ⟨_, rfl⟩
    rw [← hxe] at M hu
    clear hxe zb
    refine (pick_any 70 g _ _ M.cur (by omega) (by decide) (by decide)).mono ?_
    rintro e wp ⟨z, rfl, _, kz, oz⟩
    replace M := M.drawn hg kz oz
    clear kz oz
    have cm := M.blk.cell
    have fm := M.blk.frozen
    by_cases h0 : z = 0
    · have zb0 : ((z : Int) == 0) = true := by rw [h0]; rfl
      clear h0
      go_wp2_with fail
      refine (of_any g _ (wp.heap.size) 3 _ [⟨#[]⟩, ⟨#[65]⟩, ⟨#[97, 98, 99, 100, 101, 102, 103, 104, 105, 106, 107]⟩] _ (Blk.at_ rfl : Blk (wp.alloc (.cells #[.string ⟨#[]⟩, .string ⟨#[65]⟩, .string ⟨#[97, 98, 99, 100, 101, 102, 103, 104, 105, 106, 107]⟩] 9)) (wp.heap.size) 9 (([⟨#[]⟩, ⟨#[65]⟩, ⟨#[97, 98, 99, 100, 101, 102, 103, 104, 105, 106, 107]⟩] : List ByteArray).map Value.string)) (by have := hg; have := M.only.size; have := M.lo; omega) (M.cur.next ((Below.refl _ _).alloc (Nat.le_refl _) _)) (by omega) rfl (by decide) (by decide)).mono ?_
      rintro e wa ⟨wav, rfl, wam, wac, wao⟩
      replace M := M.step hg ((Below.refl _ _).alloc (Nat.le_refl _) _) wac wao
      clear wac wao cm fm
      replace hu : (⟨wav, x.club, x.status, x.time⟩ : ReportLine).upto 20 := ⟨textsR3 wav wam, hu.2⟩
      clear wam
      have cm := M.blk.cell
      have fm := M.blk.frozen
      replace M := M.set0 hg wav
      have cr := M.res.cell
      have fr := M.res.frozen
      have cx := M.blk.cell
      go_wp2_with fail
      refine bodyPost_ret (v := .agg #[.string wav, .string x.club, .int .i64 x.status, .int .i64 x.time]) (by simp [results, Tryz.results70, go_sem, cr]) rfl ?_
      exact M.done hg hu (by omega)
    have zb0 : ((z : Int) == 0) = false := beq_eq_false_iff_ne.2 (by omega)
    by_cases h1 : z = 1
    · have zb1 : ((z : Int) == 1) = true := by rw [h1]; rfl
      clear h0 h1
      go_wp2_with fail
      refine (of_any g _ (wp.heap.size) 3 _ [⟨#[]⟩, ⟨#[65]⟩, ⟨#[97, 98, 99, 100, 101, 102, 103, 104, 105, 106, 107]⟩] _ (Blk.at_ rfl : Blk (wp.alloc (.cells #[.string ⟨#[]⟩, .string ⟨#[65]⟩, .string ⟨#[97, 98, 99, 100, 101, 102, 103, 104, 105, 106, 107]⟩] 9)) (wp.heap.size) 9 (([⟨#[]⟩, ⟨#[65]⟩, ⟨#[97, 98, 99, 100, 101, 102, 103, 104, 105, 106, 107]⟩] : List ByteArray).map Value.string)) (by have := hg; have := M.only.size; have := M.lo; omega) (M.cur.next ((Below.refl _ _).alloc (Nat.le_refl _) _)) (by omega) rfl (by decide) (by decide)).mono ?_
      rintro e wa ⟨wav, rfl, wam, wac, wao⟩
      replace M := M.step hg ((Below.refl _ _).alloc (Nat.le_refl _) _) wac wao
      clear wac wao cm fm
      replace hu : (⟨x.name, wav, x.status, x.time⟩ : ReportLine).upto 20 := ⟨hu.1, textsR3 wav wam⟩
      clear wam
      have cm := M.blk.cell
      have fm := M.blk.frozen
      replace M := M.set1 hg wav
      have cr := M.res.cell
      have fr := M.res.frozen
      have cx := M.blk.cell
      go_wp2_with fail
      refine bodyPost_ret (v := .agg #[.string x.name, .string wav, .int .i64 x.status, .int .i64 x.time]) (by simp [results, Tryz.results70, go_sem, cr]) rfl ?_
      exact M.done hg hu (by omega)
    have zb1 : ((z : Int) == 1) = false := beq_eq_false_iff_ne.2 (by omega)
    by_cases h2 : z = 2
    · have zb2 : ((z : Int) == 2) = true := by rw [h2]; rfl
      clear h0 h1 h2
      go_wp2_with fail
      refine (among_any g _ (wp.heap.size) 2 _ [-1, 4] _ (Blk.at_ rfl : Blk (wp.alloc (.cells #[.int .i64 (-1), .int .i64 4] 3)) (wp.heap.size) 3 (ints [-1, 4])) (by have := hg; have := M.only.size; have := M.lo; omega) (M.cur.next ((Below.refl _ _).alloc (Nat.le_refl _) _)) (by omega) rfl (by decide) (by decide)).mono ?_
      rintro e wa ⟨wav, rfl, wam, wac, wao⟩
      replace M := M.step hg ((Below.refl _ _).alloc (Nat.le_refl _) _) wac wao
      clear wac wao cm fm
      replace hu : (⟨x.name, x.club, wav, x.time⟩ : ReportLine).upto 20 := hu
      clear wam
      have cm := M.blk.cell
      have fm := M.blk.frozen
      replace M := M.set2 hg wav
      have cr := M.res.cell
      have fr := M.res.frozen
      have cx := M.blk.cell
      go_wp2_with fail
      refine bodyPost_ret (v := .agg #[.string x.name, .string x.club, .int .i64 wav, .int .i64 x.time]) (by simp [results, Tryz.results70, go_sem, cr]) rfl ?_
      exact M.done hg hu (by omega)
    have zb2 : ((z : Int) == 2) = false := beq_eq_false_iff_ne.2 (by omega)
    by_cases h3 : z = 3
    · have zb3 : ((z : Int) == 3) = true := by rw [h3]; rfl
      clear h0 h1 h2 h3
      go_wp2_with fail
      refine (among_any g _ (wp.heap.size) 4 _ [-1, 0, 5, 36001] _ (Blk.at_ rfl : Blk (wp.alloc (.cells #[.int .i64 (-1), .int .i64 0, .int .i64 5, .int .i64 36001] 3)) (wp.heap.size) 3 (ints [-1, 0, 5, 36001])) (by have := hg; have := M.only.size; have := M.lo; omega) (M.cur.next ((Below.refl _ _).alloc (Nat.le_refl _) _)) (by omega) rfl (by decide) (by decide)).mono ?_
      rintro e wa ⟨wav, rfl, wam, wac, wao⟩
      replace M := M.step hg ((Below.refl _ _).alloc (Nat.le_refl _) _) wac wao
      clear wac wao cm fm
      replace hu : (⟨x.name, x.club, x.status, wav⟩ : ReportLine).upto 20 := hu
      clear wam
      have cm := M.blk.cell
      have fm := M.blk.frozen
      replace M := M.set3 hg wav
      have cr := M.res.cell
      have fr := M.res.frozen
      have cx := M.blk.cell
      go_wp2_with fail
      refine bodyPost_ret (v := .agg #[.string x.name, .string x.club, .int .i64 x.status, .int .i64 wav]) (by simp [results, Tryz.results70, go_sem, cr]) rfl ?_
      exact M.done hg hu (by omega)
    have zb3 : ((z : Int) == 3) = false := beq_eq_false_iff_ne.2 (by omega)
    clear h0 h1 h2 h3
    have cr := M.res.cell
    have fr := M.res.frozen
    have cx := M.blk.cell
    go_wp2_with fail
    refine bodyPost_ret (v := .agg #[.string x.name, .string x.club, .int .i64 x.status, .int .i64 x.time]) (by simp [results, Tryz.results70, go_sem, cr]) rfl ?_
    exact M.done hg hu (by omega)

end Go.Proofs.YtbcblmbpjecilaaGreatDoor
