/- Joined texts of this proof: CmdE. -/
import Derived.Test.YtflpcdffmpfdpaaGreatDoorB23
import Derived.Test.YtflpcdffmpfdpaaGreatDoorB03
set_option maxRecDepth 100000
set_option maxHeartbeats 8000000
namespace Go.Proofs.YtflpcdffmpfdpaaGreatDoor
open Go.RowKit
def jo8 (w : World) (D : Done) (e : Ending) (w' : World) : Prop :=
 ∃ (A : Option Addr) (c : Nat), e = .returned (.tuple #[.agg #[D.race.clock, D.race.closed, .slice A D.race.field.length c, D.log.durable, D.log.pending, D.log.count], .string D.reply]) ∧ MineN entrantSh w' (In w.heap.size w'.heap.size) 108 188 A D.race.field.length c D.race.field ∧ Below w.heap.size w w'
theorem ExecuteCommand_any (t : Int) (cl : Bool) (l : Log) (A : Option Addr) (n c : Nat) (xs : List Entrant) (line : ByteArray) (w : World) (hx : SeesN entrantSh w 0 A n xs) (hn : n ≤ 1048576) (hi : ∀ x ∈ xs, x.cnt ≤ 1048576) (hs : l.upto 1048576) (hls : line.size ≤ 9223372036854775807) (hgl : GlE w) :
  Calls Tryz.prog 12 #[.agg #[t, cl, .slice A n c, l.durable, l.pending, l.count], .string line] w (jo8 w (exM ⟨t, cl, xs⟩ l line)) := by
 have K := nB2 w (.cells #[t, cl, .slice A n c, l.durable, l.pending, l.count] 35) (.cells #[.int .i64 0, false, .slice none 0 0, .string ⟨#[]⟩, .string ⟨#[]⟩, .int .i64 0] 35)
 have P := nPa w [t, cl, .slice A n c, l.durable, l.pending, l.count] 35 (.cells #[.int .i64 0, false, .slice none 0 0, .string ⟨#[]⟩, .string ⟨#[]⟩, .int .i64 0] 35)
 have Z := nQ w (.cells #[t, cl, .slice A n c, l.durable, l.pending, l.count] 35) [.int .i64 0, false, .slice none 0 0, .string ⟨#[]⟩, .string ⟨#[]⟩, .int .i64 0] 35
 have hz1 := nZ2 w (.cells #[t, cl, .slice A n c, l.durable, l.pending, l.count] 35) (.cells #[.int .i64 0, false, .slice none 0 0, .string ⟨#[]⟩, .string ⟨#[]⟩, .int .i64 0] 35)
 go_enter Tryz.func12, Tryz.ntmps12
 go_upto_region 1 with fail
 generalize (w.alloc _).alloc _ = w1 at *
 have pc := P.cell
 replace hx := hx.next K
 go_wp2_with fail
 refine (IsValidConsole_any t cl l A n c xs w1 hx hn hi hs (hgl.next K).gl).mono ?_
 obtain ⟨vb, hvb⟩ : ∃ b, (jbf t cl xs && ja9 l) = b := ⟨_, rfl⟩
 rw [hvb]
 have HV := Lib.hid hvb
 clear hvb
 rintro e9 w2 ⟨rfl, b9⟩
 have zz2 := b9.size
 replace K := jaa K b9
 replace P := P.next b9
 replace Z := Z.next b9
 replace hx := hx.next b9
 clear b9 pc
 have pc := P.cell
 cases vb
 ·have HR := Lib.hid (show exM ⟨t, cl, xs⟩ l line = ⟨⟨t, cl, xs⟩, l, ⟨#[110, 111]⟩⟩ by unfold exM; rw [if_pos (show (ja0 ⟨t, cl, xs⟩ && ja9 l) = false from HV.out)])
  go_wp2_with fail
  refine (jc4 t cl l A n c xs w2 hx hn hi).mono ?_
  rintro e9 w9 ⟨A2, c2, rfl, M2, b9⟩
  have zk := K.size
  replace K := jaa K b9
  replace Z := Z.next b9
  clear pc b9
  have zc := Z.cell
  have zf := Z.frozen
  have zl := Z.lt
  go_wp2_with fail
  obtain ⟨Z2, E⟩ := jal Z (.int .i64 t) (.bool cl) (.slice A2 xs.length c2) (.string l.durable) (.string l.pending) (.int .i64 l.count)
  have M3 := M2.only E (fun b h1 (h2 : b = _) => by have := h1.1; omega)
  have zE := E.size
  clear zc zf
  have zc := Z2.cell
  refine bodyPost_ret (v := .tuple #[.agg #[t, cl, .slice A2 xs.length c2, l.durable, l.pending, l.count], .string ⟨#[110, 111]⟩]) (by simp [results, Tryz.results12, go_sem, zc]) rfl ?_
  rw [HR.out]
  exact ⟨A2, c2, rfl, M3.wide (fun b hb => ⟨by have := hb.1; omega, by have := hb.2; omega⟩), K.trans (E.below (fun b hb => by omega) K.size)⟩
 go_wp2_with fail
 refine (jbo ⟨line, ⟨#[]⟩⟩ w2 ⟨hls, by show (⟨#[]⟩ : ByteArray).size ≤ 9223372036854775807; decide⟩).mono ?_
 obtain ⟨rb, hrb⟩ : ∃ b, jgb ⟨line, ⟨#[]⟩⟩ = b := ⟨_, rfl⟩
 rw [hrb]
 have HB := Lib.hid hrb
 clear hrb
 rintro e9 w3 ⟨rfl, b9⟩
 have zz3 := b9.size
 replace K := jaa K b9
 replace P := P.next b9
 replace Z := Z.next b9
 replace hx := hx.next b9
 clear b9 pc
 have pc := P.cell
 cases rb
 ·have HR := Lib.hid (show exM ⟨t, cl, xs⟩ l line = ⟨⟨t, cl, xs⟩, l, ⟨#[98, 97, 100]⟩⟩ by unfold exM; rw [if_neg (by rw [show (ja0 ⟨t, cl, xs⟩ && ja9 l) = true from HV.out]; decide), if_pos HB.out])
  go_wp2_with fail
  refine (jc4 t cl l A n c xs w3 hx hn hi).mono ?_
  rintro e9 w9 ⟨A2, c2, rfl, M2, b9⟩
  have zk := K.size
  replace K := jaa K b9
  replace Z := Z.next b9
  clear pc b9
  have zc := Z.cell
  have zf := Z.frozen
  have zl := Z.lt
  go_wp2_with fail
  obtain ⟨Z2, E⟩ := jal Z (.int .i64 t) (.bool cl) (.slice A2 xs.length c2) (.string l.durable) (.string l.pending) (.int .i64 l.count)
  have M3 := M2.only E (fun b h1 (h2 : b = _) => by have := h1.1; omega)
  have zE := E.size
  clear zc zf
  have zc := Z2.cell
  refine bodyPost_ret (v := .tuple #[.agg #[t, cl, .slice A2 xs.length c2, l.durable, l.pending, l.count], .string ⟨#[98, 97, 100]⟩]) (by simp [results, Tryz.results12, go_sem, zc]) rfl ?_
  rw [HR.out]
  exact ⟨A2, c2, rfl, M3.wide (fun b hb => ⟨by have := hb.1; omega, by have := hb.2; omega⟩), K.trans (E.below (fun b hb => by omega) K.size)⟩
 by_cases h60 : l.count = 60
 ·have e60 : (l.count == 60) = true := beq_iff_eq.2 h60
  have HR := Lib.hid (show exM ⟨t, cl, xs⟩ l line = ⟨⟨t, cl, xs⟩, l, ⟨#[102, 117, 108, 108]⟩⟩ by unfold exM; rw [if_neg (by rw [show (ja0 ⟨t, cl, xs⟩ && ja9 l) = true from HV.out]; decide), if_neg (by rw [HB.out]; decide), if_pos h60])
  clear h60
  go_wp2_with fail
  refine (jc4 t cl l A n c xs w3 hx hn hi).mono ?_
  rintro e9 w9 ⟨A2, c2, rfl, M2, b9⟩
  have zk := K.size
  replace K := jaa K b9
  replace Z := Z.next b9
  clear pc b9
  have zc := Z.cell
  have zf := Z.frozen
  have zl := Z.lt
  go_wp2_with fail
  obtain ⟨Z2, E⟩ := jal Z (.int .i64 t) (.bool cl) (.slice A2 xs.length c2) (.string l.durable) (.string l.pending) (.int .i64 l.count)
  have M3 := M2.only E (fun b h1 (h2 : b = _) => by have := h1.1; omega)
  have zE := E.size
  clear zc zf
  have zc := Z2.cell
  refine bodyPost_ret (v := .tuple #[.agg #[t, cl, .slice A2 xs.length c2, l.durable, l.pending, l.count], .string ⟨#[102, 117, 108, 108]⟩]) (by simp [results, Tryz.results12, go_sem, zc]) rfl ?_
  rw [HR.out]
  exact ⟨A2, c2, rfl, M3.wide (fun b hb => ⟨by have := hb.1; omega, by have := hb.2; omega⟩), K.trans (E.below (fun b hb => by omega) K.size)⟩
 have HR0 := Lib.hid (show exM ⟨t, cl, xs⟩ l line = ⟨(jbl ⟨t, cl, xs⟩ line).1, (jgg l ⟨line, ja7 ⟨t, cl, xs⟩ line⟩).1, ja7 ⟨t, cl, xs⟩ line⟩ by
  unfold exM
  rw [if_neg (by rw [show (ja0 ⟨t, cl, xs⟩ && ja9 l) = true from HV.out]; decide), if_neg (by rw [HB.out]; decide), if_neg h60])
 have e60 : (l.count == 60) = false := beq_eq_false_iff_ne.2 h60
 clear h60
 go_wp2_with fail
 refine (jc4 t cl l A n c xs w3 hx hn hi).mono ?_
 rintro e9 w5 ⟨A2, c2, rfl, M2, b9⟩
 have zk := K.size
 replace K := jaa K b9
 replace Z := Z.next b9
 replace P := P.next b9
 have z5 := b9.size
 have U := nB w5 (.cells #[t, cl, .slice A2 xs.length c2, l.durable, l.pending, l.count] 35)
 have Q := nP w5 [t, cl, .slice A2 xs.length c2, l.durable, l.pending, l.count] 35
 have zu : (w5.alloc (.cells #[t, cl, .slice A2 xs.length c2, l.durable, l.pending, l.count] 35)).heap.size = w5.heap.size + 1 := by simp
 replace M2 : MineN entrantSh (w5.alloc (.cells #[t, cl, .slice A2 xs.length c2, l.durable, l.pending, l.count] 35)) (In w3.heap.size w5.heap.size) 108 188 A2 xs.length c2 xs := M2.next U
 replace K := jaa K U
 replace Z := Z.next U
 replace P := P.next U
 have hbx : w.heap.size + 2 ≤ w5.heap.size := by omega
 have hgood : ja0 ⟨t, cl, xs⟩ = true := by have := HV.out; simp only [Bool.and_eq_true] at this; exact this.1
 have hline : line.size ≤ 1000 := by
  have := HB.out
  unfold jgb at this
  simp only [Bool.and_eq_true] at this
  have h9 : (line.size : Int) ≤ 160 := (jaq this.1.1.1.1).2
  omega
 have HC := Lib.hid (jh6 w.heap.size w5.heap.size (In w3.heap.size w5.heap.size) t cl l A2 xs.length c2 xs line (w5.alloc (.cells #[t, cl, .slice A2 xs.length c2, l.durable, l.pending, l.count] 35)) Q M2 (fun b hb => ⟨by have := hb.2; omega, by have := hb.2; omega⟩) hgood hline (by omega) (by omega) (fun W hW => hgl.next (K.trans hW)))
 have hzu2 : w5.heap.size < (w5.alloc (.cells #[t, cl, .slice A2 xs.length c2, l.durable, l.pending, l.count] 35)).heap.size := by omega
 clear pc b9 U M2 Q hx zu
 go_upto_region 8 with fail
 generalize w5.alloc _ = w6 at *
 generalize w5.heap.size = bp at *
 obtain ⟨R, hR⟩ : ∃ R, jbl ⟨t, cl, xs⟩ line = R := ⟨_, rfl⟩
 have HRV := Lib.hid (show ja7 ⟨t, cl, xs⟩ line = jp3 (R.2.getD ⟨#[63]⟩) by unfold ja7; rw [hR])
 rw [hR] at HC HR0
 clear hR
 go_wp2_with fail
 refine HC.out.mono ?_
 clear HC
 obtain ⟨r2, rp⟩ := R
 rintro e9 w7 ⟨p, A3, c3, rfl, hp, Q, M3, O7⟩
 replace Q : Blk w7 bp 35 [.int .i64 r2.clock, .bool r2.closed, .slice A3 r2.field.length c3, .string l.durable, .string l.pending, .int .i64 l.count] := Q
 replace M3 : MineN entrantSh w7 (fun b => In w3.heap.size bp b ∨ (w6.heap.size ≤ b ∧ b < w7.heap.size)) 108 188 A3 r2.field.length c3 r2.field := M3
 have z7 := O7.size
 replace P := P.only O7 (fun (h : w.heap.size = bp) => by omega)
 replace Z := Z.only O7 (fun (h : w.heap.size + 1 = bp) => by omega)
 replace K := K.trans (O7.below (fun b hb => by omega) K.size)
 have hg7 := hgl.next K
 clear O7
 replace hp : ∀ q, rp = some q → p = q := hp
 have pc := P.cell
 cases rp with
 | none =>
  have HRP := Lib.hid (show ja7 ⟨t, cl, xs⟩ line = ⟨#[63]⟩ from HRV.out)
  clear HRV hp
  have CC := jc9 l ⟨line, ⟨#[63]⟩⟩ w7 hs ⟨hls, by show ByteArray.size ⟨#[63]⟩ ≤ 9223372036854775807; decide⟩ hg7.gl
  obtain ⟨G, hG⟩ : ∃ G, jgg l ⟨line, ⟨#[63]⟩⟩ = G := ⟨_, rfl⟩
  unfold jft at CC
  rw [hG] at CC
  have HR := Lib.hid (show exM ⟨t, cl, xs⟩ l line = ⟨r2, G.1, ⟨#[63]⟩⟩ by rw [HR0.out, HRP.out, hG])
  have HCC := Lib.hid CC
  clear hG CC
  go_wp2_with fail
  refine HCC.out.mono ?_
  rintro e9 w8 ⟨rfl, b9⟩
  have z8 := b9.size
  replace Q := Q.next b9
  replace Z := Z.next b9
  replace M3 := M3.next b9
  replace K := jaa K b9
  clear b9 pc
  have qc := Q.cell
  have qf := Q.frozen
  have E := ((((Only.refl (fun b => b = bp) w8).setCell (p := ⟨bp, 3, none⟩) rfl (.string G.1.durable)).setCell (p := ⟨bp, 3 + 1, none⟩) rfl (.string G.1.pending)).setCell (p := ⟨bp, 3 + 2, none⟩) rfl (.int .i64 G.1.count))
  have Q2 : Blk (((w8.setCell ⟨bp, 3, none⟩ (.string G.1.durable)).setCell ⟨bp, 3 + 1, none⟩ (.string G.1.pending)).setCell ⟨bp, 3 + 2, none⟩ (.int .i64 G.1.count)) bp 35 [.int .i64 r2.clock, .bool r2.closed, .slice A3 r2.field.length c3, .string G.1.durable, .string G.1.pending, .int .i64 G.1.count] := (((Q.set_ (3) (.string G.1.durable)).set_ (3 + 1) (.string G.1.pending)).set_ (3 + 2) (.int .i64 G.1.count))
  have M4 := M3.only E (fun b h1 (h2 : b = bp) => by rcases h1 with h1 | h1; · have := h1.2; omega
                                                     ·have := h1.1; omega)
  have Z2 := Z.only E (fun (h : w.heap.size + 1 = bp) => by omega)
  have K2 := K.trans (E.below (fun b hb => by omega) K.size)
  have zE := E.size
  go_upto_region 14 with fail
  clear qc qf Q Z M3 K E
  generalize ((w8.setCell _ _).setCell _ _).setCell _ _ = wv at *
  have qc := Q2.cell
  have zc := Z2.cell
  have zf := Z2.frozen
  go_wp2_with fail
  obtain ⟨Z3, E⟩ := jal Z2 (.int .i64 r2.clock) (.bool r2.closed) (.slice A3 r2.field.length c3) (.string G.1.durable) (.string G.1.pending) (.int .i64 G.1.count)
  have M5 := M4.only E (fun b h1 (h2 : b = w.heap.size + 1) => by rcases h1 with h1 | h1; · have := h1.1; omega
                                                                  ·have := h1.1; omega)
  have zE2 := E.size
  clear zc zf qc
  have zc := Z3.cell
  refine bodyPost_ret (v := .tuple #[.agg #[r2.clock, r2.closed, .slice A3 r2.field.length c3, .string G.1.durable, .string G.1.pending, .int .i64 G.1.count], .string ⟨#[63]⟩]) (by simp [results, Tryz.results12, go_sem, zc]) rfl ?_
  rw [HR.out]
  exact ⟨A3, c3, rfl, M5.wide (fun b hb => by rcases hb with hb | hb; · exact ⟨by have := hb.1; omega, by have := hb.2; omega⟩
                                              ·exact ⟨by have := hb.1; omega, by have := hb.2; omega⟩), K2.trans (E.below (fun b hb => by omega) K2.size)⟩
 | some q =>
  obtain rfl : p = q := hp q rfl
  by_cases h2 : 200 < p.size
  ·have HRP := Lib.hid (show ja7 ⟨t, cl, xs⟩ line = ⟨#[108, 111, 110, 103]⟩ by rw [HRV.out]; show jp3 p = _; unfold jp3; rw [if_pos h2])
   have h3 : (200 : Int) < (p.size : Int) := by omega
   clear HRV hp h2
   have CC := jc9 l ⟨line, ⟨#[108, 111, 110, 103]⟩⟩ w7 hs ⟨hls, by show ByteArray.size ⟨#[108, 111, 110, 103]⟩ ≤ 9223372036854775807; decide⟩ hg7.gl
   obtain ⟨G, hG⟩ : ∃ G, jgg l ⟨line, ⟨#[108, 111, 110, 103]⟩⟩ = G := ⟨_, rfl⟩
   unfold jft at CC
   rw [hG] at CC
   have HR := Lib.hid (show exM ⟨t, cl, xs⟩ l line = ⟨r2, G.1, ⟨#[108, 111, 110, 103]⟩⟩ by rw [HR0.out, HRP.out, hG])
   have HCC := Lib.hid CC
   clear hG CC
   go_wp2_with fail
   refine HCC.out.mono ?_
   rintro e9 w8 ⟨rfl, b9⟩
   have z8 := b9.size
   replace Q := Q.next b9
   replace Z := Z.next b9
   replace M3 := M3.next b9
   replace K := jaa K b9
   clear b9 pc
   have qc := Q.cell
   have qf := Q.frozen
   have E := ((((Only.refl (fun b => b = bp) w8).setCell (p := ⟨bp, 3, none⟩) rfl (.string G.1.durable)).setCell (p := ⟨bp, 3 + 1, none⟩) rfl (.string G.1.pending)).setCell (p := ⟨bp, 3 + 2, none⟩) rfl (.int .i64 G.1.count))
   have Q2 : Blk (((w8.setCell ⟨bp, 3, none⟩ (.string G.1.durable)).setCell ⟨bp, 3 + 1, none⟩ (.string G.1.pending)).setCell ⟨bp, 3 + 2, none⟩ (.int .i64 G.1.count)) bp 35 [.int .i64 r2.clock, .bool r2.closed, .slice A3 r2.field.length c3, .string G.1.durable, .string G.1.pending, .int .i64 G.1.count] := (((Q.set_ (3) (.string G.1.durable)).set_ (3 + 1) (.string G.1.pending)).set_ (3 + 2) (.int .i64 G.1.count))
   have M4 := M3.only E (fun b h1 (h2 : b = bp) => by rcases h1 with h1 | h1; · have := h1.2; omega
                                                      ·have := h1.1; omega)
   have Z2 := Z.only E (fun (h : w.heap.size + 1 = bp) => by omega)
   have K2 := K.trans (E.below (fun b hb => by omega) K.size)
   have zE := E.size
   go_upto_region 14 with fail
   clear qc qf Q Z M3 K E
   generalize ((w8.setCell _ _).setCell _ _).setCell _ _ = wv at *
   have qc := Q2.cell
   have zc := Z2.cell
   have zf := Z2.frozen
   go_wp2_with fail
   obtain ⟨Z3, E⟩ := jal Z2 (.int .i64 r2.clock) (.bool r2.closed) (.slice A3 r2.field.length c3) (.string G.1.durable) (.string G.1.pending) (.int .i64 G.1.count)
   have M5 := M4.only E (fun b h1 (h2 : b = w.heap.size + 1) => by rcases h1 with h1 | h1; · have := h1.1; omega
                                                                   ·have := h1.1; omega)
   have zE2 := E.size
   clear zc zf qc
   have zc := Z3.cell
   refine bodyPost_ret (v := .tuple #[.agg #[r2.clock, r2.closed, .slice A3 r2.field.length c3, .string G.1.durable, .string G.1.pending, .int .i64 G.1.count], .string ⟨#[108, 111, 110, 103]⟩]) (by simp [results, Tryz.results12, go_sem, zc]) rfl ?_
   rw [HR.out]
   exact ⟨A3, c3, rfl, M5.wide (fun b hb => by rcases hb with hb | hb; · exact ⟨by have := hb.1; omega, by have := hb.2; omega⟩
                                               ·exact ⟨by have := hb.1; omega, by have := hb.2; omega⟩), K2.trans (E.below (fun b hb => by omega) K2.size)⟩
  ·have HRP := Lib.hid (show ja7 ⟨t, cl, xs⟩ line = p by rw [HRV.out]; show jp3 p = _; unfold jp3; rw [if_neg h2])
   have h3 : ¬ (200 : Int) < (p.size : Int) := by omega
   have h4 : p.size ≤ 200 := by omega
   clear HRV hp h2
   have CC := jc9 l ⟨line, p⟩ w7 hs ⟨hls, by show ByteArray.size p ≤ 9223372036854775807; omega⟩ hg7.gl
   obtain ⟨G, hG⟩ : ∃ G, jgg l ⟨line, p⟩ = G := ⟨_, rfl⟩
   unfold jft at CC
   rw [hG] at CC
   have HR := Lib.hid (show exM ⟨t, cl, xs⟩ l line = ⟨r2, G.1, p⟩ by rw [HR0.out, HRP.out, hG])
   have HCC := Lib.hid CC
   clear hG CC
   go_wp2_with fail
   refine HCC.out.mono ?_
   rintro e9 w8 ⟨rfl, b9⟩
   have z8 := b9.size
   replace Q := Q.next b9
   replace Z := Z.next b9
   replace M3 := M3.next b9
   replace K := jaa K b9
   clear b9 pc
   have qc := Q.cell
   have qf := Q.frozen
   have E := ((((Only.refl (fun b => b = bp) w8).setCell (p := ⟨bp, 3, none⟩) rfl (.string G.1.durable)).setCell (p := ⟨bp, 3 + 1, none⟩) rfl (.string G.1.pending)).setCell (p := ⟨bp, 3 + 2, none⟩) rfl (.int .i64 G.1.count))
   have Q2 : Blk (((w8.setCell ⟨bp, 3, none⟩ (.string G.1.durable)).setCell ⟨bp, 3 + 1, none⟩ (.string G.1.pending)).setCell ⟨bp, 3 + 2, none⟩ (.int .i64 G.1.count)) bp 35 [.int .i64 r2.clock, .bool r2.closed, .slice A3 r2.field.length c3, .string G.1.durable, .string G.1.pending, .int .i64 G.1.count] := (((Q.set_ (3) (.string G.1.durable)).set_ (3 + 1) (.string G.1.pending)).set_ (3 + 2) (.int .i64 G.1.count))
   have M4 := M3.only E (fun b h1 (h2 : b = bp) => by rcases h1 with h1 | h1; · have := h1.2; omega
                                                      ·have := h1.1; omega)
   have Z2 := Z.only E (fun (h : w.heap.size + 1 = bp) => by omega)
   have K2 := K.trans (E.below (fun b hb => by omega) K.size)
   have zE := E.size
   go_upto_region 14 with fail
   clear qc qf Q Z M3 K E
   generalize ((w8.setCell _ _).setCell _ _).setCell _ _ = wv at *
   have qc := Q2.cell
   have zc := Z2.cell
   have zf := Z2.frozen
   go_wp2_with fail
   obtain ⟨Z3, E⟩ := jal Z2 (.int .i64 r2.clock) (.bool r2.closed) (.slice A3 r2.field.length c3) (.string G.1.durable) (.string G.1.pending) (.int .i64 G.1.count)
   have M5 := M4.only E (fun b h1 (h2 : b = w.heap.size + 1) => by rcases h1 with h1 | h1; · have := h1.1; omega
                                                                   ·have := h1.1; omega)
   have zE2 := E.size
   clear zc zf qc
   have zc := Z3.cell
   refine bodyPost_ret (v := .tuple #[.agg #[r2.clock, r2.closed, .slice A3 r2.field.length c3, .string G.1.durable, .string G.1.pending, .int .i64 G.1.count], .string p]) (by simp [results, Tryz.results12, go_sem, zc]) rfl ?_
   rw [HR.out]
   exact ⟨A3, c3, rfl, M5.wide (fun b hb => by rcases hb with hb | hb; · exact ⟨by have := hb.1; omega, by have := hb.2; omega⟩
                                               ·exact ⟨by have := hb.1; omega, by have := hb.2; omega⟩), K2.trans (E.below (fun b hb => by omega) K2.size)⟩
end Go.Proofs.YtflpcdffmpfdpaaGreatDoor
