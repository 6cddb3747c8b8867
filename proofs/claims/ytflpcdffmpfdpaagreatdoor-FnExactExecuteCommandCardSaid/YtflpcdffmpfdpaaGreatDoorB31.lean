/- Joined texts of this proof: CmdJ. -/
import Derived.Test.YtflpcdffmpfdpaaGreatDoorB30
import Derived.Test.YtflpcdffmpfdpaaGreatDoorB24
set_option maxRecDepth 100000
set_option maxHeartbeats 8000000
namespace Go.Proofs.YtflpcdffmpfdpaaGreatDoor
open Go.RowKit
theorem specExecuteCommand_any (t : Int) (cl : Bool) (l : Log) (A : Option Addr) (n c : Nat) (xs : List Entrant) (line : ByteArray) (w : World) (hx : SeesN entrantSh w 0 A n xs) (hn : n ≤ 1048576) (hi : ∀ x ∈ xs, x.cnt ≤ 1048576) (hs : l.upto 1048576) (hls : line.size ≤ 9223372036854775807) :
    Calls Tryz.prog 10 #[.agg #[t, cl, .slice A n c, l.durable, l.pending, l.count], .string line] w (jo8 w (exM ⟨t, cl, xs⟩ l line)) := by
  have K := nB2 w (.cells #[t, cl, .slice A n c, l.durable, l.pending, l.count] 35) (.cells #[.int .i64 0, false, .slice none 0 0, .string ⟨#[]⟩, .string ⟨#[]⟩, .int .i64 0] 35)
  have P := nPa w [t, cl, .slice A n c, l.durable, l.pending, l.count] 35 (.cells #[.int .i64 0, false, .slice none 0 0, .string ⟨#[]⟩, .string ⟨#[]⟩, .int .i64 0] 35)
  have Z := nQ w (.cells #[t, cl, .slice A n c, l.durable, l.pending, l.count] 35) [.int .i64 0, false, .slice none 0 0, .string ⟨#[]⟩, .string ⟨#[]⟩, .int .i64 0] 35
  have hz1 := nZ2 w (.cells #[t, cl, .slice A n c, l.durable, l.pending, l.count] 35) (.cells #[.int .i64 0, false, .slice none 0 0, .string ⟨#[]⟩, .string ⟨#[]⟩, .int .i64 0] 35)
  go_enter Tryz.func10, Tryz.ntmps10
  go_upto_region 1 with fail
  generalize (w.alloc _).alloc _ = w1 at *
  have pc := P.cell
  replace hx := hx.next K
  go_wp2_with fail
  refine (jj5 t cl l A n c xs w1 hx hn hi).mono ?_
  rintro e9 w2 ⟨A2, c2, rfl, M2, b9⟩
  have zz1 := K.size
  have zz2 := b9.size
  have U := nB w2 (.cells #[t, cl, .slice A2 xs.length c2, l.durable, l.pending, l.count] 35)
  have Q := nP w2 [t, cl, .slice A2 xs.length c2, l.durable, l.pending, l.count] 35
  have zu : w2.heap.size + 1 ≤ ((w2.alloc (.cells #[t, cl, .slice A2 xs.length c2, l.durable, l.pending, l.count] 35))).heap.size := by simp
  replace M2 : MineN entrantSh (w2.alloc (.cells #[t, cl, .slice A2 xs.length c2, l.durable, l.pending, l.count] 35)) (In w1.heap.size w2.heap.size) 108 188 A2 xs.length c2 xs := M2.next U
  replace b9 := jaa b9 U
  replace P := P.next b9
  replace Z := Z.next b9
  replace K := jaa K b9
  replace hx := hx.next b9
  clear b9 U pc
  go_upto_region 2 with fail
  generalize w2.alloc _ = w3 at *
  generalize w2.heap.size = g6 at *
  have pc := P.cell
  go_wp2_with fail
  refine (l28Good_any t cl l A n c xs w3 hx hn hi hs).mono ?_
  obtain ⟨vb, hvb⟩ : ∃ b, (jbf t cl xs && ja9 l) = b := ⟨_, rfl⟩
  rw [hvb]
  have HV := Lib.hid hvb
  clear hvb
  rintro e9 w4 ⟨rfl, b9⟩
  have zz4 := b9.size
  replace P := P.next b9
  replace Q := Q.next b9
  replace Z := Z.next b9
  replace K := jaa K b9
  replace M2 := M2.next b9
  clear b9 pc hx
  have pc := P.cell
  cases vb
  · have HR := Lib.hid (show exM ⟨t, cl, xs⟩ l line = ⟨⟨t, cl, xs⟩, l, ⟨#[110, 111]⟩⟩ by unfold exM; rw [if_pos (show (ja0 ⟨t, cl, xs⟩ && ja9 l) = false from HV.out)])
    have qc := Q.cell
    have zc := Z.cell
    have zf := Z.frozen
    have zl := Z.lt
    go_wp2_with fail
    obtain ⟨Z2, E⟩ := jal Z (.int .i64 t) (.bool cl) (.slice A2 xs.length c2) (.string l.durable) (.string l.pending) (.int .i64 l.count)
    have M3 := M2.only E (fun b h1 (h2 : b = _) => by have := h1.1; omega)
    have zE := E.size
    clear zc zf
    have zc := Z2.cell
    refine bodyPost_ret (v := .tuple #[.agg #[t, cl, .slice A2 xs.length c2, l.durable, l.pending, l.count], .string ⟨#[110, 111]⟩]) (by simp [results, Tryz.results10, go_sem, zc]) rfl ?_
    rw [HR.out]
    exact ⟨A2, c2, rfl, M3.wide (fun b hb => ⟨by have := hb.1; omega, by have := hb.2; omega⟩), K.trans (E.below (fun b hb => by omega) K.size)⟩
  go_wp2_with fail
  refine (jcm ⟨line, ⟨#[]⟩⟩ w4 ⟨hls, by show (⟨#[]⟩ : ByteArray).size ≤ 9223372036854775807; decide⟩).mono ?_
  obtain ⟨rb, hrb⟩ : ∃ b, jgb ⟨line, ⟨#[]⟩⟩ = b := ⟨_, rfl⟩
  rw [hrb]
  have HB := Lib.hid hrb
  clear hrb
  rintro e9 w5 ⟨rfl, b9⟩
  have zz5 := b9.size
  replace P := P.next b9
  replace Q := Q.next b9
  replace Z := Z.next b9
  replace K := jaa K b9
  replace M2 := M2.next b9
  clear b9 pc
  have pc := P.cell
  cases rb
  · have HR := Lib.hid (show exM ⟨t, cl, xs⟩ l line = ⟨⟨t, cl, xs⟩, l, ⟨#[98, 97, 100]⟩⟩ by unfold exM; rw [if_neg (by rw [show (ja0 ⟨t, cl, xs⟩ && ja9 l) = true from HV.out]; decide), if_pos HB.out])
    have qc := Q.cell
    have zc := Z.cell
    have zf := Z.frozen
    have zl := Z.lt
    go_wp2_with fail
    obtain ⟨Z2, E⟩ := jal Z (.int .i64 t) (.bool cl) (.slice A2 xs.length c2) (.string l.durable) (.string l.pending) (.int .i64 l.count)
    have M3 := M2.only E (fun b h1 (h2 : b = _) => by have := h1.1; omega)
    have zE := E.size
    clear zc zf
    have zc := Z2.cell
    refine bodyPost_ret (v := .tuple #[.agg #[t, cl, .slice A2 xs.length c2, l.durable, l.pending, l.count], .string ⟨#[98, 97, 100]⟩]) (by simp [results, Tryz.results10, go_sem, zc]) rfl ?_
    rw [HR.out]
    exact ⟨A2, c2, rfl, M3.wide (fun b hb => ⟨by have := hb.1; omega, by have := hb.2; omega⟩), K.trans (E.below (fun b hb => by omega) K.size)⟩
  by_cases h60 : l.count = 60
  · have e60 : (l.count == 60) = true := beq_iff_eq.2 h60
    have HR := Lib.hid (show exM ⟨t, cl, xs⟩ l line = ⟨⟨t, cl, xs⟩, l, ⟨#[102, 117, 108, 108]⟩⟩ by unfold exM; rw [if_neg (by rw [show (ja0 ⟨t, cl, xs⟩ && ja9 l) = true from HV.out]; decide), if_neg (by rw [HB.out]; decide), if_pos h60])
    clear h60
    have qc := Q.cell
    have zc := Z.cell
    have zf := Z.frozen
    have zl := Z.lt
    go_wp2_with fail
    obtain ⟨Z2, E⟩ := jal Z (.int .i64 t) (.bool cl) (.slice A2 xs.length c2) (.string l.durable) (.string l.pending) (.int .i64 l.count)
    have M3 := M2.only E (fun b h1 (h2 : b = _) => by have := h1.1; omega)
    have zE := E.size
    clear zc zf
    have zc := Z2.cell
    refine bodyPost_ret (v := .tuple #[.agg #[t, cl, .slice A2 xs.length c2, l.durable, l.pending, l.count], .string ⟨#[102, 117, 108, 108]⟩]) (by simp [results, Tryz.results10, go_sem, zc]) rfl ?_
    rw [HR.out]
    exact ⟨A2, c2, rfl, M3.wide (fun b hb => ⟨by have := hb.1; omega, by have := hb.2; omega⟩), K.trans (E.below (fun b hb => by omega) K.size)⟩
  have HR0 := Lib.hid (show exM ⟨t, cl, xs⟩ l line = ⟨(jbl ⟨t, cl, xs⟩ line).1, (jgg l ⟨line, ja7 ⟨t, cl, xs⟩ line⟩).1, ja7 ⟨t, cl, xs⟩ line⟩ by
    unfold exM
    rw [if_neg (by rw [show (ja0 ⟨t, cl, xs⟩ && ja9 l) = true from HV.out]; decide), if_neg (by rw [HB.out]; decide), if_neg h60])
  have e60 : (l.count == 60) = false := beq_eq_false_iff_ne.2 h60
  clear h60
  have hgood : ja0 ⟨t, cl, xs⟩ = true := by have := HV.out; simp only [Bool.and_eq_true] at this; exact this.1
  have hline : line.size ≤ 1000 := by
    have := HB.out
    unfold jgb at this
    simp only [Bool.and_eq_true] at this
    have h9 : (line.size : Int) ≤ 160 := (jaq this.1.1.1.1).2
    omega
  have hgl := jox (line := line) hgood
  obtain ⟨R, hR⟩ : ∃ R, jbl ⟨t, cl, xs⟩ line = R := ⟨_, rfl⟩
  obtain ⟨r2, rp⟩ := R
  obtain ⟨rep, hrep⟩ : ∃ rep, rp.getD ⟨#[63]⟩ = rep := ⟨_, rfl⟩
  have CC := jod w5.heap.size t cl l A2 xs.length c2 xs line w5 (Nat.le_refl _) (jky M2.sees (Below.refl _ _)) hgood hline
  unfold jd0 at CC
  rw [hR] at CC hgl HR0
  replace CC : Calls Tryz.prog 44 #[.agg #[t, cl, .slice A2 xs.length c2, l.durable, l.pending, l.count], .string line] w5 fun e w' => ∃ (A3 : Option Addr) (c3 : Nat), e = .returned (.tuple #[.agg #[r2.clock, r2.closed, .slice A3 r2.field.length c3, l.durable, l.pending, l.count], .string rep]) ∧ Stays w' w5.heap.size w5.heap.size A3 r2.field.length r2.field ∧ Below w5.heap.size w5 w' := by
    subst hrep
    exact CC
  have HRV := Lib.hid (show ja7 ⟨t, cl, xs⟩ line = jp3 rep by unfold ja7; rw [hR, ← hrep])
  replace HR0 := Lib.hid (show exM ⟨t, cl, xs⟩ l line = ⟨r2, (jgg l ⟨line, ja7 ⟨t, cl, xs⟩ line⟩).1, ja7 ⟨t, cl, xs⟩ line⟩ from HR0.out)
  replace hgl : ja0 r2 = true := hgl
  have HCC := Lib.hid CC
  clear CC hR hrep hgood
  have hr8 := (jfx hgl).2
  have HSM := Lib.hid (jb2 hgl)
  have qc := Q.cell
  go_wp2_with fail
  refine HCC.out.mono ?_
  clear HCC
  rintro e9 w7 ⟨A3, c3, rfl, X3, b9⟩
  have hX3 := X3.sees
  clear X3 qc pc
  have zz7 := b9.size
  replace P := P.next b9
  replace Q := Q.next b9
  replace Z := Z.next b9
  replace K := jaa K b9
  have U := nB w7 (.cells #[r2.clock, r2.closed, .slice A3 r2.field.length c3, l.durable, l.pending, l.count] 35)
  have Y := nP w7 [r2.clock, r2.closed, .slice A3 r2.field.length c3, l.durable, l.pending, l.count] 35
  have zu7 : w7.heap.size + 1 ≤ ((w7.alloc (.cells #[r2.clock, r2.closed, .slice A3 r2.field.length c3, l.durable, l.pending, l.count] 35))).heap.size := by simp
  replace b9 := U
  replace P := P.next b9
  replace Q := Q.next b9
  replace Z := Z.next b9
  replace K := jaa K b9
  replace hX3 := hX3.next b9
  clear b9 U M2 hgl
  go_upto_region 9 with fail
  generalize w7.alloc _ = w8 at *
  generalize w7.heap.size = g7 at *
  have yc := Y.cell
  go_wp2_with fail
  refine (jj5 r2.clock r2.closed l A3 r2.field.length c3 r2.field w8 hX3 (by omega) HSM.out).mono ?_
  rintro e9 w9 ⟨A4, c4, he9, M4, b9⟩
  replace he9 : e9 = .returned (.agg #[r2.clock, r2.closed, .slice A4 r2.field.length c4, l.durable, l.pending, l.count]) := he9
  subst he9
  replace M4 : MineN entrantSh w9 (In w8.heap.size w9.heap.size) 108 188 A4 r2.field.length c4 r2.field := M4
  have zz9 := b9.size
  have hg6 := Q.lt
  replace P := P.next b9
  replace Q := Q.next b9
  replace Z := Z.next b9
  replace K := jaa K b9
  clear b9 yc Y hX3
  have qf := Q.frozen
  have qc := Q.cell
  obtain ⟨Q2, E⟩ := jal Q (.int .i64 r2.clock) (.bool r2.closed) (.slice A4 r2.field.length c4) (.string l.durable) (.string l.pending) (.int .i64 l.count)
  have P2 := P.only E (fun (h : w.heap.size = g6) => by omega)
  have Z2 := Z.only E (fun (h : w.heap.size + 1 = g6) => by omega)
  have M5 := M4.only E (fun b h1 (h2 : b = g6) => by have := h1.1; omega)
  have K2 := K.trans (E.below (fun b hb => by omega) K.size)
  have zE := E.size
  go_upto_region 10 with fail
  clear qf qc P Q Z M4 K E
  generalize (((((w9.setCell _ _).setCell _ _).setCell _ _).setCell _ _).setCell _ _).setCell _ _ = wy at *
  have pc := P2.cell
  by_cases h2 : 200 < rep.size
  · have HRP := Lib.hid (show ja7 ⟨t, cl, xs⟩ line = ⟨#[108, 111, 110, 103]⟩ by rw [HRV.out]; unfold jp3; rw [if_pos h2])
    have h3 : (200 : Int) < (rep.size : Int) := by omega
    clear HRV h2
    have CC := jdc l ⟨line, ⟨#[108, 111, 110, 103]⟩⟩ wy hs ⟨hls, by show ByteArray.size ⟨#[108, 111, 110, 103]⟩ ≤ 9223372036854775807; decide⟩
    obtain ⟨G, hG⟩ : ∃ G, jgg l ⟨line, ⟨#[108, 111, 110, 103]⟩⟩ = G := ⟨_, rfl⟩
    unfold jft at CC
    rw [hG] at CC
    have HR := Lib.hid (show exM ⟨t, cl, xs⟩ l line = ⟨r2, G.1, ⟨#[108, 111, 110, 103]⟩⟩ by rw [HR0.out, HRP.out, hG])
    have HCC := Lib.hid CC
    clear hG CC
    go_wp2_with fail
    refine HCC.out.mono ?_
    rintro e9 wb ⟨rfl, b9⟩
    have zb := b9.size
    have Q := Q2.next b9
    have Z := Z2.next b9
    have M4 := M5.next b9
    have K := jaa K2 b9
    clear b9 pc Q2 Z2 M5 K2
    have qc := Q.cell
    have qf := Q.frozen
    have E := ((((Only.refl (fun b => b = g6) wb).setCell (p := ⟨g6, 3, none⟩) rfl (.string G.1.durable)).setCell (p := ⟨g6, 3 + 1, none⟩) rfl (.string G.1.pending)).setCell (p := ⟨g6, 3 + 2, none⟩) rfl (.int .i64 G.1.count))
    have Q2 : Blk (((wb.setCell ⟨g6, 3, none⟩ (.string G.1.durable)).setCell ⟨g6, 3 + 1, none⟩ (.string G.1.pending)).setCell ⟨g6, 3 + 2, none⟩ (.int .i64 G.1.count)) g6 35 [.int .i64 r2.clock, .bool r2.closed, .slice A4 r2.field.length c4, .string G.1.durable, .string G.1.pending, .int .i64 G.1.count] := (((Q.set_ (3) (.string G.1.durable)).set_ (3 + 1) (.string G.1.pending)).set_ (3 + 2) (.int .i64 G.1.count))
    have M5 := M4.only E (fun b h1 (h2 : b = g6) => by have := h1.1; omega)
    have Z2 := Z.only E (fun (h : w.heap.size + 1 = g6) => by omega)
    have K2 := K.trans (E.below (fun b hb => by omega) K.size)
    have zE3 := E.size
    go_upto_region 13 with fail
    clear qc qf Q Z M4 K E
    generalize ((wb.setCell _ _).setCell _ _).setCell _ _ = wv at *
    have qc := Q2.cell
    have zc := Z2.cell
    have zf := Z2.frozen
    go_wp2_with fail
    obtain ⟨Z3, E⟩ := jal Z2 (.int .i64 r2.clock) (.bool r2.closed) (.slice A4 r2.field.length c4) (.string G.1.durable) (.string G.1.pending) (.int .i64 G.1.count)
    have M6 := M5.only E (fun b h1 (h2 : b = w.heap.size + 1) => by have := h1.1; omega)
    have zE2 := E.size
    clear zc zf qc
    have zc := Z3.cell
    refine bodyPost_ret (v := .tuple #[.agg #[r2.clock, r2.closed, .slice A4 r2.field.length c4, .string G.1.durable, .string G.1.pending, .int .i64 G.1.count], .string ⟨#[108, 111, 110, 103]⟩]) (by simp [results, Tryz.results10, go_sem, zc]) rfl ?_
    rw [HR.out]
    exact ⟨A4, c4, rfl, M6.wide (fun b hb => ⟨by have := hb.1; omega, by have := hb.2; omega⟩), K2.trans (E.below (fun b hb => by omega) K2.size)⟩
  have HRP := Lib.hid (show ja7 ⟨t, cl, xs⟩ line = rep by rw [HRV.out]; unfold jp3; rw [if_neg h2])
  have h3 : ¬ (200 : Int) < (rep.size : Int) := by omega
  have h4 : rep.size ≤ 200 := by omega
  clear HRV h2
  have CC := jdc l ⟨line, rep⟩ wy hs ⟨hls, by show ByteArray.size rep ≤ 9223372036854775807; omega⟩
  obtain ⟨G, hG⟩ : ∃ G, jgg l ⟨line, rep⟩ = G := ⟨_, rfl⟩
  unfold jft at CC
  rw [hG] at CC
  have HR := Lib.hid (show exM ⟨t, cl, xs⟩ l line = ⟨r2, G.1, rep⟩ by rw [HR0.out, HRP.out, hG])
  have HCC := Lib.hid CC
  clear hG CC
  go_wp2_with fail
  refine HCC.out.mono ?_
  rintro e9 wb ⟨rfl, b9⟩
  have zb := b9.size
  have Q := Q2.next b9
  have Z := Z2.next b9
  have M4 := M5.next b9
  have K := jaa K2 b9
  clear b9 pc Q2 Z2 M5 K2
  have qc := Q.cell
  have qf := Q.frozen
  have E := ((((Only.refl (fun b => b = g6) wb).setCell (p := ⟨g6, 3, none⟩) rfl (.string G.1.durable)).setCell (p := ⟨g6, 3 + 1, none⟩) rfl (.string G.1.pending)).setCell (p := ⟨g6, 3 + 2, none⟩) rfl (.int .i64 G.1.count))
  have Q2 : Blk (((wb.setCell ⟨g6, 3, none⟩ (.string G.1.durable)).setCell ⟨g6, 3 + 1, none⟩ (.string G.1.pending)).setCell ⟨g6, 3 + 2, none⟩ (.int .i64 G.1.count)) g6 35 [.int .i64 r2.clock, .bool r2.closed, .slice A4 r2.field.length c4, .string G.1.durable, .string G.1.pending, .int .i64 G.1.count] := (((Q.set_ (3) (.string G.1.durable)).set_ (3 + 1) (.string G.1.pending)).set_ (3 + 2) (.int .i64 G.1.count))
  have M5 := M4.only E (fun b h1 (h2 : b = g6) => by have := h1.1; omega)
  have Z2 := Z.only E (fun (h : w.heap.size + 1 = g6) => by omega)
  have K2 := K.trans (E.below (fun b hb => by omega) K.size)
  have zE3 := E.size
  go_upto_region 13 with fail
  clear qc qf Q Z M4 K E
  generalize ((wb.setCell _ _).setCell _ _).setCell _ _ = wv at *
  have qc := Q2.cell
  have zc := Z2.cell
  have zf := Z2.frozen
  go_wp2_with fail
  obtain ⟨Z3, E⟩ := jal Z2 (.int .i64 r2.clock) (.bool r2.closed) (.slice A4 r2.field.length c4) (.string G.1.durable) (.string G.1.pending) (.int .i64 G.1.count)
  have M6 := M5.only E (fun b h1 (h2 : b = w.heap.size + 1) => by have := h1.1; omega)
  have zE2 := E.size
  clear zc zf qc
  have zc := Z3.cell
  refine bodyPost_ret (v := .tuple #[.agg #[r2.clock, r2.closed, .slice A4 r2.field.length c4, .string G.1.durable, .string G.1.pending, .int .i64 G.1.count], .string rep]) (by simp [results, Tryz.results10, go_sem, zc]) rfl ?_
  rw [HR.out]
  exact ⟨A4, c4, rfl, M6.wide (fun b hb => ⟨by have := hb.1; omega, by have := hb.2; omega⟩), K2.trans (E.below (fun b hb => by omega) K2.size)⟩
end Go.Proofs.YtflpcdffmpfdpaaGreatDoor
