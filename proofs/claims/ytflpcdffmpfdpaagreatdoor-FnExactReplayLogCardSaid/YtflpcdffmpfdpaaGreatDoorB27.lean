/- Joined texts of this proof: CmdF. -/
import Derived.Test.YtflpcdffmpfdpaaGreatDoorB23
import Derived.Test.YtflpcdffmpfdpaaGreatDoorB25
import Derived.Test.YtflpcdffmpfdpaaGreatDoorB26
set_option maxRecDepth 100000
set_option maxHeartbeats 8000000
namespace Go.Proofs.YtflpcdffmpfdpaaGreatDoor
open Go.RowKit
def jbu (r : RaceV) (k e v : Int) : RaceV × ByteArray := match jdh r k e v with
 | none => (r, ⟨#[63]⟩)
 | some r2 => (r2, jcl r2 k e)
def Stays (w : World) (lo hi : Nat) (A : Option Addr) (n : Nat) (xs : List Entrant) : Prop := ∀ (T : Nat → Prop) (W : World), Only T w W → (∀ b, T b → lo ≤ b ∧ b < hi) → SeesN entrantSh W 0 A n xs
theorem Stays.sees {w : World} {lo hi n : Nat} {A : Option Addr} {xs : List Entrant} (h : Stays w lo hi A n xs) : SeesN entrantSh w 0 A n xs := h (fun _ => False) w (Only.refl _ _) (fun _ hb => hb.elim)
theorem Stays.below {w w' : World} {lo hi n : Nat} {A : Option Addr} {xs : List Entrant} (h : Stays w lo hi A n xs) (hb : Below w.heap.size w w') : Stays w' lo hi A n xs := fun T W ho hT => h T W ((Only.of_below hb).trans ho) hT
theorem Stays.only {w w' : World} {lo hi hi' n : Nat} {A : Option Addr} {xs : List Entrant} {S : Nat → Prop} (h : Stays w lo hi A n xs) (ho : Only S w w') (hS : ∀ b, S b → lo ≤ b ∧ b < hi) (hh : hi' ≤ hi) : Stays w' lo hi' A n xs := fun T W ho2 hT => h (fun b => S b ∨ T b) W ((ho.mono fun _ hb => Or.inl hb).trans (ho2.mono fun _ hb => Or.inr hb)) (fun b hb => hb.elim (hS b) (fun h9 => ⟨(hT b h9).1, Nat.lt_of_lt_of_le (hT b h9).2 hh⟩))
theorem Stays.next {w w' : World} {lo n : Nat} {A : Option Addr} {xs : List Entrant} (h : Stays w lo w.heap.size A n xs) (hb : Below w.heap.size w w') : Stays w' lo w'.heap.size A n xs := fun T W ho hT =>
 have h1 : Only T w W := (Only.of_below hb).trans ho
 h (fun b => T b ∧ b < w.heap.size) W ⟨h1.os, h1.tape, h1.output, h1.size, fun i hi hn => h1.block i hi (fun hq => hn ⟨hq, hi⟩)⟩ (fun b hb9 => ⟨(hT b hb9.1).1, hb9.2⟩)
theorem jb5 {w : World} {S : Nat → Prop} {lo hi n c : Nat} {A : Option Addr} {xs : List Entrant} (h : MineN entrantSh w S 108 188 A n c xs) (hS : ∀ b, S b → b < lo ∨ hi ≤ b) : Stays w lo hi A n xs := fun _ _ ho hT => (h.only ho (fun b h1 h2 => by have h3 := hS b h1; have h4 := hT b h2; omega)).sees
theorem jky {w w' : World} {hi n : Nat} {A : Option Addr} {xs : List Entrant} (h : SeesN entrantSh w 0 A n xs) (hb : Below w.heap.size w w') : Stays w' w.heap.size hi A n xs := fun _ _ ho hT => h.next (hb.trans (ho.below (fun b h1 => (hT b h1).1) hb.size))
def jkq (w : World) (lo : Nat) (R : RaceV × ByteArray) (l : Log) (e : Ending) (w' : World) : Prop :=
 ∃ (A : Option Addr) (c : Nat), e = .returned (.tuple #[.agg #[.int .i64 R.1.clock, .bool R.1.closed, .slice A R.1.field.length c, l.durable, l.pending, l.count], .string R.2]) ∧ Stays w' lo w.heap.size A R.1.field.length R.1.field ∧ Below w.heap.size w w'
theorem jfw {w : World} {S : Nat → Prop} {b off n c : Nat} {xs : List Entrant} (h : MineN entrantSh w S 108 188 (some ⟨b, off, none⟩) n c xs) : S b := by
 obtain ⟨rs, _, h2⟩ := h
 rcases jby h2.outer.own with ⟨h3, _⟩ | ⟨g, cur, e, _⟩
 ·cases h3
 ·injection e with e
  injection e with e1 e2 _
  subst e1 e2
  exact h2.outer.top b (by simp [jaj, Value.ownBlock])
theorem jcz (lo : Nat) (t : Int) (cl : Bool) (l : Log) (A : Option Addr) (n c : Nat) (xs : List Entrant) (k e v : Int) (w : World) (hx : Stays w lo w.heap.size A n xs) (hg : ja0 ⟨t, cl, xs⟩ = true) (hk : 1 ≤ k ∧ k ≤ 6) :
  Calls Tryz.prog 87 #[.agg #[t, cl, .slice A n c, l.durable, l.pending, l.count], .agg #[k, e, v]] w (jkq w lo (jbu ⟨t, cl, xs⟩ k e v) l) := by
 have P := nPb w [t, cl, .slice A n c, l.durable, l.pending, l.count] 35 (.cells #[k, e, v] 124) (.cells #[.int .i64 0, false, .slice none 0 0, .string ⟨#[]⟩, .string ⟨#[]⟩, .int .i64 0] 35)
 have Q := nQa w (.cells #[t, cl, .slice A n c, l.durable, l.pending, l.count] 35) [k, e, v] 124 (.cells #[.int .i64 0, false, .slice none 0 0, .string ⟨#[]⟩, .string ⟨#[]⟩, .int .i64 0] 35)
 have Z := nR w (.cells #[t, cl, .slice A n c, l.durable, l.pending, l.count] 35) (.cells #[k, e, v] 124) [.int .i64 0, false, .slice none 0 0, .string ⟨#[]⟩, .string ⟨#[]⟩, .int .i64 0] 35
 have K := nB3 w (.cells #[t, cl, .slice A n c, l.durable, l.pending, l.count] 35) (.cells #[k, e, v] 124) (.cells #[.int .i64 0, false, .slice none 0 0, .string ⟨#[]⟩, .string ⟨#[]⟩, .int .i64 0] 35)
 have hz1 : w.heap.size + 3 ≤ ((((w.alloc (.cells #[t, cl, .slice A n c, l.durable, l.pending, l.count] 35)).alloc (.cells #[k, e, v] 124)).alloc (.cells #[.int .i64 0, false, .slice none 0 0, .string ⟨#[]⟩, .string ⟨#[]⟩, .int .i64 0] 35))).heap.size := by simp
 go_enter Tryz.func87, Tryz.ntmps87
 go_upto_region 1 with fail
 generalize ((w.alloc _).alloc _).alloc _ = w1 at *
 have hst := hx
 replace hx := hx.sees.next K
 obtain ⟨R0, hR⟩ : ∃ R, jdh ⟨t, cl, xs⟩ k e v = R := ⟨_, rfl⟩
 obtain ⟨r2, hr2⟩ : ∃ r2, R0.getD jm4 = r2 := ⟨_, rfl⟩
 obtain ⟨ok, hok⟩ : ∃ ok, R0.isSome = ok := ⟨_, rfl⟩
 have CC := jhi t cl A n c xs k e v w1 hx (by have := hx.count; have := (jfx hg).2; have h8 : xs.length ≤ 8 := this; omega) (jb2 hg)
 unfold jkv at CC
 rw [hR, hr2, hok] at CC
 have HSR := Lib.hid hR
 have HRV := Lib.hid (show ok = true → R0 = some r2 by
  intro h
  rw [← hok] at h
  cases R0 with
  | none => cases h
  | some r => rw [← hr2]; rfl)
 have HRN := Lib.hid (show ok = false → R0 = none by
  intro h
  rw [← hok] at h
  cases R0 with
  | none => rfl
  | some r => cases h)
 have HCC := Lib.hid CC
 clear hR hr2 hok CC
 have pc := P.cell
 have qc := Q.cell
 go_wp2_with fail
 refine HCC.out.mono ?_
 clear HCC
 rintro e9 w3 ⟨A2, c2, rfl, M2, b9⟩
 have z3 := b9.size
 have U := nB w3 (.cells #[r2.clock, r2.closed, .slice A2 r2.field.length c2] 32)
 have R := nP w3 [r2.clock, r2.closed, .slice A2 r2.field.length c2] 32
 replace b9 := jaa b9 U
 replace P := P.next b9
 replace Q := Q.next b9
 replace Z := Z.next b9
 replace K := jaa K b9
 replace hx := hx.next b9
 replace M2 := (M2.next U).wide (T := fun b => w.heap.size + 3 ≤ b ∧ b < w3.heap.size) (fun b hb => ⟨by have := hb.1; omega, hb.2⟩)
 have hgq : w.heap.size + 3 ≤ w3.heap.size := by omega
 clear pc qc U b9
 go_upto_region 2 with fail
 generalize w3.alloc _ = w4 at *
 generalize w3.heap.size = gq at *
 cases ok
 ·have HR := Lib.hid (show jbu ⟨t, cl, xs⟩ k e v = (⟨t, cl, xs⟩, ⟨#[63]⟩) by unfold jbu; rw [show jdh ⟨t, cl, xs⟩ k e v = none from HSR.out.trans (HRN.out rfl)])
  have hxl := hx.count
  subst hxl
  have pc := P.cell
  have zc := Z.cell
  have zf := Z.frozen
  go_wp2_with fail
  obtain ⟨Z3, E⟩ := jal Z (.int .i64 t) (.bool cl) (.slice A xs.length c) (.string l.durable) (.string l.pending) (.int .i64 l.count)
  have K5 := K.trans (E.below (fun b hb => by omega) K.size)
  clear zc zf
  have zc := Z3.cell
  refine bodyPost_ret (v := .tuple #[.agg #[t, cl, .slice A xs.length c, l.durable, l.pending, l.count], .string ⟨#[63]⟩]) (by simp [results, Tryz.results87, go_sem, zc]) rfl ?_
  rw [HR.out]
  exact ⟨A, c, rfl, hst.below K5, K5⟩
 have HR2 := Lib.hid (show jbu ⟨t, cl, xs⟩ k e v = (r2, jcl r2 k e) by unfold jbu; rw [show jdh ⟨t, cl, xs⟩ k e v = some r2 from HSR.out.trans (HRV.out rfl)])
 have HG2 := Lib.hid (je5 (HSR.out.trans (HRV.out rfl)))
 have HRG := Lib.hid (jfh (HSR.out.trans (HRV.out rfl)))
 obtain ⟨hc0, hc1, -, hn8, -⟩ := jam HG2.out
 have U := nB w4 (.cells #[t, cl, .slice A n c, l.durable, l.pending, l.count] 35)
 have G := nP w4 [t, cl, .slice A n c, l.durable, l.pending, l.count] 35
 have hg8 : gq < w4.heap.size := R.lt
 have pc := P.cell
 go_upto_region 5 with fail
 replace P := P.next U
 replace Q := Q.next U
 replace R := R.next U
 replace Z := Z.next U
 replace M2 := M2.next U
 replace K := jaa K U
 clear pc U hx HRV HRN HSR
 generalize w4.alloc _ = w5 at *
 generalize w4.heap.size = g8 at *
 have rc := R.cell
 have gf := G.frozen
 have gc := G.cell
 have E := ((((Only.refl (fun b => b = g8) w5).setCell (p := ⟨g8, 0, none⟩) rfl (.int .i64 r2.clock)).setCell (p := ⟨g8, 1, none⟩) rfl (.bool r2.closed)).setCell (p := ⟨g8, 2, none⟩) rfl (.slice A2 r2.field.length c2))
 have G2 : Blk (((w5.setCell ⟨g8, 0, none⟩ (.int .i64 r2.clock)).setCell ⟨g8, 1, none⟩ (.bool r2.closed)).setCell ⟨g8, 2, none⟩ (.slice A2 r2.field.length c2)) g8 35 [.int .i64 r2.clock, .bool r2.closed, .slice A2 r2.field.length c2, .string l.durable, .string l.pending, .int .i64 l.count] := (((G.set_ 0 (.int .i64 r2.clock)).set_ 1 (.bool r2.closed)).set_ 2 (.slice A2 r2.field.length c2))
 have P2 := P.only E (fun (h : w.heap.size = g8) => by omega)
 have Q2 := Q.only E (fun (h : w.heap.size + 1 = g8) => by omega)
 have R2 := R.only E (fun (h : gq = g8) => by omega)
 have Z2 := Z.only E (fun (h : w.heap.size + 2 = g8) => by omega)
 have M3 := M2.only E (fun b h1 (h2 : b = g8) => by have := h1.2; omega)
 have K2 := K.trans (E.below (fun b hb => by omega) K.size)
 go_upto_region 6 with fail
 clear P Q R Z M2 K G gc gf rc E
 generalize ((w5.setCell _ _).setCell _ _).setCell _ _ = wy at *
 have G := G2
 have P := P2
 have Q := Q2
 have R := R2
 have Z := Z2
 have M2 := M3
 have K := K2
 clear G2 P2 Q2 R2 Z2 M3 K2
 have qc := Q.cell
 by_cases k1 : k = 1
 ·subst k1
  have HR := Lib.hid (show jbu ⟨t, cl, xs⟩ 1 e v = (r2, jbe r2.clock) from HR2.out)
  go_upto_region 9 with fail
  have Kq := K
  clear K
  have b9 := (Quiet.one wy).below wy.heap.size
  replace P := P.next b9
  replace Q := Q.next b9
  replace R := R.next b9
  replace G := G.next b9
  replace Z := Z.next b9
  replace M2 := M2.next b9
  replace Kq := jaa Kq b9
  clear b9
  have gc := G.cell
  have qc := Q.cell
  have rc := R.cell
  have zc := Z.cell
  have zf := Z.frozen
  refine wp_region_held_drew (S := fun w' => w'.cell? ⟨g8, 0, none⟩ = some (.int .i64 r2.clock) ∧ w'.cell? ⟨g8, 1, none⟩ = some (.bool r2.closed) ∧ w'.cell? ⟨g8, 2, none⟩ = some (.slice A2 r2.field.length c2) ∧ w'.cell? ⟨g8, 3, none⟩ = some (.string l.durable) ∧ w'.cell? ⟨g8, 4, none⟩ = some (.string l.pending) ∧ w'.cell? ⟨g8, 5, none⟩ = some (.int .i64 l.count) ∧ w'.cell? ⟨gq, 0, none⟩ = some (.int .i64 r2.clock)) (by kernel_rfl) (by (try dsimp only); exact ⟨gc 0, gc 1, gc 2, gc 3, gc 4, gc 5, rc 0⟩) (fun hH => ?_)
  generalize wy.drew = wz at *
  refine wQ 0 ?_
  refine wQ 1 ?_
  refine wQ 2 ?_
  refine wR (rs := [3]) (by kernel_rfl) (by simp) ?_
  refine aC rfl (fun K hK => ?_) aN
  go_simp
  (try rw [HWS.out])
  go_must (refine (jau r2.clock _ (by omega) (by omega)).mono ?_)
  rintro e9 w9 ⟨rfl, q9⟩
  have b9 := q9.below wz.heap.size
  replace P := P.next b9
  replace Q := Q.next b9
  replace R := R.next b9
  replace G := G.next b9
  replace Z := Z.next b9
  replace M2 := M2.next b9
  replace Kq := jaa Kq b9
  clear b9 q9 gc qc rc zc zf
  have gc := G.cell
  have qc := Q.cell
  have rc := R.cell
  have zc := Z.cell
  have zf := Z.frozen
  generalize w9 = wz at *
  go_wp2_with fail
  refine hK.out _ _ (by (try dsimp only); exact ⟨gc 0, gc 1, gc 2, gc 3, gc 4, gc 5, rc 0⟩) (fun hH => ?_)
  clear hK K
  refine wR (rs := [4]) (by kernel_rfl) (by simp) ?_
  refine aC rfl (fun K hK => ?_) aN
  go_simp
  refine hK.out _ _ (by (try dsimp only); have E := (jal Z (.int .i64 r2.clock) (.bool r2.closed) (.slice A2 r2.field.length c2) (.string l.durable) (.string l.pending) (.int .i64 l.count)).2; exact ⟨(G.only E (fun (h : g8 = _) => by omega)).cell 0, (G.only E (fun (h : g8 = _) => by omega)).cell 1, (G.only E (fun (h : g8 = _) => by omega)).cell 2, (G.only E (fun (h : g8 = _) => by omega)).cell 3, (G.only E (fun (h : g8 = _) => by omega)).cell 4, (G.only E (fun (h : g8 = _) => by omega)).cell 5, (R.only E (fun (h : gq = _) => by omega)).cell 0⟩) (fun hH => ?_)
  clear hK K
  try simp only [Act.put, pX]
  refine wQ 5 ?_
  refine wD (by kernel_rfl) ?_ _
  have K := Kq
  go_wp2_with fail
  obtain ⟨Z3, E⟩ := jal Z (.int .i64 r2.clock) (.bool r2.closed) (.slice A2 r2.field.length c2) (.string l.durable) (.string l.pending) (.int .i64 l.count)
  have K5 := K.trans (E.below (fun b hb => by omega) K.size)
  clear zc zf
  have zc := Z3.cell
  refine bodyPost_ret (v := .tuple #[.agg #[r2.clock, r2.closed, .slice A2 r2.field.length c2, l.durable, l.pending, l.count], .string (jbe r2.clock)]) (by simp [results, Tryz.results87, go_sem, zc]) rfl ?_
  rw [HR.out]
  exact ⟨A2, c2, rfl, jb5 (M2.only E (fun b h1 (h2 : b = w.heap.size + 2) => by have := h1.1; omega)) (fun b hb => Or.inr (by have := hb.1; omega)), K5⟩
 by_cases k2 : k = 2
 ·subst k2
  have HR := Lib.hid (show jbu ⟨t, cl, xs⟩ 2 e v = (r2, jbe r2.clock) from HR2.out)
  clear k1
  go_upto_region 9 with fail
  have Kq := K
  clear K
  have b9 := (Quiet.one wy).below wy.heap.size
  replace P := P.next b9
  replace Q := Q.next b9
  replace R := R.next b9
  replace G := G.next b9
  replace Z := Z.next b9
  replace M2 := M2.next b9
  replace Kq := jaa Kq b9
  clear b9
  have gc := G.cell
  have qc := Q.cell
  have rc := R.cell
  have zc := Z.cell
  have zf := Z.frozen
  refine wp_region_held_drew (S := fun w' => w'.cell? ⟨g8, 0, none⟩ = some (.int .i64 r2.clock) ∧ w'.cell? ⟨g8, 1, none⟩ = some (.bool r2.closed) ∧ w'.cell? ⟨g8, 2, none⟩ = some (.slice A2 r2.field.length c2) ∧ w'.cell? ⟨g8, 3, none⟩ = some (.string l.durable) ∧ w'.cell? ⟨g8, 4, none⟩ = some (.string l.pending) ∧ w'.cell? ⟨g8, 5, none⟩ = some (.int .i64 l.count) ∧ w'.cell? ⟨gq, 0, none⟩ = some (.int .i64 r2.clock)) (by kernel_rfl) (by (try dsimp only); exact ⟨gc 0, gc 1, gc 2, gc 3, gc 4, gc 5, rc 0⟩) (fun hH => ?_)
  generalize wy.drew = wz at *
  refine wQ 0 ?_
  refine wQ 1 ?_
  refine wQ 2 ?_
  refine wR (rs := [3]) (by kernel_rfl) (by simp) ?_
  refine aC rfl (fun K hK => ?_) aN
  go_simp
  (try rw [HWS.out])
  go_must (refine (jau r2.clock _ (by omega) (by omega)).mono ?_)
  rintro e9 w9 ⟨rfl, q9⟩
  have b9 := q9.below wz.heap.size
  replace P := P.next b9
  replace Q := Q.next b9
  replace R := R.next b9
  replace G := G.next b9
  replace Z := Z.next b9
  replace M2 := M2.next b9
  replace Kq := jaa Kq b9
  clear b9 q9 gc qc rc zc zf
  have gc := G.cell
  have qc := Q.cell
  have rc := R.cell
  have zc := Z.cell
  have zf := Z.frozen
  generalize w9 = wz at *
  go_wp2_with fail
  refine hK.out _ _ (by (try dsimp only); exact ⟨gc 0, gc 1, gc 2, gc 3, gc 4, gc 5, rc 0⟩) (fun hH => ?_)
  clear hK K
  refine wR (rs := [4]) (by kernel_rfl) (by simp) ?_
  refine aC rfl (fun K hK => ?_) aN
  go_simp
  refine hK.out _ _ (by (try dsimp only); have E := (jal Z (.int .i64 r2.clock) (.bool r2.closed) (.slice A2 r2.field.length c2) (.string l.durable) (.string l.pending) (.int .i64 l.count)).2; exact ⟨(G.only E (fun (h : g8 = _) => by omega)).cell 0, (G.only E (fun (h : g8 = _) => by omega)).cell 1, (G.only E (fun (h : g8 = _) => by omega)).cell 2, (G.only E (fun (h : g8 = _) => by omega)).cell 3, (G.only E (fun (h : g8 = _) => by omega)).cell 4, (G.only E (fun (h : g8 = _) => by omega)).cell 5, (R.only E (fun (h : gq = _) => by omega)).cell 0⟩) (fun hH => ?_)
  clear hK K
  try simp only [Act.put, pX]
  refine wQ 5 ?_
  refine wD (by kernel_rfl) ?_ _
  have K := Kq
  go_wp2_with fail
  obtain ⟨Z3, E⟩ := jal Z (.int .i64 r2.clock) (.bool r2.closed) (.slice A2 r2.field.length c2) (.string l.durable) (.string l.pending) (.int .i64 l.count)
  have K5 := K.trans (E.below (fun b hb => by omega) K.size)
  clear zc zf
  have zc := Z3.cell
  refine bodyPost_ret (v := .tuple #[.agg #[r2.clock, r2.closed, .slice A2 r2.field.length c2, l.durable, l.pending, l.count], .string (jbe r2.clock)]) (by simp [results, Tryz.results87, go_sem, zc]) rfl ?_
  rw [HR.out]
  exact ⟨A2, c2, rfl, jb5 (M2.only E (fun b h1 (h2 : b = w.heap.size + 2) => by have := h1.1; omega)) (fun b hb => Or.inr (by have := hb.1; omega)), K5⟩
 have e1 : (k == 1) = false := beq_eq_false_iff_ne.2 k1
 have e2 : (k == 2) = false := beq_eq_false_iff_ne.2 k2
 by_cases k3 : k = 3
 ·subst k3
  have he := HRG.out (Or.inl rfl)
  clear k1 k2 e1 e2
  obtain ⟨i, rfl⟩ : ∃ i : Nat, e = (i : Int) := ⟨e.toNat, by omega⟩
  have hix : i < r2.field.length := by omega
  have hi2 : (i : Int) < ((r2.field.length : Nat) : Int) := by omega
  obtain ⟨b, off, B0, mc, cc0, rfl, hkx, y0, y1, y2, y3, y4, hxi⟩ := SeesEntrant.elem M2.sees hix
  obtain ⟨x, HX⟩ : ∃ x, Hid (r2.field[i] = x) := ⟨_, Lib.hid rfl⟩
  have hbd := jco HG2.out _ (List.getElem_mem hkx)
  have HE := Lib.hid (show r2.field[((i : Nat) : Int).toNat]? = some x by rw [Int.toNat_natCast, List.getElem?_eq_getElem hkx, HX.out])
  rw [HX.out] at y0 y1 y2 y3 hxi hbd
  have hmc := hxi.count (by decide) (fun _ => rfl)
  obtain ⟨hb1, hb2, hb3, hb4, hb5⟩ := hbd
  have HR := Lib.hid (show jbu ⟨t, cl, xs⟩ 3 (i : Int) v = (r2, jbe (mc : Int)) by
   rw [HR2.out]
   unfold jcl
   rw [if_pos rfl, HE.out]
   show (r2, jbe (x.punches.length : Int)) = _
   rw [hmc])
  have z4 : wy.cell? ⟨b, off + i * 5 + 1 + 3, none⟩ = some (.slice B0 mc cc0) := y4
  have hm12 : mc ≤ 12 := by omega
  have hbs : b ≠ w.heap.size + 2 := by
   intro hq
   have := (jfw M2).1
   omega
  clear hb1 hb2 hb3 hb4 hb5 hmc y0 y1 y2 y3 y4 hxi he HE HX
  go_upto_region 11 with fail
  have Kq := K
  clear K
  have b9 := (Quiet.one wy).below wy.heap.size
  replace z4 := (b9.cell (p := ⟨b, off + i * 5 + 1 + 3, none⟩) (World.block_lt_of_cell? _ _ z4)).trans z4
  replace P := P.next b9
  replace Q := Q.next b9
  replace R := R.next b9
  replace G := G.next b9
  replace Z := Z.next b9
  replace M2 := M2.next b9
  replace Kq := jaa Kq b9
  clear b9
  have gc := G.cell
  have qc := Q.cell
  have rc := R.cell
  have zc := Z.cell
  have zf := Z.frozen
  refine wp_region_held_drew (S := fun w' => w'.cell? ⟨g8, 0, none⟩ = some (.int .i64 r2.clock) ∧ w'.cell? ⟨g8, 1, none⟩ = some (.bool r2.closed) ∧ w'.cell? ⟨g8, 2, none⟩ = some (.slice (some ⟨b, off, none⟩) r2.field.length c2) ∧ w'.cell? ⟨g8, 3, none⟩ = some (.string l.durable) ∧ w'.cell? ⟨g8, 4, none⟩ = some (.string l.pending) ∧ w'.cell? ⟨g8, 5, none⟩ = some (.int .i64 l.count) ∧ w'.cell? ⟨gq, 2, none⟩ = some (.slice (some ⟨b, off, none⟩) r2.field.length c2) ∧ w'.cell? ⟨w.heap.size + 1, 1, none⟩ = some (.int .i64 (i : Int)) ∧ w'.cell? ⟨b, off + i * 5 + 1 + 3, none⟩ = some (.slice B0 mc cc0)) (by kernel_rfl) (by (try dsimp only); exact ⟨gc 0, gc 1, gc 2, gc 3, gc 4, gc 5, rc 2, qc 1, z4⟩) (fun hH => ?_)
  generalize wy.drew = wz at *
  refine wQ 0 ?_
  refine wQ 1 ?_
  refine wQ 2 ?_
  refine wQ 3 ?_
  refine wQ 4 ?_
  refine wQ 5 ?_
  refine wQ 6 ?_
  refine wQ 7 ?_
  refine wQ 8 ?_
  refine wQ 9 ?_
  refine wR (rs := [10]) (by kernel_rfl) (by simp) ?_
  refine aC rfl (fun K hK => ?_) aN
  go_simp
  (try rw [HWS.out])
  go_must (refine (jau (mc : Int) _ (by omega) (by omega)).mono ?_)
  rintro e9 w9 ⟨rfl, q9⟩
  have b9 := q9.below wz.heap.size
  replace z4 := (b9.cell (p := ⟨b, off + i * 5 + 1 + 3, none⟩) (World.block_lt_of_cell? _ _ z4)).trans z4
  replace P := P.next b9
  replace Q := Q.next b9
  replace R := R.next b9
  replace G := G.next b9
  replace Z := Z.next b9
  replace M2 := M2.next b9
  replace Kq := jaa Kq b9
  clear b9 q9 gc qc rc zc zf
  have gc := G.cell
  have qc := Q.cell
  have rc := R.cell
  have zc := Z.cell
  have zf := Z.frozen
  generalize w9 = wz at *
  go_wp2_with fail
  refine hK.out _ _ (by (try dsimp only); exact ⟨gc 0, gc 1, gc 2, gc 3, gc 4, gc 5, rc 2, qc 1, z4⟩) (fun hH => ?_)
  clear hK K
  refine wR (rs := [11]) (by kernel_rfl) (by simp) ?_
  refine aC rfl (fun K hK => ?_) aN
  go_simp
  refine hK.out _ _ (by (try dsimp only); have E := (jal Z (.int .i64 r2.clock) (.bool r2.closed) (.slice (some ⟨b, off, none⟩) r2.field.length c2) (.string l.durable) (.string l.pending) (.int .i64 l.count)).2; exact ⟨(G.only E (fun (h : g8 = _) => by omega)).cell 0, (G.only E (fun (h : g8 = _) => by omega)).cell 1, (G.only E (fun (h : g8 = _) => by omega)).cell 2, (G.only E (fun (h : g8 = _) => by omega)).cell 3, (G.only E (fun (h : g8 = _) => by omega)).cell 4, (G.only E (fun (h : g8 = _) => by omega)).cell 5, (R.only E (fun (h : gq = _) => by omega)).cell 2, (Q.only E (fun (h : w.heap.size + 1 = _) => by omega)).cell 1, (jc5 E (fun (h : b = _) => by omega) (World.block_lt_of_cell? _ _ z4)).trans z4⟩) (fun hH => ?_)
  clear hK K
  try simp only [Act.put, pX]
  refine wQ 12 ?_
  refine wD (by kernel_rfl) ?_ _
  have K := Kq
  go_wp2_with fail
  obtain ⟨Z3, E⟩ := jal Z (.int .i64 r2.clock) (.bool r2.closed) (.slice (some ⟨b, off, none⟩) r2.field.length c2) (.string l.durable) (.string l.pending) (.int .i64 l.count)
  have K5 := K.trans (E.below (fun b hb => by omega) K.size)
  clear zc zf
  have zc := Z3.cell
  refine bodyPost_ret (v := .tuple #[.agg #[r2.clock, r2.closed, .slice (some ⟨b, off, none⟩) r2.field.length c2, l.durable, l.pending, l.count], .string (jbe (mc : Int))]) (by simp [results, Tryz.results87, go_sem, zc]) rfl ?_
  rw [HR.out]
  exact ⟨(some ⟨b, off, none⟩), c2, rfl, jb5 (M2.only E (fun b h1 (h2 : b = w.heap.size + 2) => by have := h1.1; omega)) (fun b hb => Or.inr (by have := hb.1; omega)), K5⟩
 have e3 : (k == 3) = false := beq_eq_false_iff_ne.2 k3
 by_cases k4 : k = 4
 ·subst k4
  have he := HRG.out (Or.inr rfl)
  clear k1 k2 k3
  obtain ⟨i, rfl⟩ : ∃ i : Nat, e = (i : Int) := ⟨e.toNat, by omega⟩
  have hix : i < r2.field.length := by omega
  have hi2 : (i : Int) < ((r2.field.length : Nat) : Int) := by omega
  obtain ⟨b, off, B0, mc, cc0, rfl, hkx, y0, y1, y2, y3, y4, hxi⟩ := SeesEntrant.elem M2.sees hix
  obtain ⟨x, HX⟩ : ∃ x, Hid (r2.field[i] = x) := ⟨_, Lib.hid rfl⟩
  have hbd := jco HG2.out _ (List.getElem_mem hkx)
  have HE := Lib.hid (show r2.field[((i : Nat) : Int).toNat]? = some x by rw [Int.toNat_natCast, List.getElem?_eq_getElem hkx, HX.out])
  rw [HX.out] at y0 y1 y2 y3 hxi hbd
  have hmc := hxi.count (by decide) (fun _ => rfl)
  obtain ⟨hb1, hb2, hb3, hb4, hb5⟩ := hbd
  obtain ⟨sa, hsa⟩ : ∃ s, x.start = s := ⟨_, rfl⟩
  obtain ⟨fi, hfi⟩ : ∃ s, x.finish = s := ⟨_, rfl⟩
  rw [hsa] at y2 hb4 hb5
  rw [hfi] at y3 hb2 hb3
  have HR := Lib.hid (show jbu ⟨t, cl, xs⟩ 4 (i : Int) v = (r2, jbe (fi - sa)) by
   rw [HR2.out]
   unfold jcl
   rw [if_neg (by decide), if_pos rfl, HE.out]
   show (r2, jbe (x.finish - x.start)) = _
   rw [hsa, hfi])
  have HWS := Lib.hid (show IntKind.i64.wrap (fi - sa) = fi - sa from IntWalk.i64_in _ (by omega))
  have z2 : wy.cell? ⟨b, off + i * 5 + 1 + 1, none⟩ = some (.int .i64 sa) := y2
  have z3 : wy.cell? ⟨b, off + i * 5 + 1 + 2, none⟩ = some (.int .i64 fi) := y3
  have hbs : b ≠ w.heap.size + 2 := by
   intro hq
   have := (jfw M2).1
   omega
  clear hsa hfi hb1 hmc y0 y1 y2 y3 y4 hxi he HE HX
  go_upto_region 13 with fail
  have Kq := K
  clear K
  have b9 := (Quiet.one wy).below wy.heap.size
  replace z2 := (b9.cell (p := ⟨b, off + i * 5 + 1 + 1, none⟩) (World.block_lt_of_cell? _ _ z2)).trans z2
  replace z3 := (b9.cell (p := ⟨b, off + i * 5 + 1 + 2, none⟩) (World.block_lt_of_cell? _ _ z3)).trans z3
  replace P := P.next b9
  replace Q := Q.next b9
  replace R := R.next b9
  replace G := G.next b9
  replace Z := Z.next b9
  replace M2 := M2.next b9
  replace Kq := jaa Kq b9
  clear b9
  have gc := G.cell
  have qc := Q.cell
  have rc := R.cell
  have zc := Z.cell
  have zf := Z.frozen
  refine wp_region_held_drew (S := fun w' => w'.cell? ⟨g8, 0, none⟩ = some (.int .i64 r2.clock) ∧ w'.cell? ⟨g8, 1, none⟩ = some (.bool r2.closed) ∧ w'.cell? ⟨g8, 2, none⟩ = some (.slice (some ⟨b, off, none⟩) r2.field.length c2) ∧ w'.cell? ⟨g8, 3, none⟩ = some (.string l.durable) ∧ w'.cell? ⟨g8, 4, none⟩ = some (.string l.pending) ∧ w'.cell? ⟨g8, 5, none⟩ = some (.int .i64 l.count) ∧ w'.cell? ⟨gq, 2, none⟩ = some (.slice (some ⟨b, off, none⟩) r2.field.length c2) ∧ w'.cell? ⟨w.heap.size + 1, 1, none⟩ = some (.int .i64 (i : Int)) ∧ w'.cell? ⟨b, off + i * 5 + 1 + 2, none⟩ = some (.int .i64 fi) ∧ w'.cell? ⟨b, off + i * 5 + 1 + 1, none⟩ = some (.int .i64 sa)) (by kernel_rfl) (by (try dsimp only); exact ⟨gc 0, gc 1, gc 2, gc 3, gc 4, gc 5, rc 2, qc 1, z3, z2⟩) (fun hH => ?_)
  generalize wy.drew = wz at *
  refine wQ 0 ?_
  refine wQ 1 ?_
  refine wQ 2 ?_
  refine wQ 3 ?_
  refine wQ 4 ?_
  refine wQ 5 ?_
  refine wQ 6 ?_
  refine wQ 7 ?_
  refine wQ 8 ?_
  refine wQ 9 ?_
  refine wQ 10 ?_
  refine wQ 11 ?_
  refine wQ 12 ?_
  refine wQ 13 ?_
  refine wQ 14 ?_
  refine wQ 15 ?_
  refine wQ 16 ?_
  refine wQ 17 ?_
  refine wR (rs := [18]) (by kernel_rfl) (by simp) ?_
  refine aC rfl (fun K hK => ?_) aN
  go_simp
  (try rw [HWS.out])
  go_must (refine (jau (fi - sa) _ (by omega) (by omega)).mono ?_)
  rintro e9 w9 ⟨rfl, q9⟩
  have b9 := q9.below wz.heap.size
  replace z2 := (b9.cell (p := ⟨b, off + i * 5 + 1 + 1, none⟩) (World.block_lt_of_cell? _ _ z2)).trans z2
  replace z3 := (b9.cell (p := ⟨b, off + i * 5 + 1 + 2, none⟩) (World.block_lt_of_cell? _ _ z3)).trans z3
  replace P := P.next b9
  replace Q := Q.next b9
  replace R := R.next b9
  replace G := G.next b9
  replace Z := Z.next b9
  replace M2 := M2.next b9
  replace Kq := jaa Kq b9
  clear b9 q9 gc qc rc zc zf
  have gc := G.cell
  have qc := Q.cell
  have rc := R.cell
  have zc := Z.cell
  have zf := Z.frozen
  generalize w9 = wz at *
  go_wp2_with fail
  refine hK.out _ _ (by (try dsimp only); exact ⟨gc 0, gc 1, gc 2, gc 3, gc 4, gc 5, rc 2, qc 1, z3, z2⟩) (fun hH => ?_)
  clear hK K
  refine wR (rs := [19]) (by kernel_rfl) (by simp) ?_
  refine aC rfl (fun K hK => ?_) aN
  go_simp
  refine hK.out _ _ (by (try dsimp only); have E := (jal Z (.int .i64 r2.clock) (.bool r2.closed) (.slice (some ⟨b, off, none⟩) r2.field.length c2) (.string l.durable) (.string l.pending) (.int .i64 l.count)).2; exact ⟨(G.only E (fun (h : g8 = _) => by omega)).cell 0, (G.only E (fun (h : g8 = _) => by omega)).cell 1, (G.only E (fun (h : g8 = _) => by omega)).cell 2, (G.only E (fun (h : g8 = _) => by omega)).cell 3, (G.only E (fun (h : g8 = _) => by omega)).cell 4, (G.only E (fun (h : g8 = _) => by omega)).cell 5, (R.only E (fun (h : gq = _) => by omega)).cell 2, (Q.only E (fun (h : w.heap.size + 1 = _) => by omega)).cell 1, (jc5 E (fun (h : b = _) => by omega) (World.block_lt_of_cell? _ _ z3)).trans z3, (jc5 E (fun (h : b = _) => by omega) (World.block_lt_of_cell? _ _ z2)).trans z2⟩) (fun hH => ?_)
  clear hK K
  try simp only [Act.put, pX]
  refine wQ 20 ?_
  refine wD (by kernel_rfl) ?_ _
  have K := Kq
  go_wp2_with fail
  obtain ⟨Z3, E⟩ := jal Z (.int .i64 r2.clock) (.bool r2.closed) (.slice (some ⟨b, off, none⟩) r2.field.length c2) (.string l.durable) (.string l.pending) (.int .i64 l.count)
  have K5 := K.trans (E.below (fun b hb => by omega) K.size)
  clear zc zf
  have zc := Z3.cell
  refine bodyPost_ret (v := .tuple #[.agg #[r2.clock, r2.closed, .slice (some ⟨b, off, none⟩) r2.field.length c2, l.durable, l.pending, l.count], .string (jbe (fi - sa))]) (by simp [results, Tryz.results87, go_sem, zc]) rfl ?_
  rw [HR.out]
  exact ⟨(some ⟨b, off, none⟩), c2, rfl, jb5 (M2.only E (fun b h1 (h2 : b = w.heap.size + 2) => by have := h1.1; omega)) (fun b hb => Or.inr (by have := hb.1; omega)), K5⟩
 have e4 : (k == 4) = false := beq_eq_false_iff_ne.2 k4
 have gc := G.cell
 have zc := Z.cell
 have zf := Z.frozen
 by_cases k5 : k = 5
 ·subst k5
  have HR := Lib.hid (show jbu ⟨t, cl, xs⟩ 5 e v = (r2, ⟨#[111, 107]⟩) from HR2.out)
  clear k1 k2 k3 k4
  go_wp2_with fail
  obtain ⟨Z3, E⟩ := jal Z (.int .i64 r2.clock) (.bool r2.closed) (.slice A2 r2.field.length c2) (.string l.durable) (.string l.pending) (.int .i64 l.count)
  have K5 := K.trans (E.below (fun b hb => by omega) K.size)
  clear zc zf
  have zc := Z3.cell
  refine bodyPost_ret (v := .tuple #[.agg #[r2.clock, r2.closed, .slice A2 r2.field.length c2, l.durable, l.pending, l.count], .string ⟨#[111, 107]⟩]) (by simp [results, Tryz.results87, go_sem, zc]) rfl ?_
  rw [HR.out]
  exact ⟨A2, c2, rfl, jb5 (M2.only E (fun b h1 (h2 : b = w.heap.size + 2) => by have := h1.1; omega)) (fun b hb => Or.inr (by have := hb.1; omega)), K5⟩
 have k6 : k = 6 := by omega
 subst k6
 have HR := Lib.hid (show jbu ⟨t, cl, xs⟩ 6 e v = (r2, ⟨#[99, 108, 111, 115, 101, 100]⟩) from HR2.out)
 clear k1 k2 k3 k4 k5
 go_wp2_with fail
 obtain ⟨Z3, E⟩ := jal Z (.int .i64 r2.clock) (.bool r2.closed) (.slice A2 r2.field.length c2) (.string l.durable) (.string l.pending) (.int .i64 l.count)
 have K5 := K.trans (E.below (fun b hb => by omega) K.size)
 clear zc zf
 have zc := Z3.cell
 refine bodyPost_ret (v := .tuple #[.agg #[r2.clock, r2.closed, .slice A2 r2.field.length c2, l.durable, l.pending, l.count], .string ⟨#[99, 108, 111, 115, 101, 100]⟩]) (by simp [results, Tryz.results87, go_sem, zc]) rfl ?_
 rw [HR.out]
 exact ⟨A2, c2, rfl, jb5 (M2.only E (fun b h1 (h2 : b = w.heap.size + 2) => by have := h1.1; omega)) (fun b hb => Or.inr (by have := hb.1; omega)), K5⟩
end Go.Proofs.YtflpcdffmpfdpaaGreatDoor
