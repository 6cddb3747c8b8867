/- Joined texts of this proof: CmdG. -/
import Derived.Test.YtflpcdffmpfdpaaGreatDoorB27
import Derived.Test.YtflpcdffmpfdpaaGreatDoorB23
set_option maxRecDepth 100000
set_option maxHeartbeats 8000000
namespace Go.Proofs.YtflpcdffmpfdpaaGreatDoor
open Go.RowKit
def jep (r : RaceV) (k : Nat) : RaceV × ByteArray := match k with
 | 1 => jbu r 6 0 0
 | 2 => (r, jbe r.clock)
 | 3 => (r, ((jcw r).map jbq).getD ⟨#[63]⟩)
 | 4 => (r, ((jbw r).map jbq).getD ⟨#[63]⟩)
 | _ => (r, ⟨#[63]⟩)
def jeh (r : RaceV) (k : Nat) (z : Int) : RaceV × ByteArray := match k with
 | 5 => jbu r 1 0 z
 | 6 => jbu r 2 z 0
 | 7 => jbu r 4 z 0
 | 8 => jbu r 5 z 0
 | 9 => (r, (jjn r z).getD ⟨#[63]⟩)
 | 10 => (r, ((jbz r z).map fun p => jbq [p.1, p.2]).getD ⟨#[63]⟩)
 | _ => (r, ⟨#[63]⟩)
def litOf : Nat → ByteArray
 | 1 => ⟨#[99, 108, 111, 115, 101]⟩
 | 2 => ⟨#[99, 108, 111, 99, 107]⟩
 | 3 => ⟨#[111, 117, 116]⟩
 | 4 => ⟨#[115, 116, 97, 116, 101, 115]⟩
 | 5 => ⟨#[119, 97, 105, 116]⟩
 | 6 => ⟨#[115, 116, 97, 114, 116]⟩
 | 7 => ⟨#[102, 105, 110, 105, 115, 104]⟩
 | 8 => ⟨#[103, 105, 118, 101]⟩
 | 9 => ⟨#[99, 97, 114, 100]⟩
 | 10 => ⟨#[115, 101, 101, 110]⟩
 | 11 => ⟨#[112, 117, 110, 99, 104]⟩
 | 12 => ⟨#[99, 111, 117, 114, 115, 101]⟩
 | _ => ⟨#[]⟩
theorem jff {s : ByteArray} {i : Nat} (h : cmK s = i) (hi : i ≠ 0) : s = litOf i := by
 rcases jcd s with ⟨hk, he⟩ | ⟨hk, he⟩ | ⟨hk, he⟩ | ⟨hk, he⟩ | ⟨hk, he⟩ | ⟨hk, he⟩ | ⟨hk, he⟩ | ⟨hk, he⟩ | ⟨hk, he⟩ | ⟨hk, he⟩ | ⟨hk, he⟩ | ⟨hk, he⟩ | ⟨hk, -⟩
 ·obtain rfl : i = 1 := by omega
  exact he
 ·obtain rfl : i = 2 := by omega
  exact he
 ·obtain rfl : i = 3 := by omega
  exact he
 ·obtain rfl : i = 4 := by omega
  exact he
 ·obtain rfl : i = 5 := by omega
  exact he
 ·obtain rfl : i = 6 := by omega
  exact he
 ·obtain rfl : i = 7 := by omega
  exact he
 ·obtain rfl : i = 8 := by omega
  exact he
 ·obtain rfl : i = 9 := by omega
  exact he
 ·obtain rfl : i = 10 := by omega
  exact he
 ·obtain rfl : i = 11 := by omega
  exact he
 ·obtain rfl : i = 12 := by omega
  exact he
 ·omega
theorem jo5 {r : RaceV} {k : Nat} (h1 : k ≠ 1) (h2 : k ≠ 2) (h3 : k ≠ 3) (h4 : k ≠ 4) : jep r k = (r, ⟨#[63]⟩) := by
 unfold jep
 split <;> first | contradiction | rfl
theorem jqb {r : RaceV} {k : Nat} {z : Int} (h1 : k ≠ 5) (h2 : k ≠ 6) (h3 : k ≠ 7) (h4 : k ≠ 8) (h5 : k ≠ 9) (h6 : k ≠ 10) : jeh r k z = (r, ⟨#[63]⟩) := by
 unfold jeh
 split <;> first | contradiction | rfl
theorem jmw (lo : Nat) (t : Int) (cl : Bool) (l : Log) (A : Option Addr) (n c : Nat) (xs : List Entrant) (s : ByteArray) (w : World) (hlo : lo ≤ w.heap.size) (hx : Stays w lo w.heap.size A n xs) (hg : ja0 ⟨t, cl, xs⟩ = true) :
  Calls Tryz.prog 82 #[.agg #[t, cl, .slice A n c, l.durable, l.pending, l.count], .string s] w (jkq w lo (jep ⟨t, cl, xs⟩ (cmK s)) l) := by
 have P := nPa w [t, cl, .slice A n c, l.durable, l.pending, l.count] 35 (.cells #[.int .i64 0, false, .slice none 0 0, .string ⟨#[]⟩, .string ⟨#[]⟩, .int .i64 0] 35)
 have Z := nQ w (.cells #[t, cl, .slice A n c, l.durable, l.pending, l.count] 35) [.int .i64 0, false, .slice none 0 0, .string ⟨#[]⟩, .string ⟨#[]⟩, .int .i64 0] 35
 have Kq := nB2 w (.cells #[t, cl, .slice A n c, l.durable, l.pending, l.count] 35) (.cells #[.int .i64 0, false, .slice none 0 0, .string ⟨#[]⟩, .string ⟨#[]⟩, .int .i64 0] 35)
 have hzw := nZ2 w (.cells #[t, cl, .slice A n c, l.durable, l.pending, l.count] 35) (.cells #[.int .i64 0, false, .slice none 0 0, .string ⟨#[]⟩, .string ⟨#[]⟩, .int .i64 0] 35)
 have hxl := hx.sees.count
 subst hxl
 have hst := hx
 replace hx := hx.sees.next Kq
 have hst1 := hst.next Kq
 obtain ⟨hc0, hc1, hn1, hn8, -⟩ := jam hg
 replace hn8 : xs.length ≤ 8 := hn8
 replace hc0 : 0 ≤ t := hc0
 replace hc1 : t ≤ 36000 := hc1
 by_cases k1 : cmK s = 1
 ·obtain rfl : s = ⟨#[99, 108, 111, 115, 101]⟩ := jff k1 (by decide)
  have hk0 := k1
  clear k1
  rw [hk0]
  clear hk0
  go_enter Tryz.func82, Tryz.ntmps82
  go_upto_region 1 with fail
  generalize (w.alloc _).alloc _ = w1 at *
  have pc := P.cell
  obtain ⟨⟨r2, rep⟩, hR⟩ : ∃ R, jbu ⟨t, cl, xs⟩ 6 0 0 = R := ⟨_, rfl⟩
  have CC := jcz lo t cl l A xs.length c xs 6 0 0 w1 hst1 hg (by omega)
  rw [hR] at CC
  have HC := Lib.hid CC
  have HR := Lib.hid (show jep ⟨t, cl, xs⟩ 1 = (r2, rep) from hR)
  clear hR CC
  go_wp2_with fail
  refine HC.out.mono ?_
  rintro e9 w2 ⟨A2, c2, he9, X2, b9⟩
  replace he9 : e9 = .returned (.tuple #[.agg #[r2.clock, r2.closed, .slice A2 r2.field.length c2, l.durable, l.pending, l.count], .string rep]) := he9
  subst he9
  replace P := P.next b9
  replace Z := Z.next b9
  replace Kq := jaa Kq b9
  clear HC pc b9
  have zc := Z.cell
  have zf := Z.frozen
  have zb := Kq.size
  go_wp2_with fail
  obtain ⟨Z3, E⟩ := jal Z (.int .i64 r2.clock) (.bool r2.closed) (.slice A2 r2.field.length c2) (.string l.durable) (.string l.pending) (.int .i64 l.count)
  have K5 := Kq.trans (E.below (fun b hb => by omega) Kq.size)
  clear zc zf
  have zc := Z3.cell
  refine bodyPost_ret (v := .tuple #[.agg #[r2.clock, r2.closed, .slice A2 r2.field.length c2, l.durable, l.pending, l.count], .string rep]) (by simp [results, Tryz.results82, go_sem, zc]) rfl ?_
  rw [HR.out]
  exact ⟨A2, c2, rfl, X2.only E (fun b (h2 : b = w.heap.size + 1) => ⟨by omega, by omega⟩) (by omega), K5⟩
 have q1 : (s.toList == [99, 108, 111, 115, 101]) = false := jbx (fun e => k1 (by subst e; decide))
 by_cases k2 : cmK s = 2
 ·obtain rfl : s = ⟨#[99, 108, 111, 99, 107]⟩ := jff k2 (by decide)
  have hk0 := k2
  clear k2 q1
  rw [hk0]
  clear hk0
  go_enter Tryz.func82, Tryz.ntmps82
  go_upto_region 1 with fail
  generalize (w.alloc _).alloc _ = w1 at *
  have pc := P.cell
  have HR := Lib.hid (show jep ⟨t, cl, xs⟩ 2 = (⟨t, cl, xs⟩, jbe t) from rfl)
  go_upto_region 5 with fail
  have b9 := (Quiet.one w1).below w1.heap.size
  replace P := P.next b9
  replace Z := Z.next b9
  replace Kq := jaa Kq b9
  clear b9 pc
  have pc := P.cell
  have zc := Z.cell
  have zf := Z.frozen
  refine wp_region_held_drew (S := fun w' => w'.cell? ⟨w.heap.size, 0, none⟩ = some (.int .i64 t) ∧ w'.cell? ⟨w.heap.size, 1, none⟩ = some (.bool cl) ∧ w'.cell? ⟨w.heap.size, 2, none⟩ = some (.slice A xs.length c) ∧ w'.cell? ⟨w.heap.size, 3, none⟩ = some (.string l.durable) ∧ w'.cell? ⟨w.heap.size, 4, none⟩ = some (.string l.pending) ∧ w'.cell? ⟨w.heap.size, 5, none⟩ = some (.int .i64 l.count)) (by kernel_rfl) (by (try dsimp only); exact ⟨pc 0, pc 1, pc 2, pc 3, pc 4, pc 5⟩) (fun hH => ?_)
  generalize w1.drew = wz at *
  refine wQ 0 ?_
  refine wQ 1 ?_
  refine wQ 2 ?_
  refine wQ 3 ?_
  refine wR (rs := [4]) (by kernel_rfl) (by simp) ?_
  refine aC rfl (fun K hK => ?_) aN
  go_simp
  go_must (refine (jau t _ (by omega) (by omega)).mono ?_)
  rintro e9 w9 ⟨rfl, q9⟩
  have b9 := q9.below wz.heap.size
  replace P := P.next b9
  replace Z := Z.next b9
  replace Kq := jaa Kq b9
  clear b9 pc zc zf
  have pc := P.cell
  have zc := Z.cell
  have zf := Z.frozen
  generalize w9 = wz at *
  go_wp2_with fail
  refine hK.out _ _ (by (try dsimp only); exact ⟨pc 0, pc 1, pc 2, pc 3, pc 4, pc 5⟩) (fun hH => ?_)
  clear hK K
  refine wR (rs := [5]) (by kernel_rfl) (by simp) ?_
  refine aC rfl (fun K hK => ?_) aN
  go_simp
  refine hK.out _ _ (by (try dsimp only); have E := (jal Z (.int .i64 t) (.bool cl) (.slice A xs.length c) (.string l.durable) (.string l.pending) (.int .i64 l.count)).2; exact ⟨(P.only E (fun (h : w.heap.size = _) => by omega)).cell 0, (P.only E (fun (h : w.heap.size = _) => by omega)).cell 1, (P.only E (fun (h : w.heap.size = _) => by omega)).cell 2, (P.only E (fun (h : w.heap.size = _) => by omega)).cell 3, (P.only E (fun (h : w.heap.size = _) => by omega)).cell 4, (P.only E (fun (h : w.heap.size = _) => by omega)).cell 5⟩) (fun hH => ?_)
  clear hK K
  try simp only [Act.put, pX]
  refine wQ 6 ?_
  refine wD (by kernel_rfl) ?_ _
  go_wp2_with fail
  obtain ⟨Z3, E⟩ := jal Z (.int .i64 t) (.bool cl) (.slice A xs.length c) (.string l.durable) (.string l.pending) (.int .i64 l.count)
  have K5 := Kq.trans (E.below (fun b hb => by omega) Kq.size)
  clear zc zf
  have zc := Z3.cell
  refine bodyPost_ret (v := .tuple #[.agg #[t, cl, .slice A xs.length c, l.durable, l.pending, l.count], .string (jbe t)]) (by simp [results, Tryz.results82, go_sem, zc]) rfl ?_
  rw [HR.out]
  exact ⟨A, c, rfl, hst.below K5, K5⟩
 have q2 : (s.toList == [99, 108, 111, 99, 107]) = false := jbx (fun e => k2 (by subst e; decide))
 by_cases k3 : cmK s = 3
 ·obtain rfl : s = ⟨#[111, 117, 116]⟩ := jff k3 (by decide)
  have hk0 := k3
  clear k3 q1 q2
  rw [hk0]
  clear hk0
  go_enter Tryz.func82, Tryz.ntmps82
  go_upto_region 1 with fail
  generalize (w.alloc _).alloc _ = w1 at *
  have pc := P.cell
  obtain ⟨R, hR⟩ : ∃ R, jcw ⟨t, cl, xs⟩ = R := ⟨_, rfl⟩
  have hsm := jif hg
  rw [hR] at hsm
  obtain ⟨L, hL⟩ : ∃ L, R.getD [] = L := ⟨_, rfl⟩
  obtain ⟨ok, hok⟩ : ∃ ok, R.isSome = ok := ⟨_, rfl⟩
  obtain ⟨N, hN⟩ : ∃ N, L.length = N := ⟨_, rfl⟩
  obtain ⟨lt9, hlt9⟩ : ∃ p : ByteArray, (if ok then jbq L else ⟨#[63]⟩) = p := ⟨_, rfl⟩
  have HLT := Lib.hid hlt9
  have HR := Lib.hid (show jep ⟨t, cl, xs⟩ 3 = (⟨t, cl, xs⟩, lt9) by
   rw [← hlt9]
   show (_, ((jcw ⟨t, cl, xs⟩).map jbq).getD _) = _
   rw [hR, ← hL, ← hok]
   cases R <;> rfl)
  have CC := jha t cl A xs.length c xs w1 hx (by omega) (jb2 hg)
  unfold jbj at CC
  rw [hR, hL, hok, hN] at CC
  rw [hL, hN] at hsm
  obtain ⟨hs1, hs2⟩ := hsm
  have HB := Lib.hid hs2
  have HC := Lib.hid CC
  clear hR hL hok hN hs2 CC hlt9
  go_wp2_with fail
  refine HC.out.mono ?_
  rintro e9 w2 ⟨A2, c2, rfl, o2, b9⟩
  have X2 := Sees.of_own o2
  obtain ⟨lo2, hlo2⟩ : ∃ lo2, w1.heap.size = lo2 := ⟨_, rfl⟩
  rw [hlo2] at X2
  replace P := P.next b9
  replace Z := Z.next b9
  replace Kq := jaa Kq b9
  clear HC pc b9 o2 hlo2
  have pc := P.cell
  go_upto_region 8 with fail
  have b9 := (Quiet.one w2).below w2.heap.size
  replace X2 := X2.next b9
  replace P := P.next b9
  replace Z := Z.next b9
  replace Kq := jaa Kq b9
  clear b9 pc
  have pc := P.cell
  have zc := Z.cell
  have zf := Z.frozen
  refine wp_region_held_drew (S := fun w' => w'.cell? ⟨w.heap.size, 0, none⟩ = some (.int .i64 t) ∧ w'.cell? ⟨w.heap.size, 1, none⟩ = some (.bool cl) ∧ w'.cell? ⟨w.heap.size, 2, none⟩ = some (.slice A xs.length c) ∧ w'.cell? ⟨w.heap.size, 3, none⟩ = some (.string l.durable) ∧ w'.cell? ⟨w.heap.size, 4, none⟩ = some (.string l.pending) ∧ w'.cell? ⟨w.heap.size, 5, none⟩ = some (.int .i64 l.count)) (by kernel_rfl) (by (try dsimp only); exact ⟨pc 0, pc 1, pc 2, pc 3, pc 4, pc 5⟩) (fun hH => ?_)
  generalize w2.drew = wz at *
  refine wQ 0 ?_
  refine wQ 1 ?_
  refine wQ 2 ?_
  refine wR (rs := [3]) (by kernel_rfl) (by simp) ?_
  refine aC rfl (fun K hK => ?_) aN
  go_simp
  go_must (refine (jfo A2 N c2 lo2 L ok _ X2 (by omega) HB.out).mono ?_)
  rw [HLT.out]
  rintro e9 w9 ⟨rfl, q9⟩
  have b9 := q9.below wz.heap.size
  replace X2 := X2.next b9
  replace P := P.next b9
  replace Z := Z.next b9
  replace Kq := jaa Kq b9
  clear b9 pc zc zf
  have pc := P.cell
  have zc := Z.cell
  have zf := Z.frozen
  generalize w9 = wz at *
  go_wp2_with fail
  refine hK.out _ _ (by (try dsimp only); exact ⟨pc 0, pc 1, pc 2, pc 3, pc 4, pc 5⟩) (fun hH => ?_)
  clear hK K
  refine wR (rs := [4]) (by kernel_rfl) (by simp) ?_
  refine aC rfl (fun K hK => ?_) aN
  go_simp
  refine hK.out _ _ (by (try dsimp only); have E := (jal Z (.int .i64 t) (.bool cl) (.slice A xs.length c) (.string l.durable) (.string l.pending) (.int .i64 l.count)).2; exact ⟨(P.only E (fun (h : w.heap.size = _) => by omega)).cell 0, (P.only E (fun (h : w.heap.size = _) => by omega)).cell 1, (P.only E (fun (h : w.heap.size = _) => by omega)).cell 2, (P.only E (fun (h : w.heap.size = _) => by omega)).cell 3, (P.only E (fun (h : w.heap.size = _) => by omega)).cell 4, (P.only E (fun (h : w.heap.size = _) => by omega)).cell 5⟩) (fun hH => ?_)
  clear hK K
  try simp only [Act.put, pX]
  refine wQ 5 ?_
  refine wD (by kernel_rfl) ?_ _
  go_wp2_with fail
  obtain ⟨Z3, E⟩ := jal Z (.int .i64 t) (.bool cl) (.slice A xs.length c) (.string l.durable) (.string l.pending) (.int .i64 l.count)
  have K5 := Kq.trans (E.below (fun b hb => by omega) Kq.size)
  clear zc zf
  have zc := Z3.cell
  refine bodyPost_ret (v := .tuple #[.agg #[t, cl, .slice A xs.length c, l.durable, l.pending, l.count], .string lt9]) (by simp [results, Tryz.results82, go_sem, zc]) rfl ?_
  rw [HR.out]
  exact ⟨A, c, rfl, hst.below K5, K5⟩
 have q3 : (s.toList == [111, 117, 116]) = false := jbx (fun e => k3 (by subst e; decide))
 by_cases k4 : cmK s = 4
 ·obtain rfl : s = ⟨#[115, 116, 97, 116, 101, 115]⟩ := jff k4 (by decide)
  have hk0 := k4
  clear k4 q1 q2 q3
  rw [hk0]
  clear hk0
  go_enter Tryz.func82, Tryz.ntmps82
  go_upto_region 1 with fail
  generalize (w.alloc _).alloc _ = w1 at *
  have pc := P.cell
  obtain ⟨R, hR⟩ : ∃ R, jbw ⟨t, cl, xs⟩ = R := ⟨_, rfl⟩
  have hsm := jg3 hg
  rw [hR] at hsm
  obtain ⟨L, hL⟩ : ∃ L, R.getD [] = L := ⟨_, rfl⟩
  obtain ⟨ok, hok⟩ : ∃ ok, R.isSome = ok := ⟨_, rfl⟩
  obtain ⟨N, hN⟩ : ∃ N, L.length = N := ⟨_, rfl⟩
  obtain ⟨lt9, hlt9⟩ : ∃ p : ByteArray, (if ok then jbq L else ⟨#[63]⟩) = p := ⟨_, rfl⟩
  have HLT := Lib.hid hlt9
  have HR := Lib.hid (show jep ⟨t, cl, xs⟩ 4 = (⟨t, cl, xs⟩, lt9) by
   rw [← hlt9]
   show (_, ((jbw ⟨t, cl, xs⟩).map jbq).getD _) = _
   rw [hR, ← hL, ← hok]
   cases R <;> rfl)
  have CC := jfs t cl A xs.length c xs w1 hx (by omega) (jb2 hg)
  unfold jbj at CC
  rw [hR, hL, hok, hN] at CC
  rw [hL, hN] at hsm
  obtain ⟨hs1, hs2⟩ := hsm
  have HB := Lib.hid hs2
  have HC := Lib.hid CC
  clear hR hL hok hN hs2 CC hlt9
  go_wp2_with fail
  refine HC.out.mono ?_
  rintro e9 w2 ⟨A2, c2, rfl, o2, b9⟩
  have X2 := Sees.of_own o2
  obtain ⟨lo2, hlo2⟩ : ∃ lo2, w1.heap.size = lo2 := ⟨_, rfl⟩
  rw [hlo2] at X2
  replace P := P.next b9
  replace Z := Z.next b9
  replace Kq := jaa Kq b9
  clear HC pc b9 o2 hlo2
  have pc := P.cell
  go_upto_region 11 with fail
  have b9 := (Quiet.one w2).below w2.heap.size
  replace X2 := X2.next b9
  replace P := P.next b9
  replace Z := Z.next b9
  replace Kq := jaa Kq b9
  clear b9 pc
  have pc := P.cell
  have zc := Z.cell
  have zf := Z.frozen
  refine wp_region_held_drew (S := fun w' => w'.cell? ⟨w.heap.size, 0, none⟩ = some (.int .i64 t) ∧ w'.cell? ⟨w.heap.size, 1, none⟩ = some (.bool cl) ∧ w'.cell? ⟨w.heap.size, 2, none⟩ = some (.slice A xs.length c) ∧ w'.cell? ⟨w.heap.size, 3, none⟩ = some (.string l.durable) ∧ w'.cell? ⟨w.heap.size, 4, none⟩ = some (.string l.pending) ∧ w'.cell? ⟨w.heap.size, 5, none⟩ = some (.int .i64 l.count)) (by kernel_rfl) (by (try dsimp only); exact ⟨pc 0, pc 1, pc 2, pc 3, pc 4, pc 5⟩) (fun hH => ?_)
  generalize w2.drew = wz at *
  refine wQ 0 ?_
  refine wQ 1 ?_
  refine wQ 2 ?_
  refine wR (rs := [3]) (by kernel_rfl) (by simp) ?_
  refine aC rfl (fun K hK => ?_) aN
  go_simp
  go_must (refine (jfo A2 N c2 lo2 L ok _ X2 (by omega) HB.out).mono ?_)
  rw [HLT.out]
  rintro e9 w9 ⟨rfl, q9⟩
  have b9 := q9.below wz.heap.size
  replace X2 := X2.next b9
  replace P := P.next b9
  replace Z := Z.next b9
  replace Kq := jaa Kq b9
  clear b9 pc zc zf
  have pc := P.cell
  have zc := Z.cell
  have zf := Z.frozen
  generalize w9 = wz at *
  go_wp2_with fail
  refine hK.out _ _ (by (try dsimp only); exact ⟨pc 0, pc 1, pc 2, pc 3, pc 4, pc 5⟩) (fun hH => ?_)
  clear hK K
  refine wR (rs := [4]) (by kernel_rfl) (by simp) ?_
  refine aC rfl (fun K hK => ?_) aN
  go_simp
  refine hK.out _ _ (by (try dsimp only); have E := (jal Z (.int .i64 t) (.bool cl) (.slice A xs.length c) (.string l.durable) (.string l.pending) (.int .i64 l.count)).2; exact ⟨(P.only E (fun (h : w.heap.size = _) => by omega)).cell 0, (P.only E (fun (h : w.heap.size = _) => by omega)).cell 1, (P.only E (fun (h : w.heap.size = _) => by omega)).cell 2, (P.only E (fun (h : w.heap.size = _) => by omega)).cell 3, (P.only E (fun (h : w.heap.size = _) => by omega)).cell 4, (P.only E (fun (h : w.heap.size = _) => by omega)).cell 5⟩) (fun hH => ?_)
  clear hK K
  try simp only [Act.put, pX]
  refine wQ 5 ?_
  refine wD (by kernel_rfl) ?_ _
  go_wp2_with fail
  obtain ⟨Z3, E⟩ := jal Z (.int .i64 t) (.bool cl) (.slice A xs.length c) (.string l.durable) (.string l.pending) (.int .i64 l.count)
  have K5 := Kq.trans (E.below (fun b hb => by omega) Kq.size)
  clear zc zf
  have zc := Z3.cell
  refine bodyPost_ret (v := .tuple #[.agg #[t, cl, .slice A xs.length c, l.durable, l.pending, l.count], .string lt9]) (by simp [results, Tryz.results82, go_sem, zc]) rfl ?_
  rw [HR.out]
  exact ⟨A, c, rfl, hst.below K5, K5⟩
 have q4 : (s.toList == [115, 116, 97, 116, 101, 115]) = false := jbx (fun e => k4 (by subst e; decide))
 have HN := Lib.hid (show jep ⟨t, cl, xs⟩ (cmK s) = (⟨t, cl, xs⟩, ⟨#[63]⟩) from jo5 k1 k2 k3 k4)
 clear k1 k2 k3 k4
 go_enter Tryz.func82, Tryz.ntmps82
 go_upto_region 1 with fail
 generalize (w.alloc _).alloc _ = w1 at *
 have pc := P.cell
 have HR := Lib.hid (show jep ⟨t, cl, xs⟩ (cmK s) = (⟨t, cl, xs⟩, ⟨#[63]⟩) from HN.out)
 have zc := Z.cell
 have zf := Z.frozen
 go_wp2_with fail
 obtain ⟨Z3, E⟩ := jal Z (.int .i64 t) (.bool cl) (.slice A xs.length c) (.string l.durable) (.string l.pending) (.int .i64 l.count)
 have K5 := Kq.trans (E.below (fun b hb => by omega) Kq.size)
 clear zc zf
 have zc := Z3.cell
 refine bodyPost_ret (v := .tuple #[.agg #[t, cl, .slice A xs.length c, l.durable, l.pending, l.count], .string ⟨#[63]⟩]) (by simp [results, Tryz.results82, go_sem, zc]) rfl ?_
 rw [HR.out]
 exact ⟨A, c, rfl, hst.below K5, K5⟩
theorem joa (lo : Nat) (t : Int) (cl : Bool) (l : Log) (A : Option Addr) (n c : Nat) (xs : List Entrant) (s : ByteArray) (z : Int) (w : World) (hlo : lo ≤ w.heap.size) (hx : Stays w lo w.heap.size A n xs) (hg : ja0 ⟨t, cl, xs⟩ = true) :
  Calls Tryz.prog 86 #[.agg #[t, cl, .slice A n c, l.durable, l.pending, l.count], .string s, .int .i64 z] w (jkq w lo (jeh ⟨t, cl, xs⟩ (cmK s) z) l) := by
 have P := nPa w [t, cl, .slice A n c, l.durable, l.pending, l.count] 35 (.cells #[.int .i64 0, false, .slice none 0 0, .string ⟨#[]⟩, .string ⟨#[]⟩, .int .i64 0] 35)
 have Z := nQ w (.cells #[t, cl, .slice A n c, l.durable, l.pending, l.count] 35) [.int .i64 0, false, .slice none 0 0, .string ⟨#[]⟩, .string ⟨#[]⟩, .int .i64 0] 35
 have Kq := nB2 w (.cells #[t, cl, .slice A n c, l.durable, l.pending, l.count] 35) (.cells #[.int .i64 0, false, .slice none 0 0, .string ⟨#[]⟩, .string ⟨#[]⟩, .int .i64 0] 35)
 have hzw := nZ2 w (.cells #[t, cl, .slice A n c, l.durable, l.pending, l.count] 35) (.cells #[.int .i64 0, false, .slice none 0 0, .string ⟨#[]⟩, .string ⟨#[]⟩, .int .i64 0] 35)
 have hxl := hx.sees.count
 subst hxl
 have hst := hx
 replace hx := hx.sees.next Kq
 have hst1 := hst.next Kq
 obtain ⟨hc0, hc1, hn1, hn8, -⟩ := jam hg
 replace hn8 : xs.length ≤ 8 := hn8
 replace hc0 : 0 ≤ t := hc0
 replace hc1 : t ≤ 36000 := hc1
 by_cases k5 : cmK s = 5
 ·obtain rfl : s = ⟨#[119, 97, 105, 116]⟩ := jff k5 (by decide)
  have hk0 := k5
  clear k5
  rw [hk0]
  clear hk0
  go_enter Tryz.func86, Tryz.ntmps86
  go_upto_region 1 with fail
  generalize (w.alloc _).alloc _ = w1 at *
  have pc := P.cell
  obtain ⟨⟨r2, rep⟩, hR⟩ : ∃ R, jbu ⟨t, cl, xs⟩ 1 0 z = R := ⟨_, rfl⟩
  have CC := jcz lo t cl l A xs.length c xs 1 0 z w1 hst1 hg (by omega)
  rw [hR] at CC
  have HC := Lib.hid CC
  have HR := Lib.hid (show jeh ⟨t, cl, xs⟩ 5 z = (r2, rep) from hR)
  clear hR CC
  go_wp2_with fail
  refine HC.out.mono ?_
  rintro e9 w2 ⟨A2, c2, he9, X2, b9⟩
  replace he9 : e9 = .returned (.tuple #[.agg #[r2.clock, r2.closed, .slice A2 r2.field.length c2, l.durable, l.pending, l.count], .string rep]) := he9
  subst he9
  replace P := P.next b9
  replace Z := Z.next b9
  replace Kq := jaa Kq b9
  clear HC pc b9
  have zc := Z.cell
  have zf := Z.frozen
  have zb := Kq.size
  go_wp2_with fail
  obtain ⟨Z3, E⟩ := jal Z (.int .i64 r2.clock) (.bool r2.closed) (.slice A2 r2.field.length c2) (.string l.durable) (.string l.pending) (.int .i64 l.count)
  have K5 := Kq.trans (E.below (fun b hb => by omega) Kq.size)
  clear zc zf
  have zc := Z3.cell
  refine bodyPost_ret (v := .tuple #[.agg #[r2.clock, r2.closed, .slice A2 r2.field.length c2, l.durable, l.pending, l.count], .string rep]) (by simp [results, Tryz.results86, go_sem, zc]) rfl ?_
  rw [HR.out]
  exact ⟨A2, c2, rfl, X2.only E (fun b (h2 : b = w.heap.size + 1) => ⟨by omega, by omega⟩) (by omega), K5⟩
 have q5 : (s.toList == [119, 97, 105, 116]) = false := jbx (fun e => k5 (by subst e; decide))
 by_cases k6 : cmK s = 6
 ·obtain rfl : s = ⟨#[115, 116, 97, 114, 116]⟩ := jff k6 (by decide)
  have hk0 := k6
  clear k6 q5
  rw [hk0]
  clear hk0
  go_enter Tryz.func86, Tryz.ntmps86
  go_upto_region 1 with fail
  generalize (w.alloc _).alloc _ = w1 at *
  have pc := P.cell
  obtain ⟨⟨r2, rep⟩, hR⟩ : ∃ R, jbu ⟨t, cl, xs⟩ 2 z 0 = R := ⟨_, rfl⟩
  have CC := jcz lo t cl l A xs.length c xs 2 z 0 w1 hst1 hg (by omega)
  rw [hR] at CC
  have HC := Lib.hid CC
  have HR := Lib.hid (show jeh ⟨t, cl, xs⟩ 6 z = (r2, rep) from hR)
  clear hR CC
  go_wp2_with fail
  refine HC.out.mono ?_
  rintro e9 w2 ⟨A2, c2, he9, X2, b9⟩
  replace he9 : e9 = .returned (.tuple #[.agg #[r2.clock, r2.closed, .slice A2 r2.field.length c2, l.durable, l.pending, l.count], .string rep]) := he9
  subst he9
  replace P := P.next b9
  replace Z := Z.next b9
  replace Kq := jaa Kq b9
  clear HC pc b9
  have zc := Z.cell
  have zf := Z.frozen
  have zb := Kq.size
  go_wp2_with fail
  obtain ⟨Z3, E⟩ := jal Z (.int .i64 r2.clock) (.bool r2.closed) (.slice A2 r2.field.length c2) (.string l.durable) (.string l.pending) (.int .i64 l.count)
  have K5 := Kq.trans (E.below (fun b hb => by omega) Kq.size)
  clear zc zf
  have zc := Z3.cell
  refine bodyPost_ret (v := .tuple #[.agg #[r2.clock, r2.closed, .slice A2 r2.field.length c2, l.durable, l.pending, l.count], .string rep]) (by simp [results, Tryz.results86, go_sem, zc]) rfl ?_
  rw [HR.out]
  exact ⟨A2, c2, rfl, X2.only E (fun b (h2 : b = w.heap.size + 1) => ⟨by omega, by omega⟩) (by omega), K5⟩
 have q6 : (s.toList == [115, 116, 97, 114, 116]) = false := jbx (fun e => k6 (by subst e; decide))
 by_cases k7 : cmK s = 7
 ·obtain rfl : s = ⟨#[102, 105, 110, 105, 115, 104]⟩ := jff k7 (by decide)
  have hk0 := k7
  clear k7 q5 q6
  rw [hk0]
  clear hk0
  go_enter Tryz.func86, Tryz.ntmps86
  go_upto_region 1 with fail
  generalize (w.alloc _).alloc _ = w1 at *
  have pc := P.cell
  obtain ⟨⟨r2, rep⟩, hR⟩ : ∃ R, jbu ⟨t, cl, xs⟩ 4 z 0 = R := ⟨_, rfl⟩
  have CC := jcz lo t cl l A xs.length c xs 4 z 0 w1 hst1 hg (by omega)
  rw [hR] at CC
  have HC := Lib.hid CC
  have HR := Lib.hid (show jeh ⟨t, cl, xs⟩ 7 z = (r2, rep) from hR)
  clear hR CC
  go_wp2_with fail
  refine HC.out.mono ?_
  rintro e9 w2 ⟨A2, c2, he9, X2, b9⟩
  replace he9 : e9 = .returned (.tuple #[.agg #[r2.clock, r2.closed, .slice A2 r2.field.length c2, l.durable, l.pending, l.count], .string rep]) := he9
  subst he9
  replace P := P.next b9
  replace Z := Z.next b9
  replace Kq := jaa Kq b9
  clear HC pc b9
  have zc := Z.cell
  have zf := Z.frozen
  have zb := Kq.size
  go_wp2_with fail
  obtain ⟨Z3, E⟩ := jal Z (.int .i64 r2.clock) (.bool r2.closed) (.slice A2 r2.field.length c2) (.string l.durable) (.string l.pending) (.int .i64 l.count)
  have K5 := Kq.trans (E.below (fun b hb => by omega) Kq.size)
  clear zc zf
  have zc := Z3.cell
  refine bodyPost_ret (v := .tuple #[.agg #[r2.clock, r2.closed, .slice A2 r2.field.length c2, l.durable, l.pending, l.count], .string rep]) (by simp [results, Tryz.results86, go_sem, zc]) rfl ?_
  rw [HR.out]
  exact ⟨A2, c2, rfl, X2.only E (fun b (h2 : b = w.heap.size + 1) => ⟨by omega, by omega⟩) (by omega), K5⟩
 have q7 : (s.toList == [102, 105, 110, 105, 115, 104]) = false := jbx (fun e => k7 (by subst e; decide))
 by_cases k8 : cmK s = 8
 ·obtain rfl : s = ⟨#[103, 105, 118, 101]⟩ := jff k8 (by decide)
  have hk0 := k8
  clear k8 q5 q6 q7
  rw [hk0]
  clear hk0
  go_enter Tryz.func86, Tryz.ntmps86
  go_upto_region 1 with fail
  generalize (w.alloc _).alloc _ = w1 at *
  have pc := P.cell
  obtain ⟨⟨r2, rep⟩, hR⟩ : ∃ R, jbu ⟨t, cl, xs⟩ 5 z 0 = R := ⟨_, rfl⟩
  have CC := jcz lo t cl l A xs.length c xs 5 z 0 w1 hst1 hg (by omega)
  rw [hR] at CC
  have HC := Lib.hid CC
  have HR := Lib.hid (show jeh ⟨t, cl, xs⟩ 8 z = (r2, rep) from hR)
  clear hR CC
  go_wp2_with fail
  refine HC.out.mono ?_
  rintro e9 w2 ⟨A2, c2, he9, X2, b9⟩
  replace he9 : e9 = .returned (.tuple #[.agg #[r2.clock, r2.closed, .slice A2 r2.field.length c2, l.durable, l.pending, l.count], .string rep]) := he9
  subst he9
  replace P := P.next b9
  replace Z := Z.next b9
  replace Kq := jaa Kq b9
  clear HC pc b9
  have zc := Z.cell
  have zf := Z.frozen
  have zb := Kq.size
  go_wp2_with fail
  obtain ⟨Z3, E⟩ := jal Z (.int .i64 r2.clock) (.bool r2.closed) (.slice A2 r2.field.length c2) (.string l.durable) (.string l.pending) (.int .i64 l.count)
  have K5 := Kq.trans (E.below (fun b hb => by omega) Kq.size)
  clear zc zf
  have zc := Z3.cell
  refine bodyPost_ret (v := .tuple #[.agg #[r2.clock, r2.closed, .slice A2 r2.field.length c2, l.durable, l.pending, l.count], .string rep]) (by simp [results, Tryz.results86, go_sem, zc]) rfl ?_
  rw [HR.out]
  exact ⟨A2, c2, rfl, X2.only E (fun b (h2 : b = w.heap.size + 1) => ⟨by omega, by omega⟩) (by omega), K5⟩
 have q8 : (s.toList == [103, 105, 118, 101]) = false := jbx (fun e => k8 (by subst e; decide))
 by_cases k9 : cmK s = 9
 ·obtain rfl : s = ⟨#[99, 97, 114, 100]⟩ := jff k9 (by decide)
  have hk0 := k9
  clear k9 q5 q6 q7 q8
  rw [hk0]
  clear hk0
  go_enter Tryz.func86, Tryz.ntmps86
  go_upto_region 1 with fail
  generalize (w.alloc _).alloc _ = w1 at *
  have pc := P.cell
  obtain ⟨ib, hib⟩ : ∃ ib, inB z 0 ((xs.length : Int) - 1) = ib := ⟨_, rfl⟩
  have HIB0 := Lib.hid hib
  have HIB := Lib.hid (show inB z 0 (IntKind.i64.wrap ((xs.length : Int) - 1)) = ib by rw [IntWalk.i64_in _ (by omega)]; exact hib)
  have HR0 := Lib.hid (show jeh ⟨t, cl, xs⟩ 9 z = (⟨t, cl, xs⟩, (if ib then (match xs[z.toNat]? with | some x => jd1 x.card | none => none) else none).getD ⟨#[63]⟩) by
   show (_, (jjn ⟨t, cl, xs⟩ z).getD _) = _
   unfold jjn
   rw [show inB z 0 (((⟨t, cl, xs⟩ : RaceV).field.length : Int) - 1) = ib from hib]
   rfl)
  clear hib
  cases ib
  ·have HR := Lib.hid (show jeh ⟨t, cl, xs⟩ 9 z = (⟨t, cl, xs⟩, ⟨#[63]⟩) from HR0.out)
   have zc := Z.cell
   have zf := Z.frozen
   go_wp2_with (go_at_call 111; refine (jae _ _ _ _).mono ?_; (first | rw [HIB0.out] | rw [HIB.out]); rintro e9 w9 ⟨rfl, rfl⟩)
   obtain ⟨Z3, E⟩ := jal Z (.int .i64 t) (.bool cl) (.slice A xs.length c) (.string l.durable) (.string l.pending) (.int .i64 l.count)
   have K5 := Kq.trans (E.below (fun b hb => by omega) Kq.size)
   clear zc zf
   have zc := Z3.cell
   refine bodyPost_ret (v := .tuple #[.agg #[t, cl, .slice A xs.length c, l.durable, l.pending, l.count], .string ⟨#[63]⟩]) (by simp [results, Tryz.results86, go_sem, zc]) rfl ?_
   rw [HR.out]
   exact ⟨A, c, rfl, hst.below K5, K5⟩
  have hin := jaq HIB0.out
  obtain ⟨i, rfl⟩ : ∃ i : Nat, z = (i : Int) := ⟨z.toNat, by omega⟩
  have hix : i < xs.length := by omega
  have hi2 : (i : Int) < ((xs.length : Nat) : Int) := by omega
  clear hin
  obtain ⟨b, off, B0, mc, cc0, rfl, hkx, y0, y1, y2, y3, y4, hxi⟩ := SeesEntrant.elem hx hix
  obtain ⟨x, HX⟩ : ∃ x, Hid (xs[i] = x) := ⟨_, Lib.hid rfl⟩
  have hbd := jco hg _ (List.getElem_mem hkx)
  have HE := Lib.hid (show xs[((i : Nat) : Int).toNat]? = some x by rw [Int.toNat_natCast, List.getElem?_eq_getElem hkx, HX.out])
  rw [HX.out] at y0 y1 y2 y3 hxi hbd
  have hmc := hxi.count (by decide) (fun _ => rfl)
  obtain ⟨sa, hsa⟩ : ∃ s, x.start = s := ⟨_, rfl⟩
  obtain ⟨fi, hfi⟩ : ∃ s, x.finish = s := ⟨_, rfl⟩
  obtain ⟨nu, hnu⟩ : ∃ s, x.number = s := ⟨_, rfl⟩
  obtain ⟨ps, hps⟩ : ∃ s, x.punches = s := ⟨_, rfl⟩
  have hcard : x.card = ⟨nu, sa, fi, ps⟩ := by unfold Entrant.card; rw [hsa, hfi, hnu, hps]
  obtain ⟨R, hR⟩ : ∃ R, jd1 ⟨nu, sa, fi, ps⟩ = R := ⟨_, rfl⟩
  have HR1 := Lib.hid (show jeh ⟨t, cl, xs⟩ 9 (i : Int) = (⟨t, cl, xs⟩, R.getD ⟨#[63]⟩) by rw [HR0.out, HE.out]; show (_, (jd1 x.card).getD _) = _; rw [hcard, hR])
  obtain ⟨p, hp⟩ : ∃ p, R.getD ⟨#[]⟩ = p := ⟨_, rfl⟩
  obtain ⟨ok, hok⟩ : ∃ ok, R.isSome = ok := ⟨_, rfl⟩
  rw [hsa] at y2
  rw [hfi] at y3
  rw [hnu] at y1
  rw [hps] at hxi
  have hm12 : mc ≤ 12 := by rw [← hmc]; exact hbd.1
  have CC := jhd B0 mc cc0 ⟨nu, sa, fi, ps⟩ w1 hxi (by omega)
  rw [hR, hp, hok] at CC
  have HC := Lib.hid CC
  have HRY := Lib.hid (show ok = true → R.getD ⟨#[63]⟩ = p by
   intro h
   rw [← hok] at h
   cases R with
   | none => cases h
   | some q => rw [← hp]; rfl)
  have HRN := Lib.hid (show ok = false → R.getD ⟨#[63]⟩ = ⟨#[63]⟩ by
   intro h
   rw [← hok] at h
   cases R with
   | none => rfl
   | some q => cases h)
  clear hbd hmc hsa hfi hnu hps hcard hR hp hok CC
  have z1 : w1.cell? ⟨b, off + i * 5 + 1, none⟩ = some (.int .i64 nu) := y1
  have z2 : w1.cell? ⟨b, off + i * 5 + 1 + 1, none⟩ = some (.int .i64 sa) := y2
  have z3 : w1.cell? ⟨b, off + i * 5 + 1 + 2, none⟩ = some (.int .i64 fi) := y3
  have z4 : w1.cell? ⟨b, off + i * 5 + 1 + 3, none⟩ = some (.slice B0 mc cc0) := y4
  clear y0 y1 y2 y3 y4 hxi
  go_wp2_with (go_at_call 111; refine (jae _ _ _ _).mono ?_; (first | rw [HIB0.out] | rw [HIB.out]); rintro e9 w9 ⟨rfl, rfl⟩)
  refine HC.out.mono ?_
  rintro e9 w2 ⟨rfl, b9⟩
  replace P := P.next b9
  replace Z := Z.next b9
  replace Kq := jaa Kq b9
  clear HC pc b9 z1 z2 z3 z4
  have pc := P.cell
  have zc := Z.cell
  have zf := Z.frozen
  cases ok
  ·have HR := Lib.hid (show jeh ⟨t, cl, xs⟩ 9 (i : Int) = (⟨t, cl, xs⟩, ⟨#[63]⟩) by rw [HR1.out, HRN.out rfl])
   go_wp2_with fail
   obtain ⟨Z3, E⟩ := jal Z (.int .i64 t) (.bool cl) (.slice (some ⟨b, off, none⟩) xs.length c) (.string l.durable) (.string l.pending) (.int .i64 l.count)
   have K5 := Kq.trans (E.below (fun b hb => by omega) Kq.size)
   clear zc zf
   have zc := Z3.cell
   refine bodyPost_ret (v := .tuple #[.agg #[t, cl, .slice (some ⟨b, off, none⟩) xs.length c, l.durable, l.pending, l.count], .string ⟨#[63]⟩]) (by simp [results, Tryz.results86, go_sem, zc]) rfl ?_
   rw [HR.out]
   exact ⟨some ⟨b, off, none⟩, c, rfl, hst.below K5, K5⟩
  have HR := Lib.hid (show jeh ⟨t, cl, xs⟩ 9 (i : Int) = (⟨t, cl, xs⟩, p) by rw [HR1.out, HRY.out rfl])
  go_wp2_with fail
  obtain ⟨Z3, E⟩ := jal Z (.int .i64 t) (.bool cl) (.slice (some ⟨b, off, none⟩) xs.length c) (.string l.durable) (.string l.pending) (.int .i64 l.count)
  have K5 := Kq.trans (E.below (fun b hb => by omega) Kq.size)
  clear zc zf
  have zc := Z3.cell
  refine bodyPost_ret (v := .tuple #[.agg #[t, cl, .slice (some ⟨b, off, none⟩) xs.length c, l.durable, l.pending, l.count], .string p]) (by simp [results, Tryz.results86, go_sem, zc]) rfl ?_
  rw [HR.out]
  exact ⟨some ⟨b, off, none⟩, c, rfl, hst.below K5, K5⟩
 have q9 : (s.toList == [99, 97, 114, 100]) = false := jbx (fun e => k9 (by subst e; decide))
 by_cases k10 : cmK s = 10
 ·obtain rfl : s = ⟨#[115, 101, 101, 110]⟩ := jff k10 (by decide)
  have hk0 := k10
  clear k10 q5 q6 q7 q8 q9
  rw [hk0]
  clear hk0
  go_enter Tryz.func86, Tryz.ntmps86
  go_upto_region 1 with fail
  generalize (w.alloc _).alloc _ = w1 at *
  have pc := P.cell
  have hLS := jj8 (e := z) hg
  obtain ⟨R, hR⟩ : ∃ R, jbz ⟨t, cl, xs⟩ z = R := ⟨_, rfl⟩
  rw [hR] at hLS
  have CC := jg9 t cl A xs.length c xs z w1 hx (by omega) (jb2 hg)
  rw [hR] at CC
  obtain ⟨u, hu⟩ : ∃ u, (R.getD (0, 0)).1 = u := ⟨_, rfl⟩
  obtain ⟨v, hv⟩ : ∃ v, (R.getD (0, 0)).2 = v := ⟨_, rfl⟩
  obtain ⟨ok, hok⟩ : ∃ ok, R.isSome = ok := ⟨_, rfl⟩
  rw [hu, hv, hok] at CC
  rw [hu, hv] at hLS
  have HR0 := Lib.hid (show jeh ⟨t, cl, xs⟩ 10 z = (⟨t, cl, xs⟩, (R.map fun p => jbq [p.1, p.2]).getD ⟨#[63]⟩) by show (_, ((jbz ⟨t, cl, xs⟩ z).map _).getD _) = _; rw [hR])
  have HRY := Lib.hid (show ok = true → (R.map fun p => jbq [p.1, p.2]).getD ⟨#[63]⟩ = jbe u ++ ⟨#[32]⟩ ++ jbe v by
   intro h
   rw [← hok] at h
   cases R with
   | none => cases h
   | some q =>
    rw [← hu, ← hv]
    show jbq [q.1, q.2] = _
    unfold jbq
    rw [if_neg (by simp), show [q.1, q.2] = [q.1] ++ [q.2] from rfl, jgq (by simp), jix]
    rfl)
  have HRN := Lib.hid (show ok = false → (R.map fun p => jbq [p.1, p.2]).getD ⟨#[63]⟩ = ⟨#[63]⟩ by
   intro h
   rw [← hok] at h
   cases R with
   | none => rfl
   | some q => cases h)
  have HC := Lib.hid CC
  obtain ⟨⟨hu0, hu1⟩, hv0, hv1⟩ := hLS
  clear hR hu hv hok CC
  go_wp2_with fail
  refine HC.out.mono ?_
  rintro e9 w2 ⟨rfl, b9⟩
  replace P := P.next b9
  replace Z := Z.next b9
  replace Kq := jaa Kq b9
  clear HC pc b9
  have pc := P.cell
  cases ok
  ·have HR := Lib.hid (show jeh ⟨t, cl, xs⟩ 10 z = (⟨t, cl, xs⟩, ⟨#[63]⟩) by rw [HR0.out, HRN.out rfl])
   have zc := Z.cell
   have zf := Z.frozen
   go_wp2_with fail
   obtain ⟨Z3, E⟩ := jal Z (.int .i64 t) (.bool cl) (.slice A xs.length c) (.string l.durable) (.string l.pending) (.int .i64 l.count)
   have K5 := Kq.trans (E.below (fun b hb => by omega) Kq.size)
   clear zc zf
   have zc := Z3.cell
   refine bodyPost_ret (v := .tuple #[.agg #[t, cl, .slice A xs.length c, l.durable, l.pending, l.count], .string ⟨#[63]⟩]) (by simp [results, Tryz.results86, go_sem, zc]) rfl ?_
   rw [HR.out]
   exact ⟨A, c, rfl, hst.below K5, K5⟩
  have HR := Lib.hid (show jeh ⟨t, cl, xs⟩ 10 z = (⟨t, cl, xs⟩, jbe u ++ ⟨#[32]⟩ ++ jbe v) by rw [HR0.out, HRY.out rfl])
  have hs0 := ja2 hu0 hu1
  have hs1 := ja2 hv0 hv1
  have ht0 : ¬ 9223372036854775807 < (jbe u).size + 1 := by omega
  have ht1 : ¬ 9223372036854775807 < (jbe u).size + 1 + (jbe v).size := by omega
  go_upto_region 18 with fail
  have b9 := (Quiet.one w2).below w2.heap.size
  replace P := P.next b9
  replace Z := Z.next b9
  replace Kq := jaa Kq b9
  clear b9 pc
  have pc := P.cell
  have zc := Z.cell
  have zf := Z.frozen
  refine wp_region_held_drew (S := fun w' => w'.cell? ⟨w.heap.size, 0, none⟩ = some (.int .i64 t) ∧ w'.cell? ⟨w.heap.size, 1, none⟩ = some (.bool cl) ∧ w'.cell? ⟨w.heap.size, 2, none⟩ = some (.slice A xs.length c) ∧ w'.cell? ⟨w.heap.size, 3, none⟩ = some (.string l.durable) ∧ w'.cell? ⟨w.heap.size, 4, none⟩ = some (.string l.pending) ∧ w'.cell? ⟨w.heap.size, 5, none⟩ = some (.int .i64 l.count)) (by kernel_rfl) (by (try dsimp only); exact ⟨pc 0, pc 1, pc 2, pc 3, pc 4, pc 5⟩) (fun hH => ?_)
  generalize w2.drew = wz at *
  refine wQ 0 ?_
  refine wQ 1 ?_
  refine wQ 4 ?_
  refine wR (rs := [2]) (by kernel_rfl) (by simp) ?_
  refine aC rfl (fun K hK => ?_) aN
  go_simp
  go_must (refine (jau u _ hu0 hu1).mono ?_)
  rintro e9 w9 ⟨rfl, q9⟩
  have b9 := q9.below wz.heap.size
  replace P := P.next b9
  replace Z := Z.next b9
  replace Kq := jaa Kq b9
  clear b9 pc zc zf
  have pc := P.cell
  have zc := Z.cell
  have zf := Z.frozen
  generalize w9 = wz at *
  go_wp2_with fail
  refine hK.out _ _ (by (try dsimp only); exact ⟨pc 0, pc 1, pc 2, pc 3, pc 4, pc 5⟩) (fun hH => ?_)
  clear hK K
  refine wQ 3 ?_
  refine wR (rs := [5]) (by kernel_rfl) (by simp) ?_
  refine aC rfl (fun K hK => ?_) aN
  go_simp
  go_must (refine (jau v _ hv0 hv1).mono ?_)
  rintro e9 w9 ⟨rfl, q9⟩
  have b9 := q9.below wz.heap.size
  replace P := P.next b9
  replace Z := Z.next b9
  replace Kq := jaa Kq b9
  clear b9 pc zc zf
  have pc := P.cell
  have zc := Z.cell
  have zf := Z.frozen
  generalize w9 = wz at *
  go_wp2_with fail
  refine hK.out _ _ (by (try dsimp only); exact ⟨pc 0, pc 1, pc 2, pc 3, pc 4, pc 5⟩) (fun hH => ?_)
  clear hK K
  refine wQ 6 ?_
  refine wR (rs := [7]) (by kernel_rfl) (by simp) ?_
  refine aC rfl (fun K hK => ?_) aN
  go_simp
  refine hK.out _ _ (by (try dsimp only); have E := (jal Z (.int .i64 t) (.bool cl) (.slice A xs.length c) (.string l.durable) (.string l.pending) (.int .i64 l.count)).2; exact ⟨(P.only E (fun (h : w.heap.size = _) => by omega)).cell 0, (P.only E (fun (h : w.heap.size = _) => by omega)).cell 1, (P.only E (fun (h : w.heap.size = _) => by omega)).cell 2, (P.only E (fun (h : w.heap.size = _) => by omega)).cell 3, (P.only E (fun (h : w.heap.size = _) => by omega)).cell 4, (P.only E (fun (h : w.heap.size = _) => by omega)).cell 5⟩) (fun hH => ?_)
  clear hK K
  try simp only [Act.put, pX]
  refine wQ 8 ?_
  refine wD (by kernel_rfl) ?_ _
  go_wp2_with fail
  obtain ⟨Z3, E⟩ := jal Z (.int .i64 t) (.bool cl) (.slice A xs.length c) (.string l.durable) (.string l.pending) (.int .i64 l.count)
  have K5 := Kq.trans (E.below (fun b hb => by omega) Kq.size)
  clear zc zf
  have zc := Z3.cell
  refine bodyPost_ret (v := .tuple #[.agg #[t, cl, .slice A xs.length c, l.durable, l.pending, l.count], .string (jbe u ++ ⟨#[32]⟩ ++ jbe v)]) (by simp [results, Tryz.results86, go_sem, zc]) rfl ?_
  rw [HR.out]
  exact ⟨A, c, rfl, hst.below K5, K5⟩
 have q10 : (s.toList == [115, 101, 101, 110]) = false := jbx (fun e => k10 (by subst e; decide))
 have HN := Lib.hid (show jeh ⟨t, cl, xs⟩ (cmK s) z = (⟨t, cl, xs⟩, ⟨#[63]⟩) from jqb k5 k6 k7 k8 k9 k10)
 clear k5 k6 k7 k8 k9 k10
 go_enter Tryz.func86, Tryz.ntmps86
 go_upto_region 1 with fail
 generalize (w.alloc _).alloc _ = w1 at *
 have pc := P.cell
 have HR := Lib.hid (show jeh ⟨t, cl, xs⟩ (cmK s) z = (⟨t, cl, xs⟩, ⟨#[63]⟩) from HN.out)
 have zc := Z.cell
 have zf := Z.frozen
 go_wp2_with fail
 obtain ⟨Z3, E⟩ := jal Z (.int .i64 t) (.bool cl) (.slice A xs.length c) (.string l.durable) (.string l.pending) (.int .i64 l.count)
 have K5 := Kq.trans (E.below (fun b hb => by omega) Kq.size)
 clear zc zf
 have zc := Z3.cell
 refine bodyPost_ret (v := .tuple #[.agg #[t, cl, .slice A xs.length c, l.durable, l.pending, l.count], .string ⟨#[63]⟩]) (by simp [results, Tryz.results86, go_sem, zc]) rfl ?_
 rw [HR.out]
 exact ⟨A, c, rfl, hst.below K5, K5⟩
end Go.Proofs.YtflpcdffmpfdpaaGreatDoor
