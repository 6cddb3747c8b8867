/- Joined texts of this proof: SortP, RunK. -/
import Derived.Lib.Bytealg
import Derived.Test.YtflpcdffmpfdpaaGreatDoorB02
import Derived.Test.YtflpcdffmpfdpaaGreatDoorB15
set_option maxRecDepth 100000
set_option maxHeartbeats 8000000
namespace Go.Proofs.YtflpcdffmpfdpaaGreatDoor
open Go.RowKit

section
variable {α : Type} (lt : α → α → Bool)
def jhj (P : List α) (e : α) : Nat → Nat
 | 0 => 0
 | k + 1 => match P[k]? with
  | some p => if lt e p then jhj P e k else k + 1
  | none => k + 1
def jlv (P : List α) (e : α) : List α := P.take (jhj lt P e P.length) ++ e :: P.drop (jhj lt P e P.length)
def jbm (xs : List α) : List α := xs.foldl (jlv lt) []
theorem jnp {P : List α} {e : α} {k : Nat} (hk : k < P.length) (h : lt e P[k] = true) : jhj lt P e (k + 1) = jhj lt P e k := by
 simp [jhj, List.getElem?_eq_getElem hk, h]
theorem jov {P : List α} {e : α} {k : Nat} (hk : k < P.length) (h : lt e P[k] = false) : jhj lt P e (k + 1) = k + 1 := by
 simp [jhj, List.getElem?_eq_getElem hk, h]
theorem jmy {P : List α} {e : α} {k : Nat} (h : jhj lt P e P.length = k) : jlv lt P e = P.take k ++ e :: P.drop k := by
 unfold jlv; rw [h]
theorem joy (P : List α) (e : α) : (jlv lt P e).Perm (e :: P) := by
 unfold jlv
 refine (List.perm_middle).trans (List.Perm.cons _ ?_)
 rw [List.take_append_drop]
theorem jle : jbm lt ([] : List α) = [] := rfl
theorem jow (x : α) : jbm lt [x] = [x] := rfl
theorem jef (l : List α) (x : α) : jbm lt (l ++ [x]) = jlv lt (jbm lt l) x := by simp [jbm]
theorem jjv {l : List α} {k : Nat} (h : k < l.length) : jbm lt (l.take (k + 1)) = jlv lt (jbm lt (l.take k)) l[k] := by
 rw [List.take_succ_eq_append_getElem h, jef]
theorem jet : ∀ (l acc : List α), (l.foldl (jlv lt) acc).Perm (acc ++ l)
 | [], acc => by simp
 | x :: l, acc => by
  rw [List.foldl_cons]
  refine (jet l _).trans ?_
  refine ((joy lt acc x).append_right l).trans ?_
  exact (List.perm_middle (l₁ := acc) (a := x) (l₂ := l)).symm
theorem jjp (xs : List α) : (jbm lt xs).Perm xs := by simpa [jbm] using jet lt xs []
theorem jc6 (xs : List α) : (jbm lt xs).length = xs.length := (jjp lt xs).length_eq
theorem jfu {xs : List α} {x : α} : x ∈ jbm lt xs ↔ x ∈ xs := (jjp lt xs).mem_iff
end

section
variable {α : Type} {enc : α → List Value} {s : Nat}
theorem jpa (henc : ∀ x, (enc x).length = s) {xs : List α} {rest : List Value} {k j : Nat} (hk : k < xs.length) (hj : j < s) : (xs.flatMap enc ++ rest)[k * s + j]? = (enc xs[k])[j]? := by
 have hl := jak xs (fun x _ => henc x)
 have h1 : (k + 1) * s ≤ xs.length * s := Nat.mul_le_mul_right s hk
 rw [Nat.succ_mul] at h1
 rw [List.getElem?_append_left (by omega), jds xs (fun x _ => henc x) k j hk hj]
theorem jp6 (henc : ∀ x, (enc x).length = s) {w : World} {g : Nat} {t : TypeId} {xs : List α} {rest : List Value} (h : Blk w g t (xs.flatMap enc ++ rest)) {k : Nat} (hk : k < xs.length) (j : Nat) (u : Value) (hu : (enc xs[k])[j]? = some u) : w.cell? ⟨g, k * s + j, none⟩ = some u := by
 have hj : j < s := by
  have := (List.getElem?_eq_some_iff.1 hu).1
  rwa [henc] at this
 rw [h.cell, jpa henc hk hj, hu]
theorem row_cell? (henc : ∀ x, (enc x).length = s) {w : World} {g : Nat} {t : TypeId} {xs : List α} {rest : List Value} (h : Blk w g t (xs.flatMap enc ++ rest)) {k : Nat} {x : α} (hx : xs[k]? = some x) (j : Nat) (u : Value) (hu : (enc x)[j]? = some u) : w.cell? ⟨g, k * s + j, none⟩ = some u := by
 obtain ⟨hk, rfl⟩ := List.getElem?_eq_some_iff.1 hx
 exact jp6 henc h hk j u hu
theorem jpi (henc : ∀ x, (enc x).length = s) (xs : List α) (rest : List Value) (k : Nat) (y : α) (hk : k < xs.length) : jey (xs.flatMap enc ++ rest) (k * s) (enc y) = (xs.set k y).flatMap enc ++ rest := by
 have hl := jak xs (fun x _ => henc x)
 have hl2 := jak (xs.set k y) (fun x _ => henc x)
 rw [List.length_set] at hl2
 have h1 : (k + 1) * s ≤ xs.length * s := Nat.mul_le_mul_right s hk
 rw [Nat.succ_mul] at h1
 refine List.ext_getElem? fun i => ?_
 rw [jfr _ _ _ _ (by rw [henc, List.length_append]; omega), henc]
 by_cases hs : s = 0
 ·subst hs
  rw [if_neg (by omega)]
  rw [Nat.mul_zero] at hl hl2
  rw [List.eq_nil_of_length_eq_zero hl, List.eq_nil_of_length_eq_zero hl2]
 by_cases h2 : i < xs.length * s
 ·have hd := Nat.div_add_mod' i s
  have hm := Nat.mod_lt i (show 0 < s by omega)
  have hq : i / s < xs.length := Nat.div_lt_of_lt_mul (by rw [Nat.mul_comm]; exact h2)
  have e1 : ∀ (l : List α) (hl : i / s < l.length), (l.flatMap enc ++ rest)[i]? = (enc l[i / s])[i % s]? := fun l hl => by
   have := jpa henc (rest := rest) hl hm
   rwa [hd] at this
  rw [e1 (xs.set k y) (by simpa using hq)]
  by_cases h3 : k * s ≤ i ∧ i < k * s + s
  ·rw [if_pos h3]
   have hk2 : i / s = k := by
    have a1 : k ≤ i / s := (Nat.le_div_iff_mul_le (by omega)).2 h3.1
    have a2 : i / s < k + 1 := (Nat.div_lt_iff_lt_mul (by omega)).2 (by rw [Nat.succ_mul]; exact h3.2)
    omega
   have e2 : (xs.set k y)[i / s]'(by simpa using hq) = y := by simp [hk2]
   rw [e2]
   congr 1
   rw [hk2] at hd
   omega
  ·rw [if_neg h3, e1 xs hq]
   have hk2 : k ≠ i / s := fun e => h3 (by rw [← e] at hd; omega)
   rw [List.getElem_set_ne hk2]
 ·rw [if_neg (by omega), List.getElem?_append_right (by omega), List.getElem?_append_right (by omega), hl, hl2]
theorem jqr {L M : List α} {p e : α} {m : Nat} (h : L.length = m) : (((L ++ p :: e :: M).set (m + 1) p).set m e) = L ++ e :: p :: M := by
 subst h
 simp
end
def jc8 {α : Type} (cf : α → α → Int) (x y : α) : Bool := decide (cf x y < 0)
theorem jpe {α : Type} {pre P R row : List α} {e : α} {j m : Nat} (hm : m = pre.length + (j + 1)) (hj : j < P.length) (h : row = pre ++ (P.take (j + 1) ++ e :: P.drop (j + 1)) ++ R) :
  ∃ L M, row = L ++ P[j] :: e :: M ∧ L.length + 1 = m ∧ pre ++ (P.take j ++ e :: P.drop j) ++ R = L ++ e :: P[j] :: M := by
 refine ⟨pre ++ P.take j, P.drop (j + 1) ++ R, ?_, ?_, ?_⟩
 ·rw [h, List.take_succ_eq_append_getElem hj]; simp only [List.append_assoc, List.cons_append, List.nil_append]
 ·rw [List.length_append, List.length_take]; omega
 ·have e2 : P.drop j = P[j] :: P.drop (j + 1) := List.drop_eq_getElem_cons hj
  rw [e2]; simp only [List.append_assoc, List.cons_append]
theorem jqv {α : Type} {L M : List α} {p e : α} : (L ++ p :: e :: M)[L.length]? = some p ∧ (L ++ p :: e :: M)[L.length + 1]? = some e := by
 refine ⟨?_, ?_⟩
 ·rw [List.getElem?_append_right (Nat.le_refl _)]; simp
 ·rw [List.getElem?_append_right (by omega)]; simp

def jn0 (a b : Int) : Int := if a < b then -1 else if b < a then 1 else 0
theorem jhl (a b : Int) : jn0 a b < 0 ↔ a < b := by unfold jn0; split <;> (try split) <;> omega
end Go.Proofs.YtflpcdffmpfdpaaGreatDoor
namespace Go.Proofs.YtflpcdffmpfdpaaGreatDoor
open Go.RowKit
abbrev RunH := Hd RunE
def RunH.enc (r : RunH) : List Value := [.int .i64 r.x.runner, .bool r.x.started, .bool r.x.out, .int .i64 r.x.number, .int .i64 r.x.start, .int .i64 r.x.finish, .slice r.A r.n r.c]
theorem jf4 {x : RunE} {cs : List Int} {limit : Int} (h : jb0 x cs limit = 0) : x.started = true := by
 cases hs : x.started with
 | true => rfl
 | false =>
  unfold jb0 at h
  rw [if_pos hs] at h
  omega
theorem jkc {x : RunE} (h : jd3 x = true) (hs : x.started = true) : (-1 ≤ x.finish ∧ x.finish ≤ 36000) ∧ (0 ≤ x.start ∧ x.start ≤ 36000) :=
 ⟨(jc3 (jf5 h hs)).2.2.1, (jc3 (jf5 h hs)).2.1⟩
def cfK (cs : List Int) (limit : Int) (x y : RunH) : Int := if jb0 x.x cs limit = 0 ∧ jb0 y.x cs limit = 0 then jn0 (x.x.finish - x.x.start) (y.x.finish - y.x.start) else jn0 (jb0 x.x cs limit) (jb0 y.x cs limit)
def jbt (cs : List Int) (limit : Int) (x y : RunH) : Bool := if jb0 x.x cs limit = jb0 y.x cs limit then (if jb0 x.x cs limit = 0 ∧ ¬ x.x.finish - x.x.start = y.x.finish - y.x.start then decide (x.x.finish - x.x.start < y.x.finish - y.x.start) else decide (x.x.runner < y.x.runner)) else decide (jb0 x.x cs limit < jb0 y.x cs limit)
theorem jgk (a : Int) (w : World) : Calls Tryz.prog 220 #[.int .i64 a] w fun e w' => e = .returned (.bool false) ∧ w = w' := by
 go_enter Tryz.func220, Tryz.ntmps220
 go_wp2
 go_ret
 exact ⟨jab (by simp), rfl⟩
theorem je1 (a b : Int) (w : World) : Calls Tryz.prog 182 #[.int .i64 a, .int .i64 b] w fun e w' => e = .returned (.int .i64 (jn0 a b)) ∧ w = w' := by
 by_cases h1 : a < b
 ·go_enter Tryz.func182, Tryz.ntmps182
  go_wp2_with (go_at_call 220; refine (jgk _ _).mono ?_; rintro e w' ⟨rfl, rfl⟩)
  go_ret
  exact ⟨jh3 (by unfold jn0; rw [if_pos h1]), rfl⟩
 ·by_cases h2 : b < a
  ·go_enter Tryz.func182, Tryz.ntmps182
   go_wp2_with (go_at_call 220; refine (jgk _ _).mono ?_; rintro e w' ⟨rfl, rfl⟩)
   go_ret
   exact ⟨jh3 (by unfold jn0; rw [if_neg (by omega), if_pos h2]), rfl⟩
  ·go_enter Tryz.func182, Tryz.ntmps182
   go_wp2_with (go_at_call 220; refine (jgk _ _).mono ?_; rintro e w' ⟨rfl, rfl⟩)
   go_ret
   exact ⟨jh3 (by unfold jn0; rw [if_neg (by omega), if_neg (by omega)]), rfl⟩
theorem jhf (x y : RunH) (bc bl : Nat) (B : Option Addr) (m e : Nat) (cs : List Int) (limit : Int) (w : World) (hx : Sees w 0 2 x.A x.n (x.x.punches.flatMap Punch.enc) ∧ x.n ≤ 1048576 ∧ x.n ≤ x.c ∧ jd3 x.x = true) (hz : Sees w 0 2 y.A y.n (y.x.punches.flatMap Punch.enc) ∧ y.n ≤ 1048576 ∧ y.n ≤ y.c ∧ jd3 y.x = true) (hy : Sees w 0 1 B m (jb4 cs)) (hm : m ≤ 1048576) (cbc : w.cell? ⟨bc, 0, none⟩ = some (.slice B m e)) (cbl : w.cell? ⟨bl, 0, none⟩ = some (.int .i64 limit)) :
  Calls Tryz.prog 180 #[.agg #[x.x.runner, x.x.started, x.x.out, x.x.number, x.x.start, x.x.finish, .slice x.A x.n x.c], .agg #[y.x.runner, y.x.started, y.x.out, y.x.number, y.x.start, y.x.finish, .slice y.A y.n y.c], .pointer (some ⟨bc, 0, none⟩), .pointer (some ⟨bl, 0, none⟩)] w fun e' w' => e' = .returned (.int .i64 (cfK cs limit x y)) ∧ Below w.heap.size w w' := by
 obtain ⟨sx, hsx⟩ : ∃ s, jb0 x.x cs limit = s := ⟨_, rfl⟩
 obtain ⟨sy, hsy⟩ : ∃ s, jb0 y.x cs limit = s := ⟨_, rfl⟩
 obtain ⟨tx, htx⟩ : ∃ s, x.x.finish - x.x.start = s := ⟨_, rfl⟩
 obtain ⟨ty, hty⟩ : ∃ s, y.x.finish - y.x.start = s := ⟨_, rfl⟩
 have HR0 := Lib.hid (show cfK cs limit x y = (if sx = 0 ∧ sy = 0 then jn0 tx ty else jn0 sx sy) by unfold cfK; rw [hsx, hsy, htx, hty])
 have HSX := Lib.hid hsx
 have HSY := Lib.hid hsy
 have HTX := Lib.hid htx
 have HTY := Lib.hid hty
 have HLX := jhn x.x cs limit
 have HLY := jhn y.x cs limit
 rw [hsx] at HLX
 rw [hsy] at HLY
 have TX := Lib.hid (fun (h : sx = 0) => jkc hx.2.2.2 (jf4 (hsx.trans h)))
 have TY := Lib.hid (fun (h : sy = 0) => jkc hz.2.2.2 (jf4 (hsy.trans h)))
 clear hsx hsy htx hty
 have K0 := nB2 w (.cells #[x.x.runner, x.x.started, x.x.out, x.x.number, x.x.start, x.x.finish, .slice x.A x.n x.c] 160) (.cells #[y.x.runner, y.x.started, y.x.out, y.x.number, y.x.start, y.x.finish, .slice y.A y.n y.c] 160)
 have X0 := nPa w [x.x.runner, x.x.started, x.x.out, x.x.number, x.x.start, x.x.finish, .slice x.A x.n x.c] 160 (.cells #[y.x.runner, y.x.started, y.x.out, y.x.number, y.x.start, y.x.finish, .slice y.A y.n y.c] 160)
 have Y0 := nQ w (.cells #[x.x.runner, x.x.started, x.x.out, x.x.number, x.x.start, x.x.finish, .slice x.A x.n x.c] 160) [y.x.runner, y.x.started, y.x.out, y.x.number, y.x.start, y.x.finish, .slice y.A y.n y.c] 160
 go_enter Tryz.func180, Tryz.ntmps180
 go_upto_region 1 with fail
 generalize (w.alloc _).alloc _ = w1 at *
 have PX : Sees w1 0 2 x.A x.n (x.x.punches.flatMap Punch.enc) ∧ x.n ≤ 1048576 ∧ x.n ≤ x.c ∧ jd3 x.x = true := ⟨hx.1.below K0 (Nat.le_refl _), hx.2⟩
 have PY : Sees w1 0 2 y.A y.n (y.x.punches.flatMap Punch.enc) ∧ y.n ≤ 1048576 ∧ y.n ≤ y.c ∧ jd3 y.x = true := ⟨hz.1.below K0 (Nat.le_refl _), hz.2⟩
 replace hy := hy.below K0 (Nat.le_refl _)
 have hbc : bc < w1.heap.size := Nat.lt_of_lt_of_le (World.block_lt_of_cell? w _ cbc) K0.size
 have hbl : bl < w1.heap.size := Nat.lt_of_lt_of_le (World.block_lt_of_cell? w _ cbl) K0.size
 replace cbc := (K0.cell (p := ⟨bc, 0, none⟩) (World.block_lt_of_cell? w _ cbc)).trans cbc
 replace cbl := (K0.cell (p := ⟨bl, 0, none⟩) (World.block_lt_of_cell? w _ cbl)).trans cbl
 clear hx hz
 have hSS : ∀ w' : World, Below w1.heap.size w1 w' → w'.cell? ⟨w.heap.size, 0, none⟩ = some (.int .i64 x.x.runner) ∧ w'.cell? ⟨w.heap.size, 1, none⟩ = some (.bool x.x.started) ∧ w'.cell? ⟨w.heap.size, 2, none⟩ = some (.bool x.x.out) ∧ w'.cell? ⟨w.heap.size, 3, none⟩ = some (.int .i64 x.x.number) ∧ w'.cell? ⟨w.heap.size, 4, none⟩ = some (.int .i64 x.x.start) ∧ w'.cell? ⟨w.heap.size, 5, none⟩ = some (.int .i64 x.x.finish) ∧ w'.cell? ⟨w.heap.size, 6, none⟩ = some (.slice x.A x.n x.c) ∧ w'.cell? ⟨w.heap.size + 1, 0, none⟩ = some (.int .i64 y.x.runner) ∧ w'.cell? ⟨w.heap.size + 1, 1, none⟩ = some (.bool y.x.started) ∧ w'.cell? ⟨w.heap.size + 1, 2, none⟩ = some (.bool y.x.out) ∧ w'.cell? ⟨w.heap.size + 1, 3, none⟩ = some (.int .i64 y.x.number) ∧ w'.cell? ⟨w.heap.size + 1, 4, none⟩ = some (.int .i64 y.x.start) ∧ w'.cell? ⟨w.heap.size + 1, 5, none⟩ = some (.int .i64 y.x.finish) ∧ w'.cell? ⟨w.heap.size + 1, 6, none⟩ = some (.slice y.A y.n y.c) ∧ w'.cell? ⟨bc, 0, none⟩ = some (.slice B m e) ∧ w'.cell? ⟨bl, 0, none⟩ = some (.int .i64 limit) := fun w' h => ⟨(X0.next h).cell 0, (X0.next h).cell 1, (X0.next h).cell 2, (X0.next h).cell 3, (X0.next h).cell 4, (X0.next h).cell 5, (X0.next h).cell 6, (Y0.next h).cell 0, (Y0.next h).cell 1, (Y0.next h).cell 2, (Y0.next h).cell 3, (Y0.next h).cell 4, (Y0.next h).cell 5, (Y0.next h).cell 6, (h.cell (p := ⟨bc, 0, none⟩) hbc).trans cbc, (h.cell (p := ⟨bl, 0, none⟩) hbl).trans cbl⟩
 have KW := Below.refl w1.heap.size w1
 replace KW := jaa KW ((Quiet.one w1).below w1.heap.size)
 refine wp_region_held_drew (S := fun w' => w'.cell? ⟨w.heap.size, 0, none⟩ = some (.int .i64 x.x.runner) ∧ w'.cell? ⟨w.heap.size, 1, none⟩ = some (.bool x.x.started) ∧ w'.cell? ⟨w.heap.size, 2, none⟩ = some (.bool x.x.out) ∧ w'.cell? ⟨w.heap.size, 3, none⟩ = some (.int .i64 x.x.number) ∧ w'.cell? ⟨w.heap.size, 4, none⟩ = some (.int .i64 x.x.start) ∧ w'.cell? ⟨w.heap.size, 5, none⟩ = some (.int .i64 x.x.finish) ∧ w'.cell? ⟨w.heap.size, 6, none⟩ = some (.slice x.A x.n x.c) ∧ w'.cell? ⟨w.heap.size + 1, 0, none⟩ = some (.int .i64 y.x.runner) ∧ w'.cell? ⟨w.heap.size + 1, 1, none⟩ = some (.bool y.x.started) ∧ w'.cell? ⟨w.heap.size + 1, 2, none⟩ = some (.bool y.x.out) ∧ w'.cell? ⟨w.heap.size + 1, 3, none⟩ = some (.int .i64 y.x.number) ∧ w'.cell? ⟨w.heap.size + 1, 4, none⟩ = some (.int .i64 y.x.start) ∧ w'.cell? ⟨w.heap.size + 1, 5, none⟩ = some (.int .i64 y.x.finish) ∧ w'.cell? ⟨w.heap.size + 1, 6, none⟩ = some (.slice y.A y.n y.c) ∧ w'.cell? ⟨bc, 0, none⟩ = some (.slice B m e) ∧ w'.cell? ⟨bl, 0, none⟩ = some (.int .i64 limit)) (by kernel_rfl) (by (try dsimp only); exact hSS _ KW) (fun hH => ?_)
 generalize w1.drew = wz at *
 refine wQ 0 ?_
 refine wQ 1 ?_
 refine wQ 2 ?_
 refine wQ 4 ?_
 refine wQ 5 ?_
 refine wQ 6 ?_
 refine wR (rs := [3]) (by kernel_rfl) (by simp) ?_
 refine aC rfl (fun K hK => ?_) aN
 go_simp
 refine (jgx x.A x.n x.c x.x B m e cs limit _ (PX.1.next KW) PX.2.1 PX.2.2.1 (hy.next KW) hm PX.2.2.2).mono ?_
 rw [HSX.out]
 rintro e w9 ⟨rfl, b9⟩
 replace KW := jaa KW b9
 clear b9
 generalize w9 = wz at *
 go_wp2_with fail
 refine hK.out _ _ (by (try dsimp only); exact hSS _ KW) (fun hH => ?_)
 clear hK K
 refine wR (rs := [7]) (by kernel_rfl) (by simp) ?_
 refine aC rfl (fun K hK => ?_) aN
 go_simp
 refine (jgx y.A y.n y.c y.x B m e cs limit _ (PY.1.next KW) PY.2.1 PY.2.2.1 (hy.next KW) hm PY.2.2.2).mono ?_
 rw [HSY.out]
 rintro e w9 ⟨rfl, b9⟩
 replace KW := jaa KW b9
 clear b9
 generalize w9 = wz at *
 go_wp2_with fail
 refine hK.out _ _ (by (try dsimp only); exact hSS _ KW) (fun hH => ?_)
 clear hK K
 refine wQ 8 ?_
 refine wQ 9 ?_
 refine wD (by kernel_rfl) ?_ _
 by_cases h0 : sx = 0
 ·subst h0
  by_cases h1 : sy = 0
  ·subst h1
   obtain ⟨cf, hcf⟩ : ∃ z, jn0 tx ty = z := ⟨_, rfl⟩
   have HR := Lib.hid (show cfK cs limit x y = cf by rw [HR0.out, if_pos ⟨rfl, rfl⟩]; exact hcf)
   have HCF := Lib.hid hcf
   clear hcf
   go_upto_region 3 with fail
   replace KW := jaa KW ((Quiet.one wz).below wz.heap.size)
   refine wp_region_held_drew (S := fun w' => w'.cell? ⟨w.heap.size, 0, none⟩ = some (.int .i64 x.x.runner) ∧ w'.cell? ⟨w.heap.size, 1, none⟩ = some (.bool x.x.started) ∧ w'.cell? ⟨w.heap.size, 2, none⟩ = some (.bool x.x.out) ∧ w'.cell? ⟨w.heap.size, 3, none⟩ = some (.int .i64 x.x.number) ∧ w'.cell? ⟨w.heap.size, 4, none⟩ = some (.int .i64 x.x.start) ∧ w'.cell? ⟨w.heap.size, 5, none⟩ = some (.int .i64 x.x.finish) ∧ w'.cell? ⟨w.heap.size, 6, none⟩ = some (.slice x.A x.n x.c) ∧ w'.cell? ⟨w.heap.size + 1, 0, none⟩ = some (.int .i64 y.x.runner) ∧ w'.cell? ⟨w.heap.size + 1, 1, none⟩ = some (.bool y.x.started) ∧ w'.cell? ⟨w.heap.size + 1, 2, none⟩ = some (.bool y.x.out) ∧ w'.cell? ⟨w.heap.size + 1, 3, none⟩ = some (.int .i64 y.x.number) ∧ w'.cell? ⟨w.heap.size + 1, 4, none⟩ = some (.int .i64 y.x.start) ∧ w'.cell? ⟨w.heap.size + 1, 5, none⟩ = some (.int .i64 y.x.finish) ∧ w'.cell? ⟨w.heap.size + 1, 6, none⟩ = some (.slice y.A y.n y.c) ∧ w'.cell? ⟨bc, 0, none⟩ = some (.slice B m e) ∧ w'.cell? ⟨bl, 0, none⟩ = some (.int .i64 limit)) (by kernel_rfl) (by (try dsimp only); exact hSS _ KW) (fun hH => ?_)
   generalize wz.drew = wz at *
   refine wQ 0 ?_
   refine wQ 2 ?_
   refine wR (rs := [1]) (by kernel_rfl) (by simp) ?_
   refine aC rfl (fun K hK => ?_) aN
   go_simp
   refine (jfl x.A x.n x.c x.x _ (TX.out (by trivial)).1 (TX.out (by trivial)).2).mono ?_
   rw [HTX.out]
   rintro e w9 ⟨rfl, b9⟩
   replace KW := jaa KW b9
   clear b9
   generalize w9 = wz at *
   go_wp2_with fail
   refine hK.out _ _ (by (try dsimp only); exact hSS _ KW) (fun hH => ?_)
   clear hK K
   refine wR (rs := [3]) (by kernel_rfl) (by simp) ?_
   refine aC rfl (fun K hK => ?_) aN
   go_simp
   refine (jfl y.A y.n y.c y.x _ (TY.out (by trivial)).1 (TY.out (by trivial)).2).mono ?_
   rw [HTY.out]
   rintro e w9 ⟨rfl, b9⟩
   replace KW := jaa KW b9
   clear b9
   generalize w9 = wz at *
   go_wp2_with fail
   refine hK.out _ _ (by (try dsimp only); exact hSS _ KW) (fun hH => ?_)
   clear hK K
   refine wR (rs := [4]) (by kernel_rfl) (by simp) ?_
   refine aC rfl (fun K hK => ?_) aN
   go_simp
   refine (je1 tx ty _).mono ?_
   rw [HCF.out]
   rintro e w' ⟨rfl, rfl⟩
   go_wp2_with fail
   refine hK.out _ _ (by (try dsimp only); exact hSS _ KW) (fun hH => ?_)
   clear hK K
   refine wQ 5 ?_
   refine wD (by kernel_rfl) ?_ _
   go_wp2_with fail
   go_ret
   rw [HR.out]
   exact ⟨rfl, jaa K0 KW⟩
  ·have e1 : (sy == 0) = false := beq_eq_false_iff_ne.2 h1
   have HR := Lib.hid (show cfK cs limit x y = jn0 0 sy by rw [HR0.out, if_neg (fun h => h1 h.2)])
   go_wp2_with (go_at_call 182; refine (je1 _ _ _).mono ?_; rintro e w' ⟨rfl, rfl⟩)
   go_ret
   rw [HR.out]
   exact ⟨rfl, jaa K0 KW⟩
 ·have e0 : (sx == 0) = false := beq_eq_false_iff_ne.2 h0
  have HR := Lib.hid (show cfK cs limit x y = jn0 sx sy by rw [HR0.out, if_neg (fun h => h0 h.1)])
  go_wp2_with (go_at_call 182; refine (je1 _ _ _).mono ?_; rintro e w' ⟨rfl, rfl⟩)
  go_ret
  rw [HR.out]
  exact ⟨rfl, jaa K0 KW⟩
theorem jkg (x y : RunH) (B : Option Addr) (m e : Nat) (cs : List Int) (limit : Int) (w : World) (hx : Sees w 0 2 x.A x.n (x.x.punches.flatMap Punch.enc) ∧ x.n ≤ 1048576 ∧ x.n ≤ x.c ∧ jd3 x.x = true) (hz : Sees w 0 2 y.A y.n (y.x.punches.flatMap Punch.enc) ∧ y.n ≤ 1048576 ∧ y.n ≤ y.c ∧ jd3 y.x = true) (hy : Sees w 0 1 B m (jb4 cs)) (hm : m ≤ 1048576) :
  Calls Tryz.prog 125 #[.agg #[x.x.runner, x.x.started, x.x.out, x.x.number, x.x.start, x.x.finish, .slice x.A x.n x.c], .agg #[y.x.runner, y.x.started, y.x.out, y.x.number, y.x.start, y.x.finish, .slice y.A y.n y.c], .slice B m e, .int .i64 limit] w fun e' w' => e' = .returned (.bool (jbt cs limit x y)) ∧ Below w.heap.size w w' := by
 obtain ⟨sx, hsx⟩ : ∃ s, jb0 x.x cs limit = s := ⟨_, rfl⟩
 obtain ⟨sy, hsy⟩ : ∃ s, jb0 y.x cs limit = s := ⟨_, rfl⟩
 obtain ⟨tx, htx⟩ : ∃ s, x.x.finish - x.x.start = s := ⟨_, rfl⟩
 obtain ⟨ty, hty⟩ : ∃ s, y.x.finish - y.x.start = s := ⟨_, rfl⟩
 have HR0 := Lib.hid (show jbt cs limit x y = (if sx = sy then (if sx = 0 ∧ ¬ tx = ty then decide (tx < ty) else decide (x.x.runner < y.x.runner)) else decide (sx < sy)) by unfold jbt; rw [hsx, hsy, htx, hty])
 have HSX := Lib.hid hsx
 have HSY := Lib.hid hsy
 have HTX := Lib.hid htx
 have HTY := Lib.hid hty
 have HLX := jhn x.x cs limit
 have HLY := jhn y.x cs limit
 rw [hsx] at HLX
 rw [hsy] at HLY
 have TX := Lib.hid (fun (h : sx = 0) => jkc hx.2.2.2 (jf4 (hsx.trans h)))
 have TY := Lib.hid (fun (h : sy = 0) => jkc hz.2.2.2 (jf4 (hsy.trans h)))
 clear hsx hsy htx hty
 have K0 := nB2 w (.cells #[x.x.runner, x.x.started, x.x.out, x.x.number, x.x.start, x.x.finish, .slice x.A x.n x.c] 160) (.cells #[y.x.runner, y.x.started, y.x.out, y.x.number, y.x.start, y.x.finish, .slice y.A y.n y.c] 160)
 have X0 := nPa w [x.x.runner, x.x.started, x.x.out, x.x.number, x.x.start, x.x.finish, .slice x.A x.n x.c] 160 (.cells #[y.x.runner, y.x.started, y.x.out, y.x.number, y.x.start, y.x.finish, .slice y.A y.n y.c] 160)
 have Y0 := nQ w (.cells #[x.x.runner, x.x.started, x.x.out, x.x.number, x.x.start, x.x.finish, .slice x.A x.n x.c] 160) [y.x.runner, y.x.started, y.x.out, y.x.number, y.x.start, y.x.finish, .slice y.A y.n y.c] 160
 go_enter Tryz.func125, Tryz.ntmps125
 go_upto_region 1 with fail
 generalize (w.alloc _).alloc _ = w1 at *
 have PX : Sees w1 0 2 x.A x.n (x.x.punches.flatMap Punch.enc) ∧ x.n ≤ 1048576 ∧ x.n ≤ x.c ∧ jd3 x.x = true := ⟨hx.1.below K0 (Nat.le_refl _), hx.2⟩
 have PY : Sees w1 0 2 y.A y.n (y.x.punches.flatMap Punch.enc) ∧ y.n ≤ 1048576 ∧ y.n ≤ y.c ∧ jd3 y.x = true := ⟨hz.1.below K0 (Nat.le_refl _), hz.2⟩
 replace hy := hy.below K0 (Nat.le_refl _)
 clear hx hz
 have hSS : ∀ w' : World, Below w1.heap.size w1 w' → w'.cell? ⟨w.heap.size, 0, none⟩ = some (.int .i64 x.x.runner) ∧ w'.cell? ⟨w.heap.size, 1, none⟩ = some (.bool x.x.started) ∧ w'.cell? ⟨w.heap.size, 2, none⟩ = some (.bool x.x.out) ∧ w'.cell? ⟨w.heap.size, 3, none⟩ = some (.int .i64 x.x.number) ∧ w'.cell? ⟨w.heap.size, 4, none⟩ = some (.int .i64 x.x.start) ∧ w'.cell? ⟨w.heap.size, 5, none⟩ = some (.int .i64 x.x.finish) ∧ w'.cell? ⟨w.heap.size, 6, none⟩ = some (.slice x.A x.n x.c) ∧ w'.cell? ⟨w.heap.size + 1, 0, none⟩ = some (.int .i64 y.x.runner) ∧ w'.cell? ⟨w.heap.size + 1, 1, none⟩ = some (.bool y.x.started) ∧ w'.cell? ⟨w.heap.size + 1, 2, none⟩ = some (.bool y.x.out) ∧ w'.cell? ⟨w.heap.size + 1, 3, none⟩ = some (.int .i64 y.x.number) ∧ w'.cell? ⟨w.heap.size + 1, 4, none⟩ = some (.int .i64 y.x.start) ∧ w'.cell? ⟨w.heap.size + 1, 5, none⟩ = some (.int .i64 y.x.finish) ∧ w'.cell? ⟨w.heap.size + 1, 6, none⟩ = some (.slice y.A y.n y.c) := fun w' h => ⟨(X0.next h).cell 0, (X0.next h).cell 1, (X0.next h).cell 2, (X0.next h).cell 3, (X0.next h).cell 4, (X0.next h).cell 5, (X0.next h).cell 6, (Y0.next h).cell 0, (Y0.next h).cell 1, (Y0.next h).cell 2, (Y0.next h).cell 3, (Y0.next h).cell 4, (Y0.next h).cell 5, (Y0.next h).cell 6⟩
 have KW := Below.refl w1.heap.size w1
 replace KW := jaa KW ((Quiet.one w1).below w1.heap.size)
 refine wp_region_held_drew (S := fun w' => w'.cell? ⟨w.heap.size, 0, none⟩ = some (.int .i64 x.x.runner) ∧ w'.cell? ⟨w.heap.size, 1, none⟩ = some (.bool x.x.started) ∧ w'.cell? ⟨w.heap.size, 2, none⟩ = some (.bool x.x.out) ∧ w'.cell? ⟨w.heap.size, 3, none⟩ = some (.int .i64 x.x.number) ∧ w'.cell? ⟨w.heap.size, 4, none⟩ = some (.int .i64 x.x.start) ∧ w'.cell? ⟨w.heap.size, 5, none⟩ = some (.int .i64 x.x.finish) ∧ w'.cell? ⟨w.heap.size, 6, none⟩ = some (.slice x.A x.n x.c) ∧ w'.cell? ⟨w.heap.size + 1, 0, none⟩ = some (.int .i64 y.x.runner) ∧ w'.cell? ⟨w.heap.size + 1, 1, none⟩ = some (.bool y.x.started) ∧ w'.cell? ⟨w.heap.size + 1, 2, none⟩ = some (.bool y.x.out) ∧ w'.cell? ⟨w.heap.size + 1, 3, none⟩ = some (.int .i64 y.x.number) ∧ w'.cell? ⟨w.heap.size + 1, 4, none⟩ = some (.int .i64 y.x.start) ∧ w'.cell? ⟨w.heap.size + 1, 5, none⟩ = some (.int .i64 y.x.finish) ∧ w'.cell? ⟨w.heap.size + 1, 6, none⟩ = some (.slice y.A y.n y.c)) (by kernel_rfl) (by (try dsimp only); exact hSS _ KW) (fun hH => ?_)
 generalize w1.drew = wz at *
 refine wQ 0 ?_
 refine wQ 1 ?_
 refine wQ 2 ?_
 refine wQ 4 ?_
 refine wQ 5 ?_
 refine wQ 6 ?_
 refine wR (rs := [3]) (by kernel_rfl) (by simp) ?_
 refine aC rfl (fun K hK => ?_) aN
 go_simp
 refine (jgd x.A x.n x.c x.x B m e cs limit _ (PX.1.next KW) PX.2.1 (hy.next KW) hm PX.2.2.2).mono ?_
 rw [HSX.out]
 rintro e w9 ⟨rfl, b9⟩
 replace KW := jaa KW b9
 clear b9
 generalize w9 = wz at *
 go_wp2_with fail
 refine hK.out _ _ (by (try dsimp only); exact hSS _ KW) (fun hH => ?_)
 clear hK K
 refine wR (rs := [7]) (by kernel_rfl) (by simp) ?_
 refine aC rfl (fun K hK => ?_) aN
 go_simp
 refine (jgd y.A y.n y.c y.x B m e cs limit _ (PY.1.next KW) PY.2.1 (hy.next KW) hm PY.2.2.2).mono ?_
 rw [HSY.out]
 rintro e w9 ⟨rfl, b9⟩
 replace KW := jaa KW b9
 clear b9
 generalize w9 = wz at *
 go_wp2_with fail
 refine hK.out _ _ (by (try dsimp only); exact hSS _ KW) (fun hH => ?_)
 clear hK K
 refine wQ 8 ?_
 refine wQ 9 ?_
 refine wD (by kernel_rfl) ?_ _
 by_cases hss : sx = sy
 ·subst hss
  by_cases h0 : sx = 0
  ·subst h0
   by_cases ht : tx = ty
   ·have et : (tx != ty) = false := by simp [ht]
    have HR := Lib.hid (show jbt cs limit x y = decide (x.x.runner < y.x.runner) by rw [HR0.out, if_pos rfl, if_neg (fun h => h.2 ht)])
    clear ht
    go_upto_region 4 with fail
    replace KW := jaa KW ((Quiet.one wz).below wz.heap.size)
    refine wp_region_held_drew (S := fun w' => w'.cell? ⟨w.heap.size, 0, none⟩ = some (.int .i64 x.x.runner) ∧ w'.cell? ⟨w.heap.size, 1, none⟩ = some (.bool x.x.started) ∧ w'.cell? ⟨w.heap.size, 2, none⟩ = some (.bool x.x.out) ∧ w'.cell? ⟨w.heap.size, 3, none⟩ = some (.int .i64 x.x.number) ∧ w'.cell? ⟨w.heap.size, 4, none⟩ = some (.int .i64 x.x.start) ∧ w'.cell? ⟨w.heap.size, 5, none⟩ = some (.int .i64 x.x.finish) ∧ w'.cell? ⟨w.heap.size, 6, none⟩ = some (.slice x.A x.n x.c) ∧ w'.cell? ⟨w.heap.size + 1, 0, none⟩ = some (.int .i64 y.x.runner) ∧ w'.cell? ⟨w.heap.size + 1, 1, none⟩ = some (.bool y.x.started) ∧ w'.cell? ⟨w.heap.size + 1, 2, none⟩ = some (.bool y.x.out) ∧ w'.cell? ⟨w.heap.size + 1, 3, none⟩ = some (.int .i64 y.x.number) ∧ w'.cell? ⟨w.heap.size + 1, 4, none⟩ = some (.int .i64 y.x.start) ∧ w'.cell? ⟨w.heap.size + 1, 5, none⟩ = some (.int .i64 y.x.finish) ∧ w'.cell? ⟨w.heap.size + 1, 6, none⟩ = some (.slice y.A y.n y.c)) (by kernel_rfl) (by (try dsimp only); exact hSS _ KW) (fun hH => ?_)
    generalize wz.drew = wz at *
    refine wQ 0 ?_
    refine wQ 1 ?_
    refine wQ 2 ?_
    refine wQ 3 ?_
    refine wQ 5 ?_
    refine wR (rs := [4]) (by kernel_rfl) (by simp) ?_
    refine aC rfl (fun K hK => ?_) aN
    go_simp
    refine (jcn x.A x.n x.c x.x _ (TX.out (by trivial)).1 (TX.out (by trivial)).2).mono ?_
    rw [HTX.out]
    rintro e w9 ⟨rfl, b9⟩
    replace KW := jaa KW b9
    clear b9
    generalize w9 = wz at *
    go_wp2_with fail
    refine hK.out _ _ (by (try dsimp only); exact hSS _ KW) (fun hH => ?_)
    clear hK K
    refine wR (rs := [6]) (by kernel_rfl) (by simp) ?_
    refine aC rfl (fun K hK => ?_) aN
    go_simp
    refine (jcn y.A y.n y.c y.x _ (TY.out (by trivial)).1 (TY.out (by trivial)).2).mono ?_
    rw [HTY.out]
    rintro e w9 ⟨rfl, b9⟩
    replace KW := jaa KW b9
    clear b9
    generalize w9 = wz at *
    go_wp2_with fail
    refine hK.out _ _ (by (try dsimp only); exact hSS _ KW) (fun hH => ?_)
    clear hK K
    refine wQ 7 ?_
    refine wQ 8 ?_
    refine wD (by kernel_rfl) ?_ _
    go_wp2_with fail
    have hq := hSS _ KW
    go_wp2_with fail
    go_ret
    rw [HR.out]
    exact ⟨rfl, jaa K0 KW⟩
   ·have et : (tx != ty) = true := by simp [ht]
    have HR := Lib.hid (show jbt cs limit x y = decide (tx < ty) by rw [HR0.out, if_pos rfl, if_pos ⟨rfl, ht⟩])
    clear ht
    go_upto_region 4 with fail
    replace KW := jaa KW ((Quiet.one wz).below wz.heap.size)
    refine wp_region_held_drew (S := fun w' => w'.cell? ⟨w.heap.size, 0, none⟩ = some (.int .i64 x.x.runner) ∧ w'.cell? ⟨w.heap.size, 1, none⟩ = some (.bool x.x.started) ∧ w'.cell? ⟨w.heap.size, 2, none⟩ = some (.bool x.x.out) ∧ w'.cell? ⟨w.heap.size, 3, none⟩ = some (.int .i64 x.x.number) ∧ w'.cell? ⟨w.heap.size, 4, none⟩ = some (.int .i64 x.x.start) ∧ w'.cell? ⟨w.heap.size, 5, none⟩ = some (.int .i64 x.x.finish) ∧ w'.cell? ⟨w.heap.size, 6, none⟩ = some (.slice x.A x.n x.c) ∧ w'.cell? ⟨w.heap.size + 1, 0, none⟩ = some (.int .i64 y.x.runner) ∧ w'.cell? ⟨w.heap.size + 1, 1, none⟩ = some (.bool y.x.started) ∧ w'.cell? ⟨w.heap.size + 1, 2, none⟩ = some (.bool y.x.out) ∧ w'.cell? ⟨w.heap.size + 1, 3, none⟩ = some (.int .i64 y.x.number) ∧ w'.cell? ⟨w.heap.size + 1, 4, none⟩ = some (.int .i64 y.x.start) ∧ w'.cell? ⟨w.heap.size + 1, 5, none⟩ = some (.int .i64 y.x.finish) ∧ w'.cell? ⟨w.heap.size + 1, 6, none⟩ = some (.slice y.A y.n y.c)) (by kernel_rfl) (by (try dsimp only); exact hSS _ KW) (fun hH => ?_)
    generalize wz.drew = wz at *
    refine wQ 0 ?_
    refine wQ 1 ?_
    refine wQ 2 ?_
    refine wQ 3 ?_
    refine wQ 5 ?_
    refine wR (rs := [4]) (by kernel_rfl) (by simp) ?_
    refine aC rfl (fun K hK => ?_) aN
    go_simp
    refine (jcn x.A x.n x.c x.x _ (TX.out (by trivial)).1 (TX.out (by trivial)).2).mono ?_
    rw [HTX.out]
    rintro e w9 ⟨rfl, b9⟩
    replace KW := jaa KW b9
    clear b9
    generalize w9 = wz at *
    go_wp2_with fail
    refine hK.out _ _ (by (try dsimp only); exact hSS _ KW) (fun hH => ?_)
    clear hK K
    refine wR (rs := [6]) (by kernel_rfl) (by simp) ?_
    refine aC rfl (fun K hK => ?_) aN
    go_simp
    refine (jcn y.A y.n y.c y.x _ (TY.out (by trivial)).1 (TY.out (by trivial)).2).mono ?_
    rw [HTY.out]
    rintro e w9 ⟨rfl, b9⟩
    replace KW := jaa KW b9
    clear b9
    generalize w9 = wz at *
    go_wp2_with fail
    refine hK.out _ _ (by (try dsimp only); exact hSS _ KW) (fun hH => ?_)
    clear hK K
    refine wQ 7 ?_
    refine wQ 8 ?_
    refine wD (by kernel_rfl) ?_ _
    go_upto_region 5 with fail
    replace KW := jaa KW ((Quiet.one wz).below wz.heap.size)
    refine wp_region_held_drew (S := fun w' => w'.cell? ⟨w.heap.size, 0, none⟩ = some (.int .i64 x.x.runner) ∧ w'.cell? ⟨w.heap.size, 1, none⟩ = some (.bool x.x.started) ∧ w'.cell? ⟨w.heap.size, 2, none⟩ = some (.bool x.x.out) ∧ w'.cell? ⟨w.heap.size, 3, none⟩ = some (.int .i64 x.x.number) ∧ w'.cell? ⟨w.heap.size, 4, none⟩ = some (.int .i64 x.x.start) ∧ w'.cell? ⟨w.heap.size, 5, none⟩ = some (.int .i64 x.x.finish) ∧ w'.cell? ⟨w.heap.size, 6, none⟩ = some (.slice x.A x.n x.c) ∧ w'.cell? ⟨w.heap.size + 1, 0, none⟩ = some (.int .i64 y.x.runner) ∧ w'.cell? ⟨w.heap.size + 1, 1, none⟩ = some (.bool y.x.started) ∧ w'.cell? ⟨w.heap.size + 1, 2, none⟩ = some (.bool y.x.out) ∧ w'.cell? ⟨w.heap.size + 1, 3, none⟩ = some (.int .i64 y.x.number) ∧ w'.cell? ⟨w.heap.size + 1, 4, none⟩ = some (.int .i64 y.x.start) ∧ w'.cell? ⟨w.heap.size + 1, 5, none⟩ = some (.int .i64 y.x.finish) ∧ w'.cell? ⟨w.heap.size + 1, 6, none⟩ = some (.slice y.A y.n y.c)) (by kernel_rfl) (by (try dsimp only); exact hSS _ KW) (fun hH => ?_)
    generalize wz.drew = wz at *
    refine wQ 0 ?_
    refine wQ 2 ?_
    refine wR (rs := [1]) (by kernel_rfl) (by simp) ?_
    refine aC rfl (fun K hK => ?_) aN
    go_simp
    refine (jcn x.A x.n x.c x.x _ (TX.out (by trivial)).1 (TX.out (by trivial)).2).mono ?_
    rw [HTX.out]
    rintro e w9 ⟨rfl, b9⟩
    replace KW := jaa KW b9
    clear b9
    generalize w9 = wz at *
    go_wp2_with fail
    refine hK.out _ _ (by (try dsimp only); exact hSS _ KW) (fun hH => ?_)
    clear hK K
    refine wR (rs := [3]) (by kernel_rfl) (by simp) ?_
    refine aC rfl (fun K hK => ?_) aN
    go_simp
    refine (jcn y.A y.n y.c y.x _ (TY.out (by trivial)).1 (TY.out (by trivial)).2).mono ?_
    rw [HTY.out]
    rintro e w9 ⟨rfl, b9⟩
    replace KW := jaa KW b9
    clear b9
    generalize w9 = wz at *
    go_wp2_with fail
    refine hK.out _ _ (by (try dsimp only); exact hSS _ KW) (fun hH => ?_)
    clear hK K
    refine wQ 4 ?_
    refine wQ 5 ?_
    refine wD (by kernel_rfl) ?_ _
    go_wp2_with fail
    go_ret
    rw [HR.out]
    exact ⟨rfl, jaa K0 KW⟩
  ·have e0 : (sx == 0) = false := beq_eq_false_iff_ne.2 h0
   have HR := Lib.hid (show jbt cs limit x y = decide (x.x.runner < y.x.runner) by rw [HR0.out, if_pos rfl, if_neg (fun h => h0 h.1)])
   go_upto_region 4 with fail
   replace KW := jaa KW ((Quiet.one wz).below wz.heap.size)
   refine wp_region_held_drew (S := fun w' => w'.cell? ⟨w.heap.size, 0, none⟩ = some (.int .i64 x.x.runner) ∧ w'.cell? ⟨w.heap.size, 1, none⟩ = some (.bool x.x.started) ∧ w'.cell? ⟨w.heap.size, 2, none⟩ = some (.bool x.x.out) ∧ w'.cell? ⟨w.heap.size, 3, none⟩ = some (.int .i64 x.x.number) ∧ w'.cell? ⟨w.heap.size, 4, none⟩ = some (.int .i64 x.x.start) ∧ w'.cell? ⟨w.heap.size, 5, none⟩ = some (.int .i64 x.x.finish) ∧ w'.cell? ⟨w.heap.size, 6, none⟩ = some (.slice x.A x.n x.c) ∧ w'.cell? ⟨w.heap.size + 1, 0, none⟩ = some (.int .i64 y.x.runner) ∧ w'.cell? ⟨w.heap.size + 1, 1, none⟩ = some (.bool y.x.started) ∧ w'.cell? ⟨w.heap.size + 1, 2, none⟩ = some (.bool y.x.out) ∧ w'.cell? ⟨w.heap.size + 1, 3, none⟩ = some (.int .i64 y.x.number) ∧ w'.cell? ⟨w.heap.size + 1, 4, none⟩ = some (.int .i64 y.x.start) ∧ w'.cell? ⟨w.heap.size + 1, 5, none⟩ = some (.int .i64 y.x.finish) ∧ w'.cell? ⟨w.heap.size + 1, 6, none⟩ = some (.slice y.A y.n y.c)) (by kernel_rfl) (by (try dsimp only); exact hSS _ KW) (fun hH => ?_)
   generalize wz.drew = wz at *
   refine wQ 0 ?_
   refine wQ 1 ?_
   refine wQ 2 ?_
   refine wU 3 ?_
   refine wU 4 ?_
   refine wU 5 ?_
   refine wU 6 ?_
   refine wU 7 ?_
   refine wQ 8 ?_
   refine wD (by kernel_rfl) ?_ _
   go_wp2_with fail
   have hq := hSS _ KW
   go_wp2_with fail
   go_ret
   rw [HR.out]
   exact ⟨rfl, jaa K0 KW⟩
 ·have es : (sx != sy) = true := by simp [hss]
  have HR := Lib.hid (show jbt cs limit x y = decide (sx < sy) by rw [HR0.out, if_neg hss])
  go_wp2_with fail
  go_ret
  rw [HR.out]
  exact ⟨rfl, jaa K0 KW⟩
end Go.Proofs.YtflpcdffmpfdpaaGreatDoor
