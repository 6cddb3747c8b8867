/- Joined texts of this proof: AskA, Enc. -/
import Derived.Test.YtflpcdffmpfdpaaGreatDoorB09
import Derived.Test.YtflpcdffmpfdpaaGreatDoorB17
import Derived.Test.YtflpcdffmpfdpaaGreatDoorB12
set_option maxRecDepth 100000
set_option maxHeartbeats 8000000
namespace Go.Proofs.YtflpcdffmpfdpaaGreatDoor
open Go.RowKit
def jcw (r : RaceV) : Option (List Int) := if ja0 r then some (inL r.field 1) else none
def stN (i : Int) (xs : List Entrant) : Int := ((xs.filter fun x => decide (x.state = i)).length : Nat)
theorem jqg (i : Int) (xs : List Entrant) (x : Entrant) : stN i (xs ++ [x]) = if x.state = i then stN i xs + 1 else stN i xs := by
 unfold stN
 by_cases h : x.state = i <;> simp [List.filter_append, h]
theorem jot (i : Int) (xs : List Entrant) : 0 ≤ stN i xs ∧ stN i xs ≤ xs.length := by
 unfold stN
 have := List.length_filter_le (fun x : Entrant => decide (x.state = i)) xs
 omega
def jb7 (xs : List Entrant) : List Int := [stN 0 xs, stN 1 xs, stN 2 xs, stN 3 xs, stN 4 xs]
theorem jg6 (xs : List Entrant) (m : Nat) (hm : m < 5) : (jb4 (jb7 xs))[m]? = some (.int .i64 (stN m xs)) := by
 match m, hm with
 | 0, _ => rfl
 | 1, _ => rfl
 | 2, _ => rfl
 | 3, _ => rfl
 | 4, _ => rfl
theorem jf1 {xs : List Entrant} {k : Nat} (hk : k < xs.length) (m : Nat) (hm : m < 5) (h : xs[k].state = m) : jb4 (jb7 (xs.take (k + 1))) = (jb4 (jb7 (xs.take k))).set m (.int .i64 (stN m (xs.take k) + 1)) := by
 rw [List.take_succ_eq_append_getElem hk]
 simp only [jb7, jqg, h]
 match m, hm with
 | 0, _ => rfl
 | 1, _ => rfl
 | 2, _ => rfl
 | 3, _ => rfl
 | 4, _ => rfl
def jbw (r : RaceV) : Option (List Int) := if ja0 r then some (jb7 r.field) else none
def jgm (x : Entrant) : Option (Int × Int) :=
 if x.state = 1 ∨ x.state = 3 then match x.punches.getLast? with | some p => some (p.code, p.time) | none => some (0, x.start) else none
def jbz (r : RaceV) (e : Int) : Option (Int × Int) :=
 if ja0 r && inB e 0 ((r.field.length : Int) - 1) then match r.field[e.toNat]? with | some x => jgm x | none => none else none
theorem jim {t : Int} {cl : Bool} {i : Nat} {x : Entrant} (h : jcr t cl i x = true) : 0 ≤ x.state ∧ x.state ≤ 4 := by
 unfold jcr at h
 by_cases h0 : x.state = 0
 ·omega
 by_cases h4 : x.state = 4
 ·omega
 rw [if_neg h0, if_neg h4] at h
 by_cases h1 : x.state = 1 ∨ x.state = 2 ∨ x.state = 3
 ·omega
 ·rw [if_neg h1] at h
  cases h
theorem jlx (t : Int) (cl : Bool) (A : Option Addr) (n c : Nat) (xs : List Entrant) (w : World) (hx : SeesN entrantSh w 0 A n xs) (hn : n ≤ 1048576) (hi : ∀ x ∈ xs, x.cnt ≤ 1048576) :
  Calls Tryz.prog 134 #[.agg #[t, cl, .slice A n c]] w (jbj w (jcw ⟨t, cl, xs⟩)) := by
 have K := nB w (.cells #[t, cl, .slice A n c] 32)
 have P := nP w [t, cl, .slice A n c] 32
 have z0 := nZ w (.cells #[t, cl, .slice A n c] 32)
 go_enter Tryz.func134, Tryz.ntmps134
 go_wp2_with fail
 generalize w.alloc _ = w1 at *
 refine (jdm t cl A n c 0 xs w1 (hx.below K (Nat.le_refl _)) hn hi).mono ?_
 rintro e9 w2 ⟨rfl, b⟩
 replace K := jaa K b
 have zz := b.size
 replace P := P.next b
 clear b
 obtain ⟨ok, hok⟩ : ∃ ok, jbf t cl xs = ok := ⟨_, rfl⟩
 have HOK := Lib.hid hok
 rw [hok]
 clear hok
 have pc := P.cell
 cases ok
 ·have HR := Lib.hid (show jcw ⟨t, cl, xs⟩ = none by unfold jcw ja0; rw [show jbf (⟨t, cl, xs⟩ : RaceV).clock (⟨t, cl, xs⟩ : RaceV).closed (⟨t, cl, xs⟩ : RaceV).field = false from HOK.out]; rfl)
  go_wp2_with fail
  go_ret2
  rw [HR.out]
  exact jhw K
 ·have HR := Lib.hid (show jcw ⟨t, cl, xs⟩ = some (inL xs 1) by unfold jcw ja0; rw [show jbf (⟨t, cl, xs⟩ : RaceV).clock (⟨t, cl, xs⟩ : RaceV).closed (⟨t, cl, xs⟩ : RaceV).field = true from HOK.out]; rfl)
  go_wp2_with fail
  refine (jeg t cl A n c 0 xs 1 w2 (hx.below K (Nat.le_refl _)) hn).mono ?_
  rintro e9 w3 ⟨A9, c9, rfl, o9, b⟩
  go_wp2_with fail
  go_ret2
  rw [HR.out]
  exact ⟨A9, c9, rfl, jax o9 K.size, jaa K b⟩
theorem jha (t : Int) (cl : Bool) (A : Option Addr) (n c : Nat) (xs : List Entrant) (w : World) (hx : SeesN entrantSh w 0 A n xs) (hn : n ≤ 1048576) (hi : ∀ x ∈ xs, x.cnt ≤ 1048576) :
  Calls Tryz.prog 122 #[.agg #[t, cl, .slice A n c]] w (jbj w (jcw ⟨t, cl, xs⟩)) := by
 have K := nB w (.cells #[t, cl, .slice A n c] 32)
 have P := nP w [t, cl, .slice A n c] 32
 have z0 := nZ w (.cells #[t, cl, .slice A n c] 32)
 go_enter Tryz.func122, Tryz.ntmps122
 go_wp2_with fail
 generalize w.alloc _ = w1 at *
 refine (jcy t cl A n c 0 xs w1 (hx.below K (Nat.le_refl _)) hn hi).mono ?_
 rintro e9 w2 ⟨rfl, b⟩
 replace K := jaa K b
 have zz := b.size
 replace P := P.next b
 clear b
 obtain ⟨ok, hok⟩ : ∃ ok, jbf t cl xs = ok := ⟨_, rfl⟩
 have HOK := Lib.hid hok
 rw [hok]
 clear hok
 have pc := P.cell
 cases ok
 ·have HR := Lib.hid (show jcw ⟨t, cl, xs⟩ = none by unfold jcw ja0; rw [show jbf (⟨t, cl, xs⟩ : RaceV).clock (⟨t, cl, xs⟩ : RaceV).closed (⟨t, cl, xs⟩ : RaceV).field = false from HOK.out]; rfl)
  go_wp2_with fail
  go_ret2
  rw [HR.out]
  exact jiy _ K
 ·have HR := Lib.hid (show jcw ⟨t, cl, xs⟩ = some (inL xs 1) by unfold jcw ja0; rw [show jbf (⟨t, cl, xs⟩ : RaceV).clock (⟨t, cl, xs⟩ : RaceV).closed (⟨t, cl, xs⟩ : RaceV).field = true from HOK.out]; rfl)
  go_wp2_with fail
  refine (jgn t cl A n c 0 xs w2 (hx.below K (Nat.le_refl _)) hn).mono ?_
  rintro e9 w3 ⟨A9, c9, rfl, o9, b⟩
  go_wp2_with fail
  go_ret2
  rw [HR.out]
  exact ⟨A9, c9, rfl, jax o9 K.size, jaa K b⟩
theorem jh7 (t : Int) (cl : Bool) (A : Option Addr) (n c : Nat) (xs : List Entrant) (w : World) (hx : SeesN entrantSh w 0 A n xs) (hn : n ≤ 1048576) (hi : ∀ x ∈ xs, x.cnt ≤ 1048576) :
  Calls Tryz.prog 136 #[.agg #[t, cl, .slice A n c]] w (jbj w (jbw ⟨t, cl, xs⟩)) := by
 have HLN := Lib.hid hx.count
 have hmk : ∀ w : World, (Instr.makeSlice 90 (.int .i64 5) (.int .i64 5)).run Tryz.prog w = .ok (.slice (some ⟨w.heap.size, 0, none⟩) 5 5) (w.alloc (.cells #[.int .i64 0, .int .i64 0, .int .i64 0, .int .i64 0, .int .i64 0] 3)) := fun w => jme (P := Tryz.prog) 5 Tryz.underlying90 ja8 rfl (by omega) (by omega) w
 have K := nB w (.cells #[t, cl, .slice A n c] 32)
 have P := nP w [t, cl, .slice A n c] 32
 have z0 := nZ w (.cells #[t, cl, .slice A n c] 32)
 go_enter Tryz.func136, Tryz.ntmps136
 go_wp2_with fail
 generalize w.alloc _ = w1 at *
 refine (jdm t cl A n c 0 xs w1 (hx.below K (Nat.le_refl _)) hn hi).mono ?_
 rintro e9 w2 ⟨rfl, b⟩
 replace K := jaa K b
 have zz := b.size
 replace P := P.next b
 clear b
 obtain ⟨ok, hok⟩ : ∃ ok, jbf t cl xs = ok := ⟨_, rfl⟩
 have HOK := Lib.hid hok
 rw [hok]
 clear hok
 have pc := P.cell
 cases ok
 ·have HR := Lib.hid (show jbw ⟨t, cl, xs⟩ = none by unfold jbw ja0; rw [show jbf (⟨t, cl, xs⟩ : RaceV).clock (⟨t, cl, xs⟩ : RaceV).closed (⟨t, cl, xs⟩ : RaceV).field = false from HOK.out]; rfl)
  go_wp2_with fail
  go_ret2
  rw [HR.out]
  exact jhw K
 obtain ⟨-, -, hn1, hn8, hen⟩ := jam HOK.out
 have hst : ∀ (i : Nat) (hi : i < xs.length), 0 ≤ xs[i].state ∧ xs[i].state ≤ 4 := fun i hi => jim (hen i hi)
 have hln : xs.length ≤ n := by rw [HLN.out]; exact Nat.le_refl _
 have hln2 : n ≤ xs.length := by rw [HLN.out]; exact Nat.le_refl _
 have HR := Lib.hid (show jbw ⟨t, cl, xs⟩ = some (jb7 xs) by unfold jbw ja0; rw [show jbf (⟨t, cl, xs⟩ : RaceV).clock (⟨t, cl, xs⟩ : RaceV).closed (⟨t, cl, xs⟩ : RaceV).field = true from HOK.out]; rfl)
 clear hen
 have zlt : w.heap.size < w2.heap.size := P.lt
 go_wp2_with fail
 have U := nB w2 (.cells #[.int .i64 0, .int .i64 0, .int .i64 0, .int .i64 0, .int .i64 0] 3)
 have B1 : Blk (w2.alloc (.cells #[.int .i64 0, .int .i64 0, .int .i64 0, .int .i64 0, .int .i64 0] 3)) w2.heap.size 3 (jb4 (jb7 (xs.take 0))) := Blk.at_ rfl
 replace P := P.next U
 replace K := jaa K U
 clear hmk U pc
 generalize w2.alloc _ = w3 at *
 have hg1 : w1.heap.size ≤ w2.heap.size := zz
 generalize w2.heap.size = g at *
 go_loopw [14] (fun iv wr => ∃ (k : Nat), k ≤ n ∧ iv = .int .i64 (k : Int) ∧ Blk wr w.heap.size 32 [.int .i64 t, .bool cl, .slice A n c] ∧ Blk wr g 3 (jb4 (jb7 (xs.take k))) ∧ Below w.heap.size w wr) (fun iv _ => n - (intOf iv).toNat)
 case atStart => exact ⟨0, Nat.zero_le _, rfl, P, B1, K⟩
 case round =>
  clear P B1 K
  obtain ⟨k, hk, rfl, P, B1, K⟩ := hrel
  by_cases hlt : k < n
  ·obtain ⟨b, off, B0, mc, cc0, rfl, hkx, y0, y1, y2, y3, y4, hxi⟩ := SeesEntrant.elem hx hlt
   have hbw : b < w.heap.size := World.block_lt_of_cell? w _ y0
   obtain ⟨m, hm, hm4⟩ : ∃ m : Nat, xs[k].state = m ∧ m < 5 := ⟨xs[k].state.toNat, by have := hst k hkx; omega, by have := hst k hkx; omega⟩
   have HC := Lib.hid (jf1 hkx m hm4 hm)
   have hle := jot m (xs.take k)
   have hlk : (xs.take k).length ≤ n := by simp; omega
   have hcell := (B1.cell m).trans (jg6 (xs.take k) m hm4)
   rw [hm] at y0
   obtain ⟨x, HX⟩ : ∃ x, Hid (xs[k] = x) := ⟨_, Lib.hid rfl⟩
   rw [HX.out] at y1 y2 y3
   have hm5 : (m : Int) < 5 := by omega
   have hlti : (k : Int) < (n : Int) := by omega
   have x0 := (K.cell (p := ⟨b, off + k * 5, none⟩) hbw).trans y0
   have x1 := (K.cell (p := ⟨b, off + k * 5 + 1, none⟩) hbw).trans y1
   have x2 := (K.cell (p := ⟨b, off + k * 5 + 2, none⟩) hbw).trans y2
   have x3 := (K.cell (p := ⟨b, off + k * 5 + 3, none⟩) hbw).trans y3
   have x4 := (K.cell (p := ⟨b, off + k * 5 + 4, none⟩) hbw).trans y4
   have hfz := B1.frozen m
   have hglt := B1.lt
   have pc := P.cell
   clear y0 y1 y2 y3 y4 hxi hm
   generalize hcn : stN m (xs.take k) = cn at *
   go_wp2_with fail
   go_roundw
   case rel => exact ⟨k + 1, by omega, by go_num, ((P.far (p := ⟨g, m, none⟩) (by show w.heap.size ≠ g; omega) _).alloc _), by rw [HC.out]; exact (B1.set_ m _).alloc _, (K.setCell (p := ⟨g, m, none⟩) (by show w.heap.size ≤ g; omega) _).alloc (by simp; exact K.size) _⟩
   case measure => simp [intOf]; omega
  ·obtain rfl : k = n := by omega
   have hlti : ¬ (k : Int) < (k : Int) := by omega
   have hcs : xs.take k = xs := List.take_of_length_le (by omega)
   rw [hcs] at B1
   have pc := P.cell
   go_wp2_with fail
   go_ret2
   rw [HR.out]
   exact ⟨_, 5, rfl, jci (by omega) B1 rfl (Nat.le_refl 5) (by decide) rfl, K⟩
theorem jfs (t : Int) (cl : Bool) (A : Option Addr) (n c : Nat) (xs : List Entrant) (w : World) (hx : SeesN entrantSh w 0 A n xs) (hn : n ≤ 1048576) (hi : ∀ x ∈ xs, x.cnt ≤ 1048576) :
  Calls Tryz.prog 123 #[.agg #[t, cl, .slice A n c]] w (jbj w (jbw ⟨t, cl, xs⟩)) := by
 have HLN := Lib.hid hx.count
 have hmk : ∀ w : World, (Instr.makeSlice 90 (.int .i64 5) (.int .i64 5)).run Tryz.prog w = .ok (.slice (some ⟨w.heap.size, 0, none⟩) 5 5) (w.alloc (.cells #[.int .i64 0, .int .i64 0, .int .i64 0, .int .i64 0, .int .i64 0] 3)) := fun w => jme (P := Tryz.prog) 5 Tryz.underlying90 ja8 rfl (by omega) (by omega) w
 have K := nB w (.cells #[t, cl, .slice A n c] 32)
 have P := nP w [t, cl, .slice A n c] 32
 have z0 := nZ w (.cells #[t, cl, .slice A n c] 32)
 go_enter Tryz.func123, Tryz.ntmps123
 go_wp2_with fail
 generalize w.alloc _ = w1 at *
 refine (jcy t cl A n c 0 xs w1 (hx.below K (Nat.le_refl _)) hn hi).mono ?_
 rintro e9 w2 ⟨rfl, b⟩
 replace K := jaa K b
 have zz := b.size
 replace P := P.next b
 clear b
 obtain ⟨ok, hok⟩ : ∃ ok, jbf t cl xs = ok := ⟨_, rfl⟩
 have HOK := Lib.hid hok
 rw [hok]
 clear hok
 have pc := P.cell
 cases ok
 ·have HR := Lib.hid (show jbw ⟨t, cl, xs⟩ = none by unfold jbw ja0; rw [show jbf (⟨t, cl, xs⟩ : RaceV).clock (⟨t, cl, xs⟩ : RaceV).closed (⟨t, cl, xs⟩ : RaceV).field = false from HOK.out]; rfl)
  go_wp2_with fail
  go_ret2
  rw [HR.out]
  exact jiy _ K
 obtain ⟨-, -, hn1, hn8, hen⟩ := jam HOK.out
 have hst : ∀ (i : Nat) (hi : i < xs.length), 0 ≤ xs[i].state ∧ xs[i].state ≤ 4 := fun i hi => jim (hen i hi)
 have hln : xs.length ≤ n := by rw [HLN.out]; exact Nat.le_refl _
 have hln2 : n ≤ xs.length := by rw [HLN.out]; exact Nat.le_refl _
 have HR := Lib.hid (show jbw ⟨t, cl, xs⟩ = some (jb7 xs) by unfold jbw ja0; rw [show jbf (⟨t, cl, xs⟩ : RaceV).clock (⟨t, cl, xs⟩ : RaceV).closed (⟨t, cl, xs⟩ : RaceV).field = true from HOK.out]; rfl)
 clear hen
 have zlt : w.heap.size < w2.heap.size := P.lt
 go_wp2_with fail
 have U := nB w2 (.cells #[.int .i64 0, .int .i64 0, .int .i64 0, .int .i64 0, .int .i64 0] 3)
 have B1 : Blk (w2.alloc (.cells #[.int .i64 0, .int .i64 0, .int .i64 0, .int .i64 0, .int .i64 0] 3)) w2.heap.size 3 (jb4 (jb7 (xs.take 0))) := Blk.at_ rfl
 replace P := P.next U
 replace K := jaa K U
 clear hmk U pc
 generalize w2.alloc _ = w3 at *
 have hg1 : w1.heap.size ≤ w2.heap.size := zz
 generalize w2.heap.size = g at *
 go_loopw [5, 6] (fun iv _ wr => ∃ (k : Nat), k ≤ n ∧ iv = .int .i64 (k : Int) ∧ Blk wr w.heap.size 32 [.int .i64 t, .bool cl, .slice A n c] ∧ Blk wr g 3 (jb4 (jb7 (xs.take k))) ∧ Below w.heap.size w wr) (fun iv _ _ => n - (intOf iv).toNat)
 case atStart => exact ⟨0, Nat.zero_le _, rfl, P, B1, K⟩
 case round =>
  clear P B1 K
  obtain ⟨k, hk, rfl, P, B1, K⟩ := hrel
  by_cases hlt : k < n
  ·obtain ⟨b, off, B0, mc, cc0, rfl, hkx, y0, y1, y2, y3, y4, hxi⟩ := SeesEntrant.elem hx hlt
   have hbw : b < w.heap.size := World.block_lt_of_cell? w _ y0
   obtain ⟨m, hm, hm4⟩ : ∃ m : Nat, xs[k].state = m ∧ m < 5 := ⟨xs[k].state.toNat, by have := hst k hkx; omega, by have := hst k hkx; omega⟩
   have HC := Lib.hid (jf1 hkx m hm4 hm)
   have hle := jot m (xs.take k)
   have hlk : (xs.take k).length ≤ n := by simp; omega
   have hcell := (B1.cell m).trans (jg6 (xs.take k) m hm4)
   rw [hm] at y0
   obtain ⟨x, HX⟩ : ∃ x, Hid (xs[k] = x) := ⟨_, Lib.hid rfl⟩
   rw [HX.out] at y1 y2 y3
   have hm5 : (m : Int) < 5 := by omega
   have hlti : (k : Int) < (n : Int) := by omega
   have x0 := (K.cell (p := ⟨b, off + k * 5, none⟩) hbw).trans y0
   have x1 := (K.cell (p := ⟨b, off + k * 5 + 1, none⟩) hbw).trans y1
   have x2 := (K.cell (p := ⟨b, off + k * 5 + 2, none⟩) hbw).trans y2
   have x3 := (K.cell (p := ⟨b, off + k * 5 + 3, none⟩) hbw).trans y3
   have x4 := (K.cell (p := ⟨b, off + k * 5 + 4, none⟩) hbw).trans y4
   have hfz := B1.frozen m
   have hglt := B1.lt
   have pc := P.cell
   clear y0 y1 y2 y3 y4 hxi hm
   generalize hcn : stN m (xs.take k) = cn at *
   go_wp2_with fail
   go_roundw
   case rel => exact ⟨k + 1, by omega, by go_num, (P.far (p := ⟨g, m, none⟩) (by show w.heap.size ≠ g; omega) _), by rw [HC.out]; exact B1.set_ m _, K.setCell (p := ⟨g, m, none⟩) (by show w.heap.size ≤ g; omega) _⟩
   case measure => simp [intOf]; omega
  ·obtain rfl : k = n := by omega
   have hlti : ¬ (k : Int) < (k : Int) := by omega
   have hcs : xs.take k = xs := List.take_of_length_le (by omega)
   rw [hcs] at B1
   have pc := P.cell
   go_wp2_with fail
   go_ret2
   rw [HR.out]
   exact ⟨_, 5, rfl, jci (by omega) B1 rfl (Nat.le_refl 5) (by decide) rfl, K⟩
theorem jmd (t : Int) (cl : Bool) (A : Option Addr) (n c : Nat) (xs : List Entrant) (e : Int) (w : World) (hx : SeesN entrantSh w 0 A n xs) (hn : n ≤ 1048576) (hi : ∀ x ∈ xs, x.cnt ≤ 1048576) :
  Calls Tryz.prog 138 #[.agg #[t, cl, .slice A n c], .int .i64 e] w fun e' w' => e' = .returned (.tuple #[.int .i64 ((jbz ⟨t, cl, xs⟩ e).getD (0, 0)).1, .int .i64 ((jbz ⟨t, cl, xs⟩ e).getD (0, 0)).2, .bool (jbz ⟨t, cl, xs⟩ e).isSome]) ∧ Below w.heap.size w w' := by
 have HLN := Lib.hid hx.count
 have K := nB w (.cells #[t, cl, .slice A n c] 32)
 have P := nP w [t, cl, .slice A n c] 32
 have z0 := nZ w (.cells #[t, cl, .slice A n c] 32)
 go_enter Tryz.func138, Tryz.ntmps138
 go_wp2_with fail
 generalize w.alloc _ = w1 at *
 refine (jdm t cl A n c 0 xs w1 (hx.below K (Nat.le_refl _)) hn hi).mono ?_
 rintro e9 w2 ⟨rfl, b⟩
 replace K := jaa K b
 have zz := b.size
 replace P := P.next b
 clear b
 obtain ⟨ok, hok⟩ : ∃ ok, jbf t cl xs = ok := ⟨_, rfl⟩
 have HOK := Lib.hid hok
 rw [hok]
 clear hok
 have pc := P.cell
 cases ok
 ·have HR := Lib.hid (show jbz ⟨t, cl, xs⟩ e = none by unfold jbz ja0; rw [show jbf (⟨t, cl, xs⟩ : RaceV).clock (⟨t, cl, xs⟩ : RaceV).closed (⟨t, cl, xs⟩ : RaceV).field = false from HOK.out]; rfl)
  go_wp2_with fail
  refine bodyPost_ret (results_tmp3 rfl _ _ _) rfl ?_
  rw [HR.out]
  exact ⟨rfl, K⟩
 obtain ⟨-, -, hn1, hn8, hen⟩ := jam HOK.out
 have hln : xs.length ≤ n := by rw [HLN.out]; exact Nat.le_refl _
 have hln2 : n ≤ xs.length := by rw [HLN.out]; exact Nat.le_refl _
 obtain ⟨ib, hib⟩ : ∃ ib, inB e 0 ((n : Int) - 1) = ib := ⟨_, rfl⟩
 have HIB := Lib.hid hib
 clear hib
 have HR0 := Lib.hid (show jbz ⟨t, cl, xs⟩ e = if ib then (match xs[e.toNat]? with | some x => jgm x | none => none) else none by
  unfold jbz ja0
  rw [show jbf (⟨t, cl, xs⟩ : RaceV).clock (⟨t, cl, xs⟩ : RaceV).closed (⟨t, cl, xs⟩ : RaceV).field = true from HOK.out, Bool.true_and]
  rw [show inB e 0 (((⟨t, cl, xs⟩ : RaceV).field.length : Int) - 1) = ib from by rw [show (⟨t, cl, xs⟩ : RaceV).field.length = n from HLN.out]; exact HIB.out])
 cases ib
 ·have HR := Lib.hid (show jbz ⟨t, cl, xs⟩ e = none by rw [HR0.out]; rfl)
  go_wp2_with (go_at_call 70; refine (jaf _ _ _ _).mono ?_; rw [HIB.out]; rintro e9 w9 ⟨rfl, rfl⟩)
  refine bodyPost_ret (results_tmp3 rfl _ _ _) rfl ?_
  rw [HR.out]
  exact ⟨rfl, K⟩
 have hin2 := HIB.out
 unfold inB at hin2
 simp only [Bool.and_eq_true, decide_eq_true_eq] at hin2
 obtain ⟨i, rfl⟩ : ∃ i : Nat, e = (i : Int) := ⟨e.toNat, by omega⟩
 have hix : i < n := by omega
 have hii : (i : Int) < (n : Int) := by omega
 clear hin2
 go_upto_region 3 with (go_at_call 70; refine (jaf _ _ _ _).mono ?_; rw [HIB.out]; rintro e9 w9 ⟨rfl, rfl⟩)
 obtain ⟨w3, rfl⟩ : ∃ w' : World, w' = w2 := ⟨_, rfl⟩
 obtain ⟨b, off, B0, mc, cc0, rfl, hkx, y0, y1, y2, y3, y4, hxi⟩ := SeesEntrant.elem hx hix
 have hmb := jdy (hen i hkx)
 have hmc := hxi.count (by decide) (fun _ => rfl)
 have HR1 := Lib.hid (show jbz ⟨t, cl, xs⟩ (i : Int) = jgm xs[i] from HR0.out.trans (by rw [Int.toNat_natCast, List.getElem?_eq_getElem hkx]; rfl))
 obtain ⟨x, HX⟩ : ∃ x, Hid (xs[i] = x) := ⟨_, Lib.hid rfl⟩
 rw [HX.out] at y0 y1 y2 y3 hxi hmb hmc HR1
 have hbw : b < w.heap.size := World.block_lt_of_cell? w _ y0
 have x0 := (K.cell (p := ⟨b, off + i * 5, none⟩) hbw).trans y0
 have x1 := (K.cell (p := ⟨b, off + i * 5 + 1, none⟩) hbw).trans y1
 have x2 := (K.cell (p := ⟨b, off + i * 5 + 2, none⟩) hbw).trans y2
 have x3 := (K.cell (p := ⟨b, off + i * 5 + 3, none⟩) hbw).trans y3
 have x4 := (K.cell (p := ⟨b, off + i * 5 + 4, none⟩) hbw).trans y4
 have U := nB w3 (.cells #[x.state, x.number, x.start, x.finish, .slice B0 mc cc0] 108)
 have E := nP w3 [x.state, x.number, x.start, x.finish, .slice B0 mc cc0] 108
 replace K := jaa K U
 have X := hxi.below K (Nat.le_refl _)
 have hm12 : mc ≤ 12 := by omega
 have HMC := Lib.hid hmc
 clear y0 y1 y2 y3 y4 hxi U hmc hmb P hen
 go_upto_region 4 with fail
 clear x0 x1 x2 x3 x4 pc
 generalize w3.alloc _ = w4 at *
 generalize w3.heap.size = ge at *
 have ec := E.cell
 by_cases st : x.state = 1 ∨ x.state = 3
 rotate_left 1
 ·have f1 : (x.state != 1) = true := bne_iff_ne.2 (fun h => st (.inl h))
  have f2 : (x.state != 3) = true := bne_iff_ne.2 (fun h => st (.inr h))
  have HR := Lib.hid (show jbz ⟨t, cl, xs⟩ (i : Int) = none by rw [HR1.out]; unfold jgm; rw [if_neg st])
  clear st
  go_wp2_with fail
  refine bodyPost_ret (results_tmp3 rfl _ _ _) rfl ?_
  rw [HR.out]
  exact ⟨rfl, K⟩
 have HS := Lib.hid st
 by_cases m0 : mc = 0
 ·subst m0
  have hnil : x.punches = [] := List.eq_nil_of_length_eq_zero HMC.out
  have HR := Lib.hid (show jbz ⟨t, cl, xs⟩ (i : Int) = some (0, x.start) by rw [HR1.out]; unfold jgm; rw [if_pos HS.out, hnil]; rfl)
  clear hnil
  rcases st with s1 | s1
  ·have f1 : (x.state != 1) = false := by rw [s1]; rfl
   clear s1
   go_upto_region 9 with fail
   clear ec
   have E2 := E.quiet (Quiet.one w4)
   refine wp_region_held_drew (S := fun w' => w'.cell? ⟨ge, 1 + 1, none⟩ = some (.int .i64 x.start)) (by kernel_rfl) (by (try dsimp only); exact E2.cell (1 + 1)) (fun hH => ?_)
   refine wQ 0 ?_
   refine wQ 1 ?_
   refine wQ 2 ?_
   refine wQ 3 ?_
   refine wQ 4 ?_
   refine wQ 5 ?_
   refine wD (by kernel_rfl) ?_ _
   go_wp2_with fail
   refine bodyPost_ret (results_tmp3 rfl _ _ _) rfl ?_
   rw [HR.out]
   exact ⟨rfl, ja3 K (Quiet.one w4)⟩
  ·have f1 : (x.state != 1) = true := bne_iff_ne.2 (by omega)
   have f2 : (x.state != 3) = false := by rw [s1]; rfl
   clear s1
   go_upto_region 9 with fail
   clear ec
   have E2 := E.quiet (Quiet.one w4)
   refine wp_region_held_drew (S := fun w' => w'.cell? ⟨ge, 1 + 1, none⟩ = some (.int .i64 x.start)) (by kernel_rfl) (by (try dsimp only); exact E2.cell (1 + 1)) (fun hH => ?_)
   refine wQ 0 ?_
   refine wQ 1 ?_
   refine wQ 2 ?_
   refine wQ 3 ?_
   refine wQ 4 ?_
   refine wQ 5 ?_
   refine wD (by kernel_rfl) ?_ _
   go_wp2_with fail
   refine bodyPost_ret (results_tmp3 rfl _ _ _) rfl ?_
   rw [HR.out]
   exact ⟨rfl, ja3 K (Quiet.one w4)⟩
 obtain ⟨q, rfl⟩ : ∃ q, mc = q + 1 := ⟨mc - 1, by omega⟩
 obtain ⟨bp, op, rfl, hqx, z1, z2⟩ := X.elem2 (fun _ => rfl) (show q < q + 1 by omega)
 have hlast : x.punches.getLast? = some x.punches[q] := by
  rw [List.getLast?_eq_getElem?, show x.punches.length - 1 = q by have := HMC.out; omega, List.getElem?_eq_getElem hqx]
 have HR := Lib.hid (show jbz ⟨t, cl, xs⟩ (i : Int) = some (x.punches[q].code, x.punches[q].time) by rw [HR1.out]; unfold jgm; rw [if_pos HS.out, hlast])
 obtain ⟨p, HP⟩ : ∃ p, Hid (x.punches[q] = p) := ⟨_, Lib.hid rfl⟩
 rw [HP.out] at z1 z2 HR
 clear hlast X
 have hbp := World.block_lt_of_cell? w4 _ z1
 rcases st with s1 | s1
 ·have f1 : (x.state != 1) = false := by rw [s1]; rfl
  clear s1
  go_upto_region 8 with fail
  clear ec
  have hqi : (q : Int) < (q : Int) + 1 := by omega
  have E2 := E.quiet (Quiet.one w4)
  refine wp_region_held_drew (S := fun w' => w'.cell? ⟨ge, 1 + 3, none⟩ = some (.slice (some ⟨bp, op, none⟩) (q + 1) cc0) ∧ w'.cell? ⟨bp, op + q * 2, none⟩ = some (.int .i64 p.code) ∧ w'.cell? ⟨bp, op + q * 2 + 1, none⟩ = some (.int .i64 p.time)) (by kernel_rfl) (by (try dsimp only); exact ⟨E2.cell (1 + 3), z1, z2⟩) (fun hH => ?_)
  refine wQ 0 ?_
  refine wQ 1 ?_
  refine wQ 2 ?_
  refine wQ 3 ?_
  refine wQ 4 ?_
  refine wQ 5 ?_
  refine wQ 6 ?_
  refine wQ 7 ?_
  refine wQ 8 ?_
  refine wQ 9 ?_
  refine wQ 10 ?_
  refine wQ 11 ?_
  refine wQ 12 ?_
  refine wQ 13 ?_
  refine wQ 14 ?_
  refine wQ 15 ?_
  refine wQ 16 ?_
  refine wD (by kernel_rfl) ?_ _
  go_wp2_with fail
  refine bodyPost_ret (results_tmp3 rfl _ _ _) rfl ?_
  rw [HR.out]
  exact ⟨rfl, ja3 K (Quiet.one w4)⟩
 ·have f1 : (x.state != 1) = true := bne_iff_ne.2 (by omega)
  have f2 : (x.state != 3) = false := by rw [s1]; rfl
  clear s1
  go_upto_region 8 with fail
  clear ec
  have hqi : (q : Int) < (q : Int) + 1 := by omega
  have E2 := E.quiet (Quiet.one w4)
  refine wp_region_held_drew (S := fun w' => w'.cell? ⟨ge, 1 + 3, none⟩ = some (.slice (some ⟨bp, op, none⟩) (q + 1) cc0) ∧ w'.cell? ⟨bp, op + q * 2, none⟩ = some (.int .i64 p.code) ∧ w'.cell? ⟨bp, op + q * 2 + 1, none⟩ = some (.int .i64 p.time)) (by kernel_rfl) (by (try dsimp only); exact ⟨E2.cell (1 + 3), z1, z2⟩) (fun hH => ?_)
  refine wQ 0 ?_
  refine wQ 1 ?_
  refine wQ 2 ?_
  refine wQ 3 ?_
  refine wQ 4 ?_
  refine wQ 5 ?_
  refine wQ 6 ?_
  refine wQ 7 ?_
  refine wQ 8 ?_
  refine wQ 9 ?_
  refine wQ 10 ?_
  refine wQ 11 ?_
  refine wQ 12 ?_
  refine wQ 13 ?_
  refine wQ 14 ?_
  refine wQ 15 ?_
  refine wQ 16 ?_
  refine wD (by kernel_rfl) ?_ _
  go_wp2_with fail
  refine bodyPost_ret (results_tmp3 rfl _ _ _) rfl ?_
  rw [HR.out]
  exact ⟨rfl, ja3 K (Quiet.one w4)⟩
theorem jg9 (t : Int) (cl : Bool) (A : Option Addr) (n c : Nat) (xs : List Entrant) (e : Int) (w : World) (hx : SeesN entrantSh w 0 A n xs) (hn : n ≤ 1048576) (hi : ∀ x ∈ xs, x.cnt ≤ 1048576) :
  Calls Tryz.prog 127 #[.agg #[t, cl, .slice A n c], .int .i64 e] w fun e' w' => e' = .returned (.tuple #[.int .i64 ((jbz ⟨t, cl, xs⟩ e).getD (0, 0)).1, .int .i64 ((jbz ⟨t, cl, xs⟩ e).getD (0, 0)).2, .bool (jbz ⟨t, cl, xs⟩ e).isSome]) ∧ Below w.heap.size w w' := by
 have HLN := Lib.hid hx.count
 have K := nB w (.cells #[t, cl, .slice A n c] 32)
 have P := nP w [t, cl, .slice A n c] 32
 have z0 := nZ w (.cells #[t, cl, .slice A n c] 32)
 go_enter Tryz.func127, Tryz.ntmps127
 go_wp2_with fail
 generalize w.alloc _ = w1 at *
 refine (jcy t cl A n c 0 xs w1 (hx.below K (Nat.le_refl _)) hn hi).mono ?_
 rintro e9 w2 ⟨rfl, b⟩
 replace K := jaa K b
 have zz := b.size
 replace P := P.next b
 clear b
 obtain ⟨ok, hok⟩ : ∃ ok, jbf t cl xs = ok := ⟨_, rfl⟩
 have HOK := Lib.hid hok
 rw [hok]
 clear hok
 have pc := P.cell
 cases ok
 ·have HR := Lib.hid (show jbz ⟨t, cl, xs⟩ e = none by unfold jbz ja0; rw [show jbf (⟨t, cl, xs⟩ : RaceV).clock (⟨t, cl, xs⟩ : RaceV).closed (⟨t, cl, xs⟩ : RaceV).field = false from HOK.out]; rfl)
  go_wp2_with fail
  refine bodyPost_ret (results_tmp3 rfl _ _ _) rfl ?_
  rw [HR.out]
  exact ⟨rfl, K⟩
 obtain ⟨-, -, hn1, hn8, hen⟩ := jam HOK.out
 have hln : xs.length ≤ n := by rw [HLN.out]; exact Nat.le_refl _
 have hln2 : n ≤ xs.length := by rw [HLN.out]; exact Nat.le_refl _
 obtain ⟨ib, hib⟩ : ∃ ib, inB e 0 ((n : Int) - 1) = ib := ⟨_, rfl⟩
 have HIB := Lib.hid hib
 clear hib
 have HR0 := Lib.hid (show jbz ⟨t, cl, xs⟩ e = if ib then (match xs[e.toNat]? with | some x => jgm x | none => none) else none by
  unfold jbz ja0
  rw [show jbf (⟨t, cl, xs⟩ : RaceV).clock (⟨t, cl, xs⟩ : RaceV).closed (⟨t, cl, xs⟩ : RaceV).field = true from HOK.out, Bool.true_and]
  rw [show inB e 0 (((⟨t, cl, xs⟩ : RaceV).field.length : Int) - 1) = ib from by rw [show (⟨t, cl, xs⟩ : RaceV).field.length = n from HLN.out]; exact HIB.out])
 cases ib
 ·have HR := Lib.hid (show jbz ⟨t, cl, xs⟩ e = none by rw [HR0.out]; rfl)
  go_wp2_with (go_at_call 111; refine (jae _ _ _ _).mono ?_; rw [HIB.out]; rintro e9 w9 ⟨rfl, rfl⟩)
  refine bodyPost_ret (results_tmp3 rfl _ _ _) rfl ?_
  rw [HR.out]
  exact ⟨rfl, K⟩
 have hin2 := HIB.out
 unfold inB at hin2
 simp only [Bool.and_eq_true, decide_eq_true_eq] at hin2
 obtain ⟨i, rfl⟩ : ∃ i : Nat, e = (i : Int) := ⟨e.toNat, by omega⟩
 have hix : i < n := by omega
 have hii : (i : Int) < (n : Int) := by omega
 clear hin2
 go_upto_region 3 with (go_at_call 111; refine (jae _ _ _ _).mono ?_; rw [HIB.out]; rintro e9 w9 ⟨rfl, rfl⟩)
 obtain ⟨w3, rfl⟩ : ∃ w' : World, w' = w2 := ⟨_, rfl⟩
 obtain ⟨b, off, B0, mc, cc0, rfl, hkx, y0, y1, y2, y3, y4, hxi⟩ := SeesEntrant.elem hx hix
 have hmb := jdy (hen i hkx)
 have hmc := hxi.count (by decide) (fun _ => rfl)
 have HR1 := Lib.hid (show jbz ⟨t, cl, xs⟩ (i : Int) = jgm xs[i] from HR0.out.trans (by rw [Int.toNat_natCast, List.getElem?_eq_getElem hkx]; rfl))
 obtain ⟨x, HX⟩ : ∃ x, Hid (xs[i] = x) := ⟨_, Lib.hid rfl⟩
 rw [HX.out] at y0 y1 y2 y3 hxi hmb hmc HR1
 have hbw : b < w.heap.size := World.block_lt_of_cell? w _ y0
 have x0 := (K.cell (p := ⟨b, off + i * 5, none⟩) hbw).trans y0
 have x1 := (K.cell (p := ⟨b, off + i * 5 + 1, none⟩) hbw).trans y1
 have x2 := (K.cell (p := ⟨b, off + i * 5 + 2, none⟩) hbw).trans y2
 have x3 := (K.cell (p := ⟨b, off + i * 5 + 3, none⟩) hbw).trans y3
 have x4 := (K.cell (p := ⟨b, off + i * 5 + 4, none⟩) hbw).trans y4
 have U := nB w3 (.cells #[x.state, x.number, x.start, x.finish, .slice B0 mc cc0] 108)
 have E := nP w3 [x.state, x.number, x.start, x.finish, .slice B0 mc cc0] 108
 replace K := jaa K U
 have X := hxi.below K (Nat.le_refl _)
 have hm12 : mc ≤ 12 := by omega
 have HMC := Lib.hid hmc
 clear y0 y1 y2 y3 y4 hxi U hmc hmb P hen
 go_upto_region 4 with fail
 clear x0 x1 x2 x3 x4 pc
 generalize w3.alloc _ = w4 at *
 generalize w3.heap.size = ge at *
 have ec := E.cell
 by_cases st : x.state = 1 ∨ x.state = 3
 rotate_left 1
 ·have f1 : (x.state != 1) = true := bne_iff_ne.2 (fun h => st (.inl h))
  have f2 : (x.state != 3) = true := bne_iff_ne.2 (fun h => st (.inr h))
  have HR := Lib.hid (show jbz ⟨t, cl, xs⟩ (i : Int) = none by rw [HR1.out]; unfold jgm; rw [if_neg st])
  clear st
  go_wp2_with fail
  refine bodyPost_ret (results_tmp3 rfl _ _ _) rfl ?_
  rw [HR.out]
  exact ⟨rfl, K⟩
 have HS := Lib.hid st
 by_cases m0 : mc = 0
 ·subst m0
  have hnil : x.punches = [] := List.eq_nil_of_length_eq_zero HMC.out
  have HR := Lib.hid (show jbz ⟨t, cl, xs⟩ (i : Int) = some (0, x.start) by rw [HR1.out]; unfold jgm; rw [if_pos HS.out, hnil]; rfl)
  clear hnil
  rcases st with s1 | s1
  ·have f1 : (x.state != 1) = false := by rw [s1]; rfl
   clear s1
   go_upto_region 8 with fail
   clear ec
   have E2 := E.quiet (Quiet.one w4)
   refine wp_region_held_drew (S := fun w' => w'.cell? ⟨ge, 1 + 1, none⟩ = some (.int .i64 x.start)) (by kernel_rfl) (by (try dsimp only); exact E2.cell (1 + 1)) (fun hH => ?_)
   refine wQ 0 ?_
   refine wQ 1 ?_
   refine wQ 2 ?_
   refine wQ 3 ?_
   refine wQ 4 ?_
   refine wQ 5 ?_
   refine wD (by kernel_rfl) ?_ _
   go_wp2_with fail
   refine bodyPost_ret (results_tmp3 rfl _ _ _) rfl ?_
   rw [HR.out]
   exact ⟨rfl, ja3 K (Quiet.one w4)⟩
  ·have f1 : (x.state != 1) = true := bne_iff_ne.2 (by omega)
   have f2 : (x.state != 3) = false := by rw [s1]; rfl
   clear s1
   go_upto_region 8 with fail
   clear ec
   have E2 := E.quiet (Quiet.one w4)
   refine wp_region_held_drew (S := fun w' => w'.cell? ⟨ge, 1 + 1, none⟩ = some (.int .i64 x.start)) (by kernel_rfl) (by (try dsimp only); exact E2.cell (1 + 1)) (fun hH => ?_)
   refine wQ 0 ?_
   refine wQ 1 ?_
   refine wQ 2 ?_
   refine wQ 3 ?_
   refine wQ 4 ?_
   refine wQ 5 ?_
   refine wD (by kernel_rfl) ?_ _
   go_wp2_with fail
   refine bodyPost_ret (results_tmp3 rfl _ _ _) rfl ?_
   rw [HR.out]
   exact ⟨rfl, ja3 K (Quiet.one w4)⟩
 obtain ⟨q, rfl⟩ : ∃ q, mc = q + 1 := ⟨mc - 1, by omega⟩
 obtain ⟨bp, op, rfl, hqx, z1, z2⟩ := X.elem2 (fun _ => rfl) (show q < q + 1 by omega)
 have hlast : x.punches.getLast? = some x.punches[q] := by
  rw [List.getLast?_eq_getElem?, show x.punches.length - 1 = q by have := HMC.out; omega, List.getElem?_eq_getElem hqx]
 have HR := Lib.hid (show jbz ⟨t, cl, xs⟩ (i : Int) = some (x.punches[q].code, x.punches[q].time) by rw [HR1.out]; unfold jgm; rw [if_pos HS.out, hlast])
 obtain ⟨p, HP⟩ : ∃ p, Hid (x.punches[q] = p) := ⟨_, Lib.hid rfl⟩
 rw [HP.out] at z1 z2 HR
 clear hlast X
 have hbp := World.block_lt_of_cell? w4 _ z1
 rcases st with s1 | s1
 ·have f1 : (x.state != 1) = false := by rw [s1]; rfl
  clear s1
  go_upto_region 9 with fail
  clear ec
  have hqi : (q : Int) < (q : Int) + 1 := by omega
  have hqw : IntKind.i64.wrap (q : Int) = (q : Int) := IntWalk.i64_in _ (by omega)
  have E2 := E.quiet (Quiet.one w4)
  refine wp_region_held_drew (S := fun w' => w'.cell? ⟨ge, 1 + 3, none⟩ = some (.slice (some ⟨bp, op, none⟩) (q + 1) cc0) ∧ w'.cell? ⟨bp, op + q * 2, none⟩ = some (.int .i64 p.code) ∧ w'.cell? ⟨bp, op + q * 2 + 1, none⟩ = some (.int .i64 p.time)) (by kernel_rfl) (by (try dsimp only); exact ⟨E2.cell (1 + 3), z1, z2⟩) (fun hH => ?_)
  refine wQ 0 ?_
  refine wQ 1 ?_
  refine wQ 2 ?_
  refine wQ 3 ?_
  refine wQ 4 ?_
  refine wQ 5 ?_
  refine wQ 6 ?_
  refine wQ 7 ?_
  refine wQ 8 ?_
  refine wQ 9 ?_
  refine wQ 10 ?_
  refine wQ 11 ?_
  refine wQ 12 ?_
  refine wQ 13 ?_
  refine wQ 14 ?_
  refine wQ 15 ?_
  refine wQ 16 ?_
  refine wQ 17 ?_
  refine wQ 18 ?_
  refine wD (by kernel_rfl) ?_ _
  go_wp2_with fail
  refine bodyPost_ret (results_tmp3 rfl _ _ _) rfl ?_
  rw [HR.out]
  exact ⟨rfl, ja3 K (Quiet.one w4)⟩
 ·have f1 : (x.state != 1) = true := bne_iff_ne.2 (by omega)
  have f2 : (x.state != 3) = false := by rw [s1]; rfl
  clear s1
  go_upto_region 9 with fail
  clear ec
  have hqi : (q : Int) < (q : Int) + 1 := by omega
  have hqw : IntKind.i64.wrap (q : Int) = (q : Int) := IntWalk.i64_in _ (by omega)
  have E2 := E.quiet (Quiet.one w4)
  refine wp_region_held_drew (S := fun w' => w'.cell? ⟨ge, 1 + 3, none⟩ = some (.slice (some ⟨bp, op, none⟩) (q + 1) cc0) ∧ w'.cell? ⟨bp, op + q * 2, none⟩ = some (.int .i64 p.code) ∧ w'.cell? ⟨bp, op + q * 2 + 1, none⟩ = some (.int .i64 p.time)) (by kernel_rfl) (by (try dsimp only); exact ⟨E2.cell (1 + 3), z1, z2⟩) (fun hH => ?_)
  refine wQ 0 ?_
  refine wQ 1 ?_
  refine wQ 2 ?_
  refine wQ 3 ?_
  refine wQ 4 ?_
  refine wQ 5 ?_
  refine wQ 6 ?_
  refine wQ 7 ?_
  refine wQ 8 ?_
  refine wQ 9 ?_
  refine wQ 10 ?_
  refine wQ 11 ?_
  refine wQ 12 ?_
  refine wQ 13 ?_
  refine wQ 14 ?_
  refine wQ 15 ?_
  refine wQ 16 ?_
  refine wQ 17 ?_
  refine wQ 18 ?_
  refine wD (by kernel_rfl) ?_ _
  go_wp2_with fail
  refine bodyPost_ret (results_tmp3 rfl _ _ _) rfl ?_
  rw [HR.out]
  exact ⟨rfl, ja3 K (Quiet.one w4)⟩
theorem jeo (k : Nat) (e : LogRecord) (w : World) (hk : k < 100) (he : jgb e = true) (hg : Gl w) :
  Calls Tryz.prog 99 #[.int .i64 (k : Int), .agg #[e.command, e.reply]] w fun x w' => x = .returned (.string (jck k e)) ∧ Below w.heap.size w w' := by
 obtain ⟨⟨h1, h2⟩, h3, _⟩ := jdn he
 have hn := jcg k 2 (by omega) (by decide)
 have hs := jgr (jd9 k e)
 have hb := jie (k := k) he hk
 have HB := Lib.hid hb
 have HH := Lib.hid (jos (k := k) he)
 have HL := Lib.hid (show jck k e = jfz (jd9 k e) ++ ⟨#[10]⟩ from rfl)
 clear he
 go_enter Tryz.func99, Tryz.ntmps99
 go_wp2_with fail
 have K1 : Below w.heap.size w (w.alloc (.cells #[e.command, e.reply] 69)).drew := jaa ((Below.refl _ _).alloc (Nat.le_refl _) _) ((Quiet.one _).below _)
 have B1 : Blk (w.alloc (.cells #[e.command, e.reply] 69)).drew w.heap.size 69 [.string e.command, .string e.reply] := (Blk.at_ rfl : Blk (w.alloc (.cells #[e.command, e.reply] 69)) w.heap.size 69 [.string e.command, .string e.reply])
 have c1 := B1.cell
 have f1 : ¬ 9223372036854775807 < (jcf k).size + 1 := by omega
 have f2 : ¬ 9223372036854775807 < (jcf k).size + 1 + e.command.size := by omega
 have f3 : ¬ 9223372036854775807 < (jcf k).size + 1 + e.command.size + 1 := by omega
 have f4 : ¬ 9223372036854775807 < (jcf k).size + 1 + e.command.size + 1 + e.reply.size := by omega
 refine wp_region_held_drew (S := fun w' => w'.cell? ⟨w.heap.size, 0, none⟩ = some (.string e.command) ∧ w'.cell? ⟨w.heap.size, 1, none⟩ = some (.string e.reply)) (by kernel_rfl) (by (try dsimp only); go_keep) (fun hH => ?_)
 refine wQ 0 ?_
 refine wQ 3 ?_
 refine wQ 4 ?_
 refine wQ 7 ?_
 refine wQ 8 ?_
 refine wR (rs := [1]) (by kernel_rfl) (by simp) ?_
 refine aC rfl (fun K hK => ?_) aN
 go_simp
 refine (jns k _ (by omega) (hg.next K1)).mono ?_
 rintro e w2 ⟨rfl, b2⟩
 have K2 := jaa K1 b2
 have B2 := B1.next b2
 have c2 := B2.cell
 clear c1

 go_wp2_with fail
 refine hK.out _ _ (by (try dsimp only); go_keep) (fun hH => ?_)
 clear hK K
 refine wQ 2 ?_
 refine wQ 5 ?_
 refine wQ 6 ?_
 refine wQ 9 ?_
 refine wR (rs := [10]) (by kernel_rfl) (by simp) ?_
 refine aC rfl (fun K hK => ?_) aN
 go_simp
 refine (jf3 _ _ ?_ ?_ (hg.next K2)).mono ?_
 ·exact Nat.le_trans (HB.out) (by decide)
 ·exact HH.out
 rw [show jfz (jcf k ++ ⟨#[32]⟩ ++ e.command ++ ⟨#[64]⟩ ++ e.reply) = jfz (jd9 k e) from rfl]
 rintro e w3 ⟨rfl, b3⟩
 have K3 := jaa K2 b3
 have B3 := B2.next b3
 have c3 := B3.cell
 clear c2

 go_wp2_with fail
 refine hK.out _ _ (by (try dsimp only); go_keep) (fun hH => ?_)
 clear hK K
 refine wQ 11 ?_
 refine wQ 12 ?_
 refine wQ 13 ?_
 refine wQ 14 ?_
 refine wQ 15 ?_
 refine wD (by kernel_rfl) ?_ _
 go_wp2_with fail
 go_ret
 exact ⟨by rw [HL.out]; rfl, K3⟩
theorem jfn (k : Nat) (e : LogRecord) (w : World) (hk : k < 100) (he : jgb e = true) :
  Calls Tryz.prog 88 #[.int .i64 (k : Int), .agg #[e.command, e.reply]] w fun x w' => x = .returned (.string (jck k e)) ∧ Below w.heap.size w w' := by
 obtain ⟨⟨h1, h2⟩, h3, _⟩ := jdn he
 have hn := jcg k 2 (by omega) (by decide)
 have hs := jgr (jd9 k e)
 have hb := jie (k := k) he hk
 have HB := Lib.hid hb
 have HL := Lib.hid (show jck k e = jfz (jd9 k e) ++ ⟨#[10]⟩ from rfl)
 have fe : ¬ 9223372036854775807 < (jfz (jd9 k e)).size + 1 := by omega
 clear he
 go_enter Tryz.func88, Tryz.ntmps88
 go_wp2_with fail
 have K1 : Below w.heap.size w (w.alloc (.cells #[e.command, e.reply] 69)).drew := jaa ((Below.refl _ _).alloc (Nat.le_refl _) _) ((Quiet.one _).below _)
 have B1 : Blk (w.alloc (.cells #[e.command, e.reply] 69)).drew w.heap.size 69 [.string e.command, .string e.reply] := (Blk.at_ rfl : Blk (w.alloc (.cells #[e.command, e.reply] 69)) w.heap.size 69 [.string e.command, .string e.reply])
 have c1 := B1.cell
 have f1 : ¬ 9223372036854775807 < (jcf k).size + 1 := by omega
 have f2 : ¬ 9223372036854775807 < (jcf k).size + 1 + e.command.size := by omega
 have f3 : ¬ 9223372036854775807 < (jcf k).size + 1 + e.command.size + 1 := by omega
 have f4 : ¬ 9223372036854775807 < (jcf k).size + 1 + e.command.size + 1 + e.reply.size := by omega
 refine wp_region_held_drew (S := fun w' => w'.cell? ⟨w.heap.size, 0, none⟩ = some (.string e.command) ∧ w'.cell? ⟨w.heap.size, 1, none⟩ = some (.string e.reply)) (by kernel_rfl) (by (try dsimp only); go_keep) (fun hH => ?_)
 refine wQ 0 ?_
 refine wQ 3 ?_
 refine wQ 4 ?_
 refine wQ 7 ?_
 refine wQ 8 ?_
 refine wR (rs := [1]) (by kernel_rfl) (by simp) ?_
 refine aC rfl (fun K hK => ?_) aN
 go_simp
 refine (jes k _ (by omega)).mono ?_
 rintro e w2 ⟨rfl, q2⟩
 have b2 := q2.below w.heap.size
 have K2 := K1.trans b2
 have B2 := B1.quiet q2
 have c2 := B2.cell
 clear c1

 go_wp2_with fail
 refine hK.out _ _ (by (try dsimp only); go_keep) (fun hH => ?_)
 clear hK K
 refine wQ 2 ?_
 refine wQ 5 ?_
 refine wQ 6 ?_
 refine wQ 9 ?_
 refine wR (rs := [10]) (by kernel_rfl) (by simp) ?_
 refine aC rfl (fun K hK => ?_) aN
 go_simp
 refine (joo _ _ ?_).mono ?_
 ·exact Nat.le_trans (HB.out) (by decide)
 rw [show jfz (jcf k ++ ⟨#[32]⟩ ++ e.command ++ ⟨#[64]⟩ ++ e.reply) = jfz (jd9 k e) from rfl]
 rintro e w3 ⟨rfl, q3⟩
 have b3 := q3.below w.heap.size
 have K3 := K2.trans b3
 have B3 := B2.quiet q3
 have c3 := B3.cell
 clear c2

 go_wp2_with fail
 refine hK.out _ _ (by (try dsimp only); go_keep) (fun hH => ?_)
 clear hK K
 refine wQ 11 ?_
 refine wQ 12 ?_
 refine wD (by kernel_rfl) ?_ _
 go_wp2_with fail
 go_ret
 exact ⟨by rw [HL.out]; rfl, K3⟩
end Go.Proofs.YtflpcdffmpfdpaaGreatDoor
