/- Joined texts of this proof: AskA. -/
import Derived.Test.YtflpcdffmpfdpaaGreatDoorP11
import Derived.Test.YtflpcdffmpfdpaaGreatDoorP21
namespace Go.Proofs.YtflpcdffmpfdpaaGreatDoor
open Go.RowKit

def stillM (r : RaceV) : Option (List Int) := if goodR r then some (inL r.field 1) else none
def stN (i : Int) (xs : List Entrant) : Int := ((xs.filter fun x => decide (x.state = i)).length : Nat)
theorem stN_snoc (i : Int) (xs : List Entrant) (x : Entrant) : stN i (xs ++ [x]) = if x.state = i then stN i xs + 1 else stN i xs := by
  unfold stN
  by_cases h : x.state = i <;> simp [List.filter_append, h]
theorem stN_le (i : Int) (xs : List Entrant) : 0 ≤ stN i xs ∧ stN i xs ≤ xs.length := by
  unfold stN
  have := List.length_filter_le (fun x : Entrant => decide (x.state = i)) xs
  omega
def stCounts (xs : List Entrant) : List Int := [stN 0 xs, stN 1 xs, stN 2 xs, stN 3 xs, stN 4 xs]
theorem stCounts_get (xs : List Entrant) (m : Nat) (hm : m < 5) : (ints (stCounts xs))[m]? = some (.int .i64 (stN m xs)) := by
  match m, hm with
  | 0, _ => rfl
  | 1, _ => rfl
  | 2, _ => rfl
  | 3, _ => rfl
  | 4, _ => rfl
theorem stCounts_next {xs : List Entrant} {k : Nat} (hk : k < xs.length) (m : Nat) (hm : m < 5) (h : xs[k].state = m) : ints (stCounts (xs.take (k + 1))) = (ints (stCounts (xs.take k))).set m (.int .i64 (stN m (xs.take k) + 1)) := by
  rw [List.take_succ_eq_append_getElem hk]
  simp only [stCounts, stN_snoc, h]
  match m, hm with
  | 0, _ => rfl
  | 1, _ => rfl
  | 2, _ => rfl
  | 3, _ => rfl
  | 4, _ => rfl
def countsM (r : RaceV) : Option (List Int) := if goodR r then some (stCounts r.field) else none
/-- code and time at which an entrant was seen last -/
def lastE (x : Entrant) : Option (Int × Int) :=
  if x.state = 1 ∨ x.state = 3 then match x.punches.getLast? with | some p => some (p.code, p.time) | none => some (0, x.start) else none
def lastM (r : RaceV) (e : Int) : Option (Int × Int) :=
  if goodR r && inB e 0 ((r.field.length : Int) - 1) then match r.field[e.toNat]? with | some x => lastE x | none => none else none
theorem entB_states {t : Int} {cl : Bool} {i : Nat} {x : Entrant} (h : entB t cl i x = true) : 0 ≤ x.state ∧ x.state ≤ 4 := by
  unfold entB at h
  by_cases h0 : x.state = 0
  · omega
  by_cases h4 : x.state = 4
  · omega
  rw [if_neg h0, if_neg h4] at h
  by_cases h1 : x.state = 1 ∨ x.state = 2 ∨ x.state = 3
  · omega
  · rw [if_neg h1] at h
    cases h

set_option maxRecDepth 100000 in
theorem StillOut_any (t : Int) (cl : Bool) (A : Option Addr) (n c : Nat) (xs : List Entrant) (w : World) (hx : SeesN entrantSh w 0 A n xs) (hn : n ≤ 1048576) (hi : ∀ x ∈ xs, x.cnt ≤ 1048576) :
    Calls Tryz.prog 134 #[.agg #[.int .i64 t, .bool cl, .slice A n c]] w (GivesInts w (stillM ⟨t, cl, xs⟩)) := by
  have K : Below w.heap.size w (w.alloc (.cells #[.int .i64 t, .bool cl, .slice A n c] 32)) := (Below.refl w.heap.size w).alloc (Nat.le_refl _) _
  have P : Blk (w.alloc (.cells #[.int .i64 t, .bool cl, .slice A n c] 32)) w.heap.size 32 [.int .i64 t, .bool cl, .slice A n c] := Blk.at_ rfl
  have z0 : w.heap.size + 1 ≤ (w.alloc (.cells #[.int .i64 t, .bool cl, .slice A n c] 32)).heap.size := by simp
  go_enter Tryz.func134, Tryz.ntmps134
  go_wp2_with fail
  generalize w.alloc (.cells #[.int .i64 t, .bool cl, .slice A n c] 32) = w1 at *
  refine (IsRace_any t cl A n c 0 xs w1 (hx.below K (Nat.le_refl _)) hn hi).mono ?_
  rintro e9 w2 ⟨rfl, b⟩
  replace K := bel_then K b
  have zz := b.size
  replace P := P.next b
  clear b
  obtain ⟨ok, hok⟩ : ∃ ok, raceB t cl xs = ok := ⟨_, rfl⟩
  have HOK := Lib.hid hok
  rw [hok]
  clear hok
  have pc := P.cell
  cases ok
  · have HR := Lib.hid (show stillM ⟨t, cl, xs⟩ = none by unfold stillM goodR; rw [show raceB (⟨t, cl, xs⟩ : RaceV).clock (⟨t, cl, xs⟩ : RaceV).closed (⟨t, cl, xs⟩ : RaceV).field = false from HOK.out]; rfl)
    go_wp2_with fail
    go_ret2
    rw [HR.out]
    exact gives_nil K
  · have HR := Lib.hid (show stillM ⟨t, cl, xs⟩ = some (inL xs 1) by unfold stillM goodR; rw [show raceB (⟨t, cl, xs⟩ : RaceV).clock (⟨t, cl, xs⟩ : RaceV).closed (⟨t, cl, xs⟩ : RaceV).field = true from HOK.out]; rfl)
    go_wp2_with fail
    refine (inState_any t cl A n c 0 xs 1 w2 (hx.below K (Nat.le_refl _)) hn).mono ?_
    rintro e9 w3 ⟨A9, c9, rfl, o9, b⟩
    go_wp2_with fail
    go_ret2
    rw [HR.out]
    exact ⟨A9, c9, rfl, own_base o9 K.size, bel_then K b⟩

set_option maxRecDepth 100000 in
theorem specStillOut_any (t : Int) (cl : Bool) (A : Option Addr) (n c : Nat) (xs : List Entrant) (w : World) (hx : SeesN entrantSh w 0 A n xs) (hn : n ≤ 1048576) (hi : ∀ x ∈ xs, x.cnt ≤ 1048576) :
    Calls Tryz.prog 122 #[.agg #[.int .i64 t, .bool cl, .slice A n c]] w (GivesInts w (stillM ⟨t, cl, xs⟩)) := by
  have K : Below w.heap.size w (w.alloc (.cells #[.int .i64 t, .bool cl, .slice A n c] 32)) := (Below.refl w.heap.size w).alloc (Nat.le_refl _) _
  have P : Blk (w.alloc (.cells #[.int .i64 t, .bool cl, .slice A n c] 32)) w.heap.size 32 [.int .i64 t, .bool cl, .slice A n c] := Blk.at_ rfl
  have z0 : w.heap.size + 1 ≤ (w.alloc (.cells #[.int .i64 t, .bool cl, .slice A n c] 32)).heap.size := by simp
  go_enter Tryz.func122, Tryz.ntmps122
  go_wp2_with fail
  generalize w.alloc (.cells #[.int .i64 t, .bool cl, .slice A n c] 32) = w1 at *
  refine (l21Good_any t cl A n c 0 xs w1 (hx.below K (Nat.le_refl _)) hn hi).mono ?_
  rintro e9 w2 ⟨rfl, b⟩
  replace K := bel_then K b
  have zz := b.size
  replace P := P.next b
  clear b
  obtain ⟨ok, hok⟩ : ∃ ok, raceB t cl xs = ok := ⟨_, rfl⟩
  have HOK := Lib.hid hok
  rw [hok]
  clear hok
  have pc := P.cell
  cases ok
  · have HR := Lib.hid (show stillM ⟨t, cl, xs⟩ = none by unfold stillM goodR; rw [show raceB (⟨t, cl, xs⟩ : RaceV).clock (⟨t, cl, xs⟩ : RaceV).closed (⟨t, cl, xs⟩ : RaceV).field = false from HOK.out]; rfl)
    go_wp2_with fail
    go_ret2
    rw [HR.out]
    exact gives_empty _ K
  · have HR := Lib.hid (show stillM ⟨t, cl, xs⟩ = some (inL xs 1) by unfold stillM goodR; rw [show raceB (⟨t, cl, xs⟩ : RaceV).clock (⟨t, cl, xs⟩ : RaceV).closed (⟨t, cl, xs⟩ : RaceV).field = true from HOK.out]; rfl)
    go_wp2_with fail
    refine (l21Out_any t cl A n c 0 xs w2 (hx.below K (Nat.le_refl _)) hn).mono ?_
    rintro e9 w3 ⟨A9, c9, rfl, o9, b⟩
    go_wp2_with fail
    go_ret2
    rw [HR.out]
    exact ⟨A9, c9, rfl, own_base o9 K.size, bel_then K b⟩

set_option maxRecDepth 100000 in
set_option maxHeartbeats 2000000 in
theorem StateCounts_any (t : Int) (cl : Bool) (A : Option Addr) (n c : Nat) (xs : List Entrant) (w : World) (hx : SeesN entrantSh w 0 A n xs) (hn : n ≤ 1048576) (hi : ∀ x ∈ xs, x.cnt ≤ 1048576) :
    Calls Tryz.prog 136 #[.agg #[.int .i64 t, .bool cl, .slice A n c]] w (GivesInts w (countsM ⟨t, cl, xs⟩)) := by
  have HLN := Lib.hid hx.count
  have hmk : ∀ w : World, (Instr.makeSlice 90 (.int .i64 5) (.int .i64 5)).run Tryz.prog w = .ok (.slice (some ⟨w.heap.size, 0, none⟩) 5 5) (w.alloc (.cells #[.int .i64 0, .int .i64 0, .int .i64 0, .int .i64 0, .int .i64 0] 3)) := fun w => make_ones (P := Tryz.prog) 5 Tryz.underlying90 info_int rfl (by omega) (by omega) w
  have K : Below w.heap.size w (w.alloc (.cells #[.int .i64 t, .bool cl, .slice A n c] 32)) := (Below.refl w.heap.size w).alloc (Nat.le_refl _) _
  have P : Blk (w.alloc (.cells #[.int .i64 t, .bool cl, .slice A n c] 32)) w.heap.size 32 [.int .i64 t, .bool cl, .slice A n c] := Blk.at_ rfl
  have z0 : w.heap.size + 1 ≤ (w.alloc (.cells #[.int .i64 t, .bool cl, .slice A n c] 32)).heap.size := by simp
  go_enter Tryz.func136, Tryz.ntmps136
  go_wp2_with fail
  generalize w.alloc (.cells #[.int .i64 t, .bool cl, .slice A n c] 32) = w1 at *
  refine (IsRace_any t cl A n c 0 xs w1 (hx.below K (Nat.le_refl _)) hn hi).mono ?_
  rintro e9 w2 ⟨rfl, b⟩
  replace K := bel_then K b
  have zz := b.size
  replace P := P.next b
  clear b
  obtain ⟨ok, hok⟩ : ∃ ok, raceB t cl xs = ok := ⟨_, rfl⟩
  have HOK := Lib.hid hok
  rw [hok]
  clear hok
  have pc := P.cell
  cases ok
  · have HR := Lib.hid (show countsM ⟨t, cl, xs⟩ = none by unfold countsM goodR; rw [show raceB (⟨t, cl, xs⟩ : RaceV).clock (⟨t, cl, xs⟩ : RaceV).closed (⟨t, cl, xs⟩ : RaceV).field = false from HOK.out]; rfl)
    go_wp2_with fail
    go_ret2
    rw [HR.out]
    exact gives_nil K
  obtain ⟨-, -, hn1, hn8, hen⟩ := raceB_facts HOK.out
  have hst : ∀ (i : Nat) (hi : i < xs.length), 0 ≤ xs[i].state ∧ xs[i].state ≤ 4 := fun i hi => entB_states (hen i hi)
  have hln : xs.length ≤ n := by rw [HLN.out]; exact Nat.le_refl _
  have hln2 : n ≤ xs.length := by rw [HLN.out]; exact Nat.le_refl _
  have HR := Lib.hid (show countsM ⟨t, cl, xs⟩ = some (stCounts xs) by unfold countsM goodR; rw [show raceB (⟨t, cl, xs⟩ : RaceV).clock (⟨t, cl, xs⟩ : RaceV).closed (⟨t, cl, xs⟩ : RaceV).field = true from HOK.out]; rfl)
  clear hen
  have zlt : w.heap.size < w2.heap.size := P.lt
  go_wp2_with fail
  have U : Below w2.heap.size w2 (w2.alloc (.cells #[.int .i64 0, .int .i64 0, .int .i64 0, .int .i64 0, .int .i64 0] 3)) := (Below.refl _ _).alloc (Nat.le_refl _) _
  have B1 : Blk (w2.alloc (.cells #[.int .i64 0, .int .i64 0, .int .i64 0, .int .i64 0, .int .i64 0] 3)) w2.heap.size 3 (ints (stCounts (xs.take 0))) := Blk.at_ rfl
  replace P := P.next U
  replace K := bel_then K U
  clear hmk U pc
  generalize w2.alloc (.cells #[.int .i64 0, .int .i64 0, .int .i64 0, .int .i64 0, .int .i64 0] 3) = w3 at *
  have hg1 : w1.heap.size ≤ w2.heap.size := zz
  generalize w2.heap.size = g at *
  go_loopw [14] (fun iv wr => ∃ (k : Nat), k ≤ n ∧ iv = .int .i64 (k : Int) ∧ Blk wr w.heap.size 32 [.int .i64 t, .bool cl, .slice A n c] ∧ Blk wr g 3 (ints (stCounts (xs.take k))) ∧ Below w.heap.size w wr) (fun iv _ => n - (intOf iv).toNat)
  case atStart => exact ⟨0, Nat.zero_le _, rfl, P, B1, K⟩
  case round =>
    clear P B1 K
    obtain ⟨k, hk, rfl, P, B1, K⟩ := hrel
    by_cases hlt : k < n
    · obtain ⟨b, off, B0, mc, cc0, rfl, hkx, y0, y1, y2, y3, y4, hxi⟩ := SeesEntrant.elem hx hlt
      have hbw : b < w.heap.size := World.block_lt_of_cell? w _ y0
      obtain ⟨m, hm, hm4⟩ : ∃ m : Nat, xs[k].state = m ∧ m < 5 := ⟨xs[k].state.toNat, by have := hst k hkx; omega, by have := hst k hkx; omega⟩
      have HC := Lib.hid (stCounts_next hkx m hm4 hm)
      have hle := stN_le m (xs.take k)
      have hlk : (xs.take k).length ≤ n := by simp; omega
      have hcell := (B1.cell m).trans (stCounts_get (xs.take k) m hm4)
      rw [hm] at y0
      obtain ⟨x, HX⟩ : ∃ x, Hid (xs[k] = x) := ⟨_, Lib.hid rfl⟩
      rw [HX.out] at y1 y2 y3
      have hm5 : (m : Int) < 5 := by omega
      have hlti : (k : Int) < (n : Int) := by omega
      have x0 := (K.cell (p := ⟨b, off + k * 5, none⟩) hbw).trans y0
      have x1 := (K.cell (p := ⟨b, off + k * 5 + 1, none⟩) hbw).trans y1
      have x2 := (K.cell (p := ⟨b, off + k * 5 + 2, none⟩) hbw).trans y2
      have x3 := (K.cell (p := ⟨b, off + k * 5 + 3, none⟩) hbw).trans y3
      have x4 := (K.cell (p := ⟨b, off + k * 5 + 4, none⟩) hbw).trans y4
      have hfz := B1.frozen m
      have hglt := B1.lt
      have pc := P.cell
      clear y0 y1 y2 y3 y4 hxi hm
      generalize hcn : stN m (xs.take k) = cn at *
      go_wp2_with fail
      go_roundw
      case rel => exact ⟨k + 1, by omega, by go_num, ((P.far (p := ⟨g, m, none⟩) (by show w.heap.size ≠ g; omega) _).alloc _), by rw [HC.out]; exact (B1.set_ m _).alloc _, (K.setCell (p := ⟨g, m, none⟩) (by show w.heap.size ≤ g; omega) _).alloc (by simp; exact K.size) _⟩
      case measure => simp [intOf]; omega
    · obtain rfl : k = n := by omega
      have hlti : ¬ (k : Int) < (k : Int) := by omega
      have hcs : xs.take k = xs := List.take_of_length_le (by omega)
      rw [hcs] at B1
      have pc := P.cell
      go_wp2_with fail
      go_ret2
      rw [HR.out]
      exact ⟨_, 5, rfl, own_shut (by omega) B1 rfl (Nat.le_refl 5) (by decide) rfl, K⟩

set_option maxRecDepth 100000 in
set_option maxHeartbeats 2000000 in
theorem specStateCounts_any (t : Int) (cl : Bool) (A : Option Addr) (n c : Nat) (xs : List Entrant) (w : World) (hx : SeesN entrantSh w 0 A n xs) (hn : n ≤ 1048576) (hi : ∀ x ∈ xs, x.cnt ≤ 1048576) :
    Calls Tryz.prog 123 #[.agg #[.int .i64 t, .bool cl, .slice A n c]] w (GivesInts w (countsM ⟨t, cl, xs⟩)) := by
  have HLN := Lib.hid hx.count
  have hmk : ∀ w : World, (Instr.makeSlice 90 (.int .i64 5) (.int .i64 5)).run Tryz.prog w = .ok (.slice (some ⟨w.heap.size, 0, none⟩) 5 5) (w.alloc (.cells #[.int .i64 0, .int .i64 0, .int .i64 0, .int .i64 0, .int .i64 0] 3)) := fun w => make_ones (P := Tryz.prog) 5 Tryz.underlying90 info_int rfl (by omega) (by omega) w
  have K : Below w.heap.size w (w.alloc (.cells #[.int .i64 t, .bool cl, .slice A n c] 32)) := (Below.refl w.heap.size w).alloc (Nat.le_refl _) _
  have P : Blk (w.alloc (.cells #[.int .i64 t, .bool cl, .slice A n c] 32)) w.heap.size 32 [.int .i64 t, .bool cl, .slice A n c] := Blk.at_ rfl
  have z0 : w.heap.size + 1 ≤ (w.alloc (.cells #[.int .i64 t, .bool cl, .slice A n c] 32)).heap.size := by simp
  go_enter Tryz.func123, Tryz.ntmps123
  go_wp2_with fail
  generalize w.alloc (.cells #[.int .i64 t, .bool cl, .slice A n c] 32) = w1 at *
  refine (l21Good_any t cl A n c 0 xs w1 (hx.below K (Nat.le_refl _)) hn hi).mono ?_
  rintro e9 w2 ⟨rfl, b⟩
  replace K := bel_then K b
  have zz := b.size
  replace P := P.next b
  clear b
  obtain ⟨ok, hok⟩ : ∃ ok, raceB t cl xs = ok := ⟨_, rfl⟩
  have HOK := Lib.hid hok
  rw [hok]
  clear hok
  have pc := P.cell
  cases ok
  · have HR := Lib.hid (show countsM ⟨t, cl, xs⟩ = none by unfold countsM goodR; rw [show raceB (⟨t, cl, xs⟩ : RaceV).clock (⟨t, cl, xs⟩ : RaceV).closed (⟨t, cl, xs⟩ : RaceV).field = false from HOK.out]; rfl)
    go_wp2_with fail
    go_ret2
    rw [HR.out]
    exact gives_empty _ K
  obtain ⟨-, -, hn1, hn8, hen⟩ := raceB_facts HOK.out
  have hst : ∀ (i : Nat) (hi : i < xs.length), 0 ≤ xs[i].state ∧ xs[i].state ≤ 4 := fun i hi => entB_states (hen i hi)
  have hln : xs.length ≤ n := by rw [HLN.out]; exact Nat.le_refl _
  have hln2 : n ≤ xs.length := by rw [HLN.out]; exact Nat.le_refl _
  have HR := Lib.hid (show countsM ⟨t, cl, xs⟩ = some (stCounts xs) by unfold countsM goodR; rw [show raceB (⟨t, cl, xs⟩ : RaceV).clock (⟨t, cl, xs⟩ : RaceV).closed (⟨t, cl, xs⟩ : RaceV).field = true from HOK.out]; rfl)
  clear hen
  have zlt : w.heap.size < w2.heap.size := P.lt
  go_wp2_with fail
  have U : Below w2.heap.size w2 (w2.alloc (.cells #[.int .i64 0, .int .i64 0, .int .i64 0, .int .i64 0, .int .i64 0] 3)) := (Below.refl _ _).alloc (Nat.le_refl _) _
  have B1 : Blk (w2.alloc (.cells #[.int .i64 0, .int .i64 0, .int .i64 0, .int .i64 0, .int .i64 0] 3)) w2.heap.size 3 (ints (stCounts (xs.take 0))) := Blk.at_ rfl
  replace P := P.next U
  replace K := bel_then K U
  clear hmk U pc
  generalize w2.alloc (.cells #[.int .i64 0, .int .i64 0, .int .i64 0, .int .i64 0, .int .i64 0] 3) = w3 at *
  have hg1 : w1.heap.size ≤ w2.heap.size := zz
  generalize w2.heap.size = g at *
  go_loopw [5, 6] (fun iv _ wr => ∃ (k : Nat), k ≤ n ∧ iv = .int .i64 (k : Int) ∧ Blk wr w.heap.size 32 [.int .i64 t, .bool cl, .slice A n c] ∧ Blk wr g 3 (ints (stCounts (xs.take k))) ∧ Below w.heap.size w wr) (fun iv _ _ => n - (intOf iv).toNat)
  case atStart => exact ⟨0, Nat.zero_le _, rfl, P, B1, K⟩
  case round =>
    clear P B1 K
    obtain ⟨k, hk, rfl, P, B1, K⟩ := hrel
    by_cases hlt : k < n
    · obtain ⟨b, off, B0, mc, cc0, rfl, hkx, y0, y1, y2, y3, y4, hxi⟩ := SeesEntrant.elem hx hlt
      have hbw : b < w.heap.size := World.block_lt_of_cell? w _ y0
      obtain ⟨m, hm, hm4⟩ : ∃ m : Nat, xs[k].state = m ∧ m < 5 := ⟨xs[k].state.toNat, by have := hst k hkx; omega, by have := hst k hkx; omega⟩
      have HC := Lib.hid (stCounts_next hkx m hm4 hm)
      have hle := stN_le m (xs.take k)
      have hlk : (xs.take k).length ≤ n := by simp; omega
      have hcell := (B1.cell m).trans (stCounts_get (xs.take k) m hm4)
      rw [hm] at y0
      obtain ⟨x, HX⟩ : ∃ x, Hid (xs[k] = x) := ⟨_, Lib.hid rfl⟩
      rw [HX.out] at y1 y2 y3
      have hm5 : (m : Int) < 5 := by omega
      have hlti : (k : Int) < (n : Int) := by omega
      have x0 := (K.cell (p := ⟨b, off + k * 5, none⟩) hbw).trans y0
      have x1 := (K.cell (p := ⟨b, off + k * 5 + 1, none⟩) hbw).trans y1
      have x2 := (K.cell (p := ⟨b, off + k * 5 + 2, none⟩) hbw).trans y2
      have x3 := (K.cell (p := ⟨b, off + k * 5 + 3, none⟩) hbw).trans y3
      have x4 := (K.cell (p := ⟨b, off + k * 5 + 4, none⟩) hbw).trans y4
      have hfz := B1.frozen m
      have hglt := B1.lt
      have pc := P.cell
      clear y0 y1 y2 y3 y4 hxi hm
      generalize hcn : stN m (xs.take k) = cn at *
      go_wp2_with fail
      go_roundw
      case rel => exact ⟨k + 1, by omega, by go_num, (P.far (p := ⟨g, m, none⟩) (by show w.heap.size ≠ g; omega) _), by rw [HC.out]; exact B1.set_ m _, K.setCell (p := ⟨g, m, none⟩) (by show w.heap.size ≤ g; omega) _⟩
      case measure => simp [intOf]; omega
    · obtain rfl : k = n := by omega
      have hlti : ¬ (k : Int) < (k : Int) := by omega
      have hcs : xs.take k = xs := List.take_of_length_le (by omega)
      rw [hcs] at B1
      have pc := P.cell
      go_wp2_with fail
      go_ret2
      rw [HR.out]
      exact ⟨_, 5, rfl, own_shut (by omega) B1 rfl (Nat.le_refl 5) (by decide) rfl, K⟩

set_option maxRecDepth 100000 in
set_option maxHeartbeats 4000000 in
theorem LastSeen_any (t : Int) (cl : Bool) (A : Option Addr) (n c : Nat) (xs : List Entrant) (e : Int) (w : World) (hx : SeesN entrantSh w 0 A n xs) (hn : n ≤ 1048576) (hi : ∀ x ∈ xs, x.cnt ≤ 1048576) :
    Calls Tryz.prog 138 #[.agg #[.int .i64 t, .bool cl, .slice A n c], .int .i64 e] w fun e' w' => e' = .returned (.tuple #[.int .i64 ((lastM ⟨t, cl, xs⟩ e).getD (0, 0)).1, .int .i64 ((lastM ⟨t, cl, xs⟩ e).getD (0, 0)).2, .bool (lastM ⟨t, cl, xs⟩ e).isSome]) ∧ Below w.heap.size w w' := by
  have HLN := Lib.hid hx.count
  have K : Below w.heap.size w (w.alloc (.cells #[.int .i64 t, .bool cl, .slice A n c] 32)) := (Below.refl w.heap.size w).alloc (Nat.le_refl _) _
  have P : Blk (w.alloc (.cells #[.int .i64 t, .bool cl, .slice A n c] 32)) w.heap.size 32 [.int .i64 t, .bool cl, .slice A n c] := Blk.at_ rfl
  have z0 : w.heap.size + 1 ≤ (w.alloc (.cells #[.int .i64 t, .bool cl, .slice A n c] 32)).heap.size := by simp
  go_enter Tryz.func138, Tryz.ntmps138
  go_wp2_with fail
  generalize w.alloc (.cells #[.int .i64 t, .bool cl, .slice A n c] 32) = w1 at *
  refine (IsRace_any t cl A n c 0 xs w1 (hx.below K (Nat.le_refl _)) hn hi).mono ?_
  rintro e9 w2 ⟨rfl, b⟩
  replace K := bel_then K b
  have zz := b.size
  replace P := P.next b
  clear b
  obtain ⟨ok, hok⟩ : ∃ ok, raceB t cl xs = ok := ⟨_, rfl⟩
  have HOK := Lib.hid hok
  rw [hok]
  clear hok
  have pc := P.cell
  cases ok
  · have HR := Lib.hid (show lastM ⟨t, cl, xs⟩ e = none by unfold lastM goodR; rw [show raceB (⟨t, cl, xs⟩ : RaceV).clock (⟨t, cl, xs⟩ : RaceV).closed (⟨t, cl, xs⟩ : RaceV).field = false from HOK.out]; rfl)
    go_wp2_with fail
    refine bodyPost_ret (results_tmp3 rfl _ _ _) rfl ?_
    rw [HR.out]
    exact ⟨rfl, K⟩
  obtain ⟨-, -, hn1, hn8, hen⟩ := raceB_facts HOK.out
  have hln : xs.length ≤ n := by rw [HLN.out]; exact Nat.le_refl _
  have hln2 : n ≤ xs.length := by rw [HLN.out]; exact Nat.le_refl _
  obtain ⟨ib, hib⟩ : ∃ ib, inB e 0 ((n : Int) - 1) = ib := ⟨_, rfl⟩
  have HIB := Lib.hid hib
  clear hib
  have HR0 := Lib.hid (show lastM ⟨t, cl, xs⟩ e = if ib then (match xs[e.toNat]? with | some x => lastE x | none => none) else none by
    unfold lastM goodR
    rw [show raceB (⟨t, cl, xs⟩ : RaceV).clock (⟨t, cl, xs⟩ : RaceV).closed (⟨t, cl, xs⟩ : RaceV).field = true from HOK.out, Bool.true_and]
    rw [show inB e 0 (((⟨t, cl, xs⟩ : RaceV).field.length : Int) - 1) = ib from by rw [show (⟨t, cl, xs⟩ : RaceV).field.length = n from HLN.out]; exact HIB.out])
  cases ib
  · have HR := Lib.hid (show lastM ⟨t, cl, xs⟩ e = none by rw [HR0.out]; rfl)
    go_wp2_with (go_at_call 70; refine (inside_any _ _ _ _).mono ?_; rw [HIB.out]; rintro e9 w9 ⟨rfl, rfl⟩)
    refine bodyPost_ret (results_tmp3 rfl _ _ _) rfl ?_
    rw [HR.out]
    exact ⟨rfl, K⟩
  have hin2 := HIB.out
  unfold inB at hin2
  simp only [Bool.and_eq_true, decide_eq_true_eq] at hin2
  obtain ⟨i, rfl⟩ : ∃ i : Nat, e = (i : Int) := ⟨e.toNat, by omega⟩
  have hix : i < n := by omega
  have hii : (i : Int) < (n : Int) := by omega
  clear hin2
  go_upto_region 3 with (go_at_call 70; refine (inside_any _ _ _ _).mono ?_; rw [HIB.out]; rintro e9 w9 ⟨rfl, rfl⟩)
  obtain ⟨w3, rfl⟩ : ∃ w' : World, w' = w2 := ⟨_, rfl⟩
  obtain ⟨b, off, B0, mc, cc0, rfl, hkx, y0, y1, y2, y3, y4, hxi⟩ := SeesEntrant.elem hx hix
  have hmb := entB_punches (hen i hkx)
  have hmc := hxi.count (by decide) (fun _ => rfl)
  have HR1 := Lib.hid (show lastM ⟨t, cl, xs⟩ (i : Int) = lastE xs[i] from HR0.out.trans (by rw [Int.toNat_natCast, List.getElem?_eq_getElem hkx]; rfl))
  obtain ⟨x, HX⟩ : ∃ x, Hid (xs[i] = x) := ⟨_, Lib.hid rfl⟩
  rw [HX.out] at y0 y1 y2 y3 hxi hmb hmc HR1
  have hbw : b < w.heap.size := World.block_lt_of_cell? w _ y0
  have x0 := (K.cell (p := ⟨b, off + i * 5, none⟩) hbw).trans y0
  have x1 := (K.cell (p := ⟨b, off + i * 5 + 1, none⟩) hbw).trans y1
  have x2 := (K.cell (p := ⟨b, off + i * 5 + 2, none⟩) hbw).trans y2
  have x3 := (K.cell (p := ⟨b, off + i * 5 + 3, none⟩) hbw).trans y3
  have x4 := (K.cell (p := ⟨b, off + i * 5 + 4, none⟩) hbw).trans y4
  have U : Below w3.heap.size w3 (w3.alloc (.cells #[.int .i64 x.state, .int .i64 x.number, .int .i64 x.start, .int .i64 x.finish, .slice B0 mc cc0] 108)) := (Below.refl _ _).alloc (Nat.le_refl _) _
  have E : Blk (w3.alloc (.cells #[.int .i64 x.state, .int .i64 x.number, .int .i64 x.start, .int .i64 x.finish, .slice B0 mc cc0] 108)) w3.heap.size 108 [.int .i64 x.state, .int .i64 x.number, .int .i64 x.start, .int .i64 x.finish, .slice B0 mc cc0] := Blk.at_ rfl
  replace K := bel_then K U
  have X := hxi.below K (Nat.le_refl _)
  have hm12 : mc ≤ 12 := by omega
  have HMC := Lib.hid hmc
  clear y0 y1 y2 y3 y4 hxi U hmc hmb P hen
  go_upto_region 4 with fail
  clear x0 x1 x2 x3 x4 pc
  generalize w3.alloc (.cells #[.int .i64 x.state, .int .i64 x.number, .int .i64 x.start, .int .i64 x.finish, .slice B0 mc cc0] 108) = w4 at *
  generalize w3.heap.size = ge at *
  have ec := E.cell
  by_cases st : x.state = 1 ∨ x.state = 3
  rotate_left 1
  · have f1 : (x.state != 1) = true := bne_iff_ne.2 (fun h => st (.inl h))
    have f2 : (x.state != 3) = true := bne_iff_ne.2 (fun h => st (.inr h))
    have HR := Lib.hid (show lastM ⟨t, cl, xs⟩ (i : Int) = none by rw [HR1.out]; unfold lastE; rw [if_neg st])
    clear st
    go_wp2_with fail
    refine bodyPost_ret (results_tmp3 rfl _ _ _) rfl ?_
    rw [HR.out]
    exact ⟨rfl, K⟩
  have HS := Lib.hid st
  by_cases m0 : mc = 0
  · subst m0
    have hnil : x.punches = [] := List.eq_nil_of_length_eq_zero HMC.out
    have HR := Lib.hid (show lastM ⟨t, cl, xs⟩ (i : Int) = some (0, x.start) by rw [HR1.out]; unfold lastE; rw [if_pos HS.out, hnil]; rfl)
    clear hnil
    rcases st with s1 | s1
    · have f1 : (x.state != 1) = false := by rw [s1]; rfl
      clear s1
      go_upto_region 9 with fail
      clear ec
      have E2 := E.quiet (Quiet.one w4)
      refine wp_region_held_drew (S := fun w' => w'.cell? ⟨ge, 1 + 1, none⟩ = some (.int .i64 x.start)) (by kernel_rfl) (by (try dsimp only); exact E2.cell (1 + 1)) (fun hH => ?_)
      refine wQ 0 ?_
      refine wQ 1 ?_
      refine wQ 2 ?_
      refine wQ 3 ?_
      refine wQ 4 ?_
      refine wQ 5 ?_
      refine wD (by kernel_rfl) ?_ _
      go_wp2_with fail
      refine bodyPost_ret (results_tmp3 rfl _ _ _) rfl ?_
      rw [HR.out]
      exact ⟨rfl, bel_quiet K (Quiet.one w4)⟩
    · have f1 : (x.state != 1) = true := bne_iff_ne.2 (by omega)
      have f2 : (x.state != 3) = false := by rw [s1]; rfl
      clear s1
      go_upto_region 9 with fail
      clear ec
      have E2 := E.quiet (Quiet.one w4)
      refine wp_region_held_drew (S := fun w' => w'.cell? ⟨ge, 1 + 1, none⟩ = some (.int .i64 x.start)) (by kernel_rfl) (by (try dsimp only); exact E2.cell (1 + 1)) (fun hH => ?_)
      refine wQ 0 ?_
      refine wQ 1 ?_
      refine wQ 2 ?_
      refine wQ 3 ?_
      refine wQ 4 ?_
      refine wQ 5 ?_
      refine wD (by kernel_rfl) ?_ _
      go_wp2_with fail
      refine bodyPost_ret (results_tmp3 rfl _ _ _) rfl ?_
      rw [HR.out]
      exact ⟨rfl, bel_quiet K (Quiet.one w4)⟩
  obtain ⟨q, rfl⟩ : ∃ q, mc = q + 1 := ⟨mc - 1, by omega⟩
  obtain ⟨bp, op, rfl, hqx, z1, z2⟩ := X.elem2 (fun _ => rfl) (show q < q + 1 by omega)
  have hlast : x.punches.getLast? = some x.punches[q] := by
    rw [List.getLast?_eq_getElem?, show x.punches.length - 1 = q by have := HMC.out; omega, List.getElem?_eq_getElem hqx]
  have HR := Lib.hid (show lastM ⟨t, cl, xs⟩ (i : Int) = some (x.punches[q].code, x.punches[q].time) by rw [HR1.out]; unfold lastE; rw [if_pos HS.out, hlast])
  obtain ⟨p, HP⟩ : ∃ p, Hid (x.punches[q] = p) := ⟨_, Lib.hid rfl⟩
  rw [HP.out] at z1 z2 HR
  clear hlast X
  have hbp := World.block_lt_of_cell? w4 _ z1
  rcases st with s1 | s1
  · have f1 : (x.state != 1) = false := by rw [s1]; rfl
    clear s1
    go_upto_region 8 with fail
    clear ec
    have hqi : (q : Int) < (q : Int) + 1 := by omega
    have E2 := E.quiet (Quiet.one w4)
    refine wp_region_held_drew (S := fun w' => w'.cell? ⟨ge, 1 + 3, none⟩ = some (.slice (some ⟨bp, op, none⟩) (q + 1) cc0) ∧ w'.cell? ⟨bp, op + q * 2, none⟩ = some (.int .i64 p.code) ∧ w'.cell? ⟨bp, op + q * 2 + 1, none⟩ = some (.int .i64 p.time)) (by kernel_rfl) (by (try dsimp only); exact ⟨E2.cell (1 + 3), z1, z2⟩) (fun hH => ?_)
    refine wQ 0 ?_
    refine wQ 1 ?_
    refine wQ 2 ?_
    refine wQ 3 ?_
    refine wQ 4 ?_
    refine wQ 5 ?_
    refine wQ 6 ?_
    refine wQ 7 ?_
    refine wQ 8 ?_
    refine wQ 9 ?_
    refine wQ 10 ?_
    refine wQ 11 ?_
    refine wQ 12 ?_
    refine wQ 13 ?_
    refine wQ 14 ?_
    refine wQ 15 ?_
    refine wQ 16 ?_
    refine wD (by kernel_rfl) ?_ _
    go_wp2_with fail
    refine bodyPost_ret (results_tmp3 rfl _ _ _) rfl ?_
    rw [HR.out]
    exact ⟨rfl, bel_quiet K (Quiet.one w4)⟩
  · have f1 : (x.state != 1) = true := bne_iff_ne.2 (by omega)
    have f2 : (x.state != 3) = false := by rw [s1]; rfl
    clear s1
    go_upto_region 8 with fail
    clear ec
    have hqi : (q : Int) < (q : Int) + 1 := by omega
    have E2 := E.quiet (Quiet.one w4)
    refine wp_region_held_drew (S := fun w' => w'.cell? ⟨ge, 1 + 3, none⟩ = some (.slice (some ⟨bp, op, none⟩) (q + 1) cc0) ∧ w'.cell? ⟨bp, op + q * 2, none⟩ = some (.int .i64 p.code) ∧ w'.cell? ⟨bp, op + q * 2 + 1, none⟩ = some (.int .i64 p.time)) (by kernel_rfl) (by (try dsimp only); exact ⟨E2.cell (1 + 3), z1, z2⟩) (fun hH => ?_)
    refine wQ 0 ?_
    refine wQ 1 ?_
    refine wQ 2 ?_
    refine wQ 3 ?_
    refine wQ 4 ?_
    refine wQ 5 ?_
    refine wQ 6 ?_
    refine wQ 7 ?_
    refine wQ 8 ?_
    refine wQ 9 ?_
    refine wQ 10 ?_
    refine wQ 11 ?_
    refine wQ 12 ?_
    refine wQ 13 ?_
    refine wQ 14 ?_
    refine wQ 15 ?_
    refine wQ 16 ?_
    refine wD (by kernel_rfl) ?_ _
    go_wp2_with fail
    refine bodyPost_ret (results_tmp3 rfl _ _ _) rfl ?_
    rw [HR.out]
    exact ⟨rfl, bel_quiet K (Quiet.one w4)⟩

set_option maxRecDepth 100000 in
set_option maxHeartbeats 4000000 in
theorem specLastSeen_any (t : Int) (cl : Bool) (A : Option Addr) (n c : Nat) (xs : List Entrant) (e : Int) (w : World) (hx : SeesN entrantSh w 0 A n xs) (hn : n ≤ 1048576) (hi : ∀ x ∈ xs, x.cnt ≤ 1048576) :
    Calls Tryz.prog 127 #[.agg #[.int .i64 t, .bool cl, .slice A n c], .int .i64 e] w fun e' w' => e' = .returned (.tuple #[.int .i64 ((lastM ⟨t, cl, xs⟩ e).getD (0, 0)).1, .int .i64 ((lastM ⟨t, cl, xs⟩ e).getD (0, 0)).2, .bool (lastM ⟨t, cl, xs⟩ e).isSome]) ∧ Below w.heap.size w w' := by
  have HLN := Lib.hid hx.count
  have K : Below w.heap.size w (w.alloc (.cells #[.int .i64 t, .bool cl, .slice A n c] 32)) := (Below.refl w.heap.size w).alloc (Nat.le_refl _) _
  have P : Blk (w.alloc (.cells #[.int .i64 t, .bool cl, .slice A n c] 32)) w.heap.size 32 [.int .i64 t, .bool cl, .slice A n c] := Blk.at_ rfl
  have z0 : w.heap.size + 1 ≤ (w.alloc (.cells #[.int .i64 t, .bool cl, .slice A n c] 32)).heap.size := by simp
  go_enter Tryz.func127, Tryz.ntmps127
  go_wp2_with fail
  generalize w.alloc (.cells #[.int .i64 t, .bool cl, .slice A n c] 32) = w1 at *
  refine (l21Good_any t cl A n c 0 xs w1 (hx.below K (Nat.le_refl _)) hn hi).mono ?_
  rintro e9 w2 ⟨rfl, b⟩
  replace K := bel_then K b
  have zz := b.size
  replace P := P.next b
  clear b
  obtain ⟨ok, hok⟩ : ∃ ok, raceB t cl xs = ok := ⟨_, rfl⟩
  have HOK := Lib.hid hok
  rw [hok]
  clear hok
  have pc := P.cell
  cases ok
  · have HR := Lib.hid (show lastM ⟨t, cl, xs⟩ e = none by unfold lastM goodR; rw [show raceB (⟨t, cl, xs⟩ : RaceV).clock (⟨t, cl, xs⟩ : RaceV).closed (⟨t, cl, xs⟩ : RaceV).field = false from HOK.out]; rfl)
    go_wp2_with fail
    refine bodyPost_ret (results_tmp3 rfl _ _ _) rfl ?_
    rw [HR.out]
    exact ⟨rfl, K⟩
  obtain ⟨-, -, hn1, hn8, hen⟩ := raceB_facts HOK.out
  have hln : xs.length ≤ n := by rw [HLN.out]; exact Nat.le_refl _
  have hln2 : n ≤ xs.length := by rw [HLN.out]; exact Nat.le_refl _
  obtain ⟨ib, hib⟩ : ∃ ib, inB e 0 ((n : Int) - 1) = ib := ⟨_, rfl⟩
  have HIB := Lib.hid hib
  clear hib
  have HR0 := Lib.hid (show lastM ⟨t, cl, xs⟩ e = if ib then (match xs[e.toNat]? with | some x => lastE x | none => none) else none by
    unfold lastM goodR
    rw [show raceB (⟨t, cl, xs⟩ : RaceV).clock (⟨t, cl, xs⟩ : RaceV).closed (⟨t, cl, xs⟩ : RaceV).field = true from HOK.out, Bool.true_and]
    rw [show inB e 0 (((⟨t, cl, xs⟩ : RaceV).field.length : Int) - 1) = ib from by rw [show (⟨t, cl, xs⟩ : RaceV).field.length = n from HLN.out]; exact HIB.out])
  cases ib
  · have HR := Lib.hid (show lastM ⟨t, cl, xs⟩ e = none by rw [HR0.out]; rfl)
    go_wp2_with (go_at_call 111; refine (l1In_any _ _ _ _).mono ?_; rw [HIB.out]; rintro e9 w9 ⟨rfl, rfl⟩)
    refine bodyPost_ret (results_tmp3 rfl _ _ _) rfl ?_
    rw [HR.out]
    exact ⟨rfl, K⟩
  have hin2 := HIB.out
  unfold inB at hin2
  simp only [Bool.and_eq_true, decide_eq_true_eq] at hin2
  obtain ⟨i, rfl⟩ : ∃ i : Nat, e = (i : Int) := ⟨e.toNat, by omega⟩
  have hix : i < n := by omega
  have hii : (i : Int) < (n : Int) := by omega
  clear hin2
  go_upto_region 3 with (go_at_call 111; refine (l1In_any _ _ _ _).mono ?_; rw [HIB.out]; rintro e9 w9 ⟨rfl, rfl⟩)
  obtain ⟨w3, rfl⟩ : ∃ w' : World, w' = w2 := ⟨_, rfl⟩
  obtain ⟨b, off, B0, mc, cc0, rfl, hkx, y0, y1, y2, y3, y4, hxi⟩ := SeesEntrant.elem hx hix
  have hmb := entB_punches (hen i hkx)
  have hmc := hxi.count (by decide) (fun _ => rfl)
  have HR1 := Lib.hid (show lastM ⟨t, cl, xs⟩ (i : Int) = lastE xs[i] from HR0.out.trans (by rw [Int.toNat_natCast, List.getElem?_eq_getElem hkx]; rfl))
  obtain ⟨x, HX⟩ : ∃ x, Hid (xs[i] = x) := ⟨_, Lib.hid rfl⟩
  rw [HX.out] at y0 y1 y2 y3 hxi hmb hmc HR1
  have hbw : b < w.heap.size := World.block_lt_of_cell? w _ y0
  have x0 := (K.cell (p := ⟨b, off + i * 5, none⟩) hbw).trans y0
  have x1 := (K.cell (p := ⟨b, off + i * 5 + 1, none⟩) hbw).trans y1
  have x2 := (K.cell (p := ⟨b, off + i * 5 + 2, none⟩) hbw).trans y2
  have x3 := (K.cell (p := ⟨b, off + i * 5 + 3, none⟩) hbw).trans y3
  have x4 := (K.cell (p := ⟨b, off + i * 5 + 4, none⟩) hbw).trans y4
  have U : Below w3.heap.size w3 (w3.alloc (.cells #[.int .i64 x.state, .int .i64 x.number, .int .i64 x.start, .int .i64 x.finish, .slice B0 mc cc0] 108)) := (Below.refl _ _).alloc (Nat.le_refl _) _
  have E : Blk (w3.alloc (.cells #[.int .i64 x.state, .int .i64 x.number, .int .i64 x.start, .int .i64 x.finish, .slice B0 mc cc0] 108)) w3.heap.size 108 [.int .i64 x.state, .int .i64 x.number, .int .i64 x.start, .int .i64 x.finish, .slice B0 mc cc0] := Blk.at_ rfl
  replace K := bel_then K U
  have X := hxi.below K (Nat.le_refl _)
  have hm12 : mc ≤ 12 := by omega
  have HMC := Lib.hid hmc
  clear y0 y1 y2 y3 y4 hxi U hmc hmb P hen
  go_upto_region 4 with fail
  clear x0 x1 x2 x3 x4 pc
  generalize w3.alloc (.cells #[.int .i64 x.state, .int .i64 x.number, .int .i64 x.start, .int .i64 x.finish, .slice B0 mc cc0] 108) = w4 at *
  generalize w3.heap.size = ge at *
  have ec := E.cell
  by_cases st : x.state = 1 ∨ x.state = 3
  rotate_left 1
  · have f1 : (x.state != 1) = true := bne_iff_ne.2 (fun h => st (.inl h))
    have f2 : (x.state != 3) = true := bne_iff_ne.2 (fun h => st (.inr h))
    have HR := Lib.hid (show lastM ⟨t, cl, xs⟩ (i : Int) = none by rw [HR1.out]; unfold lastE; rw [if_neg st])
    clear st
    go_wp2_with fail
    refine bodyPost_ret (results_tmp3 rfl _ _ _) rfl ?_
    rw [HR.out]
    exact ⟨rfl, K⟩
  have HS := Lib.hid st
  by_cases m0 : mc = 0
  · subst m0
    have hnil : x.punches = [] := List.eq_nil_of_length_eq_zero HMC.out
    have HR := Lib.hid (show lastM ⟨t, cl, xs⟩ (i : Int) = some (0, x.start) by rw [HR1.out]; unfold lastE; rw [if_pos HS.out, hnil]; rfl)
    clear hnil
    rcases st with s1 | s1
    · have f1 : (x.state != 1) = false := by rw [s1]; rfl
      clear s1
      go_upto_region 8 with fail
      clear ec
      have E2 := E.quiet (Quiet.one w4)
      refine wp_region_held_drew (S := fun w' => w'.cell? ⟨ge, 1 + 1, none⟩ = some (.int .i64 x.start)) (by kernel_rfl) (by (try dsimp only); exact E2.cell (1 + 1)) (fun hH => ?_)
      refine wQ 0 ?_
      refine wQ 1 ?_
      refine wQ 2 ?_
      refine wQ 3 ?_
      refine wQ 4 ?_
      refine wQ 5 ?_
      refine wD (by kernel_rfl) ?_ _
      go_wp2_with fail
      refine bodyPost_ret (results_tmp3 rfl _ _ _) rfl ?_
      rw [HR.out]
      exact ⟨rfl, bel_quiet K (Quiet.one w4)⟩
    · have f1 : (x.state != 1) = true := bne_iff_ne.2 (by omega)
      have f2 : (x.state != 3) = false := by rw [s1]; rfl
      clear s1
      go_upto_region 8 with fail
      clear ec
      have E2 := E.quiet (Quiet.one w4)
      refine wp_region_held_drew (S := fun w' => w'.cell? ⟨ge, 1 + 1, none⟩ = some (.int .i64 x.start)) (by kernel_rfl) (by (try dsimp only); exact E2.cell (1 + 1)) (fun hH => ?_)
      refine wQ 0 ?_
      refine wQ 1 ?_
      refine wQ 2 ?_
      refine wQ 3 ?_
      refine wQ 4 ?_
      refine wQ 5 ?_
      refine wD (by kernel_rfl) ?_ _
      go_wp2_with fail
      refine bodyPost_ret (results_tmp3 rfl _ _ _) rfl ?_
      rw [HR.out]
      exact ⟨rfl, bel_quiet K (Quiet.one w4)⟩
  obtain ⟨q, rfl⟩ : ∃ q, mc = q + 1 := ⟨mc - 1, by omega⟩
  obtain ⟨bp, op, rfl, hqx, z1, z2⟩ := X.elem2 (fun _ => rfl) (show q < q + 1 by omega)
  have hlast : x.punches.getLast? = some x.punches[q] := by
    rw [List.getLast?_eq_getElem?, show x.punches.length - 1 = q by have := HMC.out; omega, List.getElem?_eq_getElem hqx]
  have HR := Lib.hid (show lastM ⟨t, cl, xs⟩ (i : Int) = some (x.punches[q].code, x.punches[q].time) by rw [HR1.out]; unfold lastE; rw [if_pos HS.out, hlast])
  obtain ⟨p, HP⟩ : ∃ p, Hid (x.punches[q] = p) := ⟨_, Lib.hid rfl⟩
  rw [HP.out] at z1 z2 HR
  clear hlast X
  have hbp := World.block_lt_of_cell? w4 _ z1
  rcases st with s1 | s1
  · have f1 : (x.state != 1) = false := by rw [s1]; rfl
    clear s1
    go_upto_region 9 with fail
    clear ec
    have hqi : (q : Int) < (q : Int) + 1 := by omega
    have hqw : IntKind.i64.wrap (q : Int) = (q : Int) := IntWalk.i64_in _ (by omega)
    have E2 := E.quiet (Quiet.one w4)
    refine wp_region_held_drew (S := fun w' => w'.cell? ⟨ge, 1 + 3, none⟩ = some (.slice (some ⟨bp, op, none⟩) (q + 1) cc0) ∧ w'.cell? ⟨bp, op + q * 2, none⟩ = some (.int .i64 p.code) ∧ w'.cell? ⟨bp, op + q * 2 + 1, none⟩ = some (.int .i64 p.time)) (by kernel_rfl) (by (try dsimp only); exact ⟨E2.cell (1 + 3), z1, z2⟩) (fun hH => ?_)
    refine wQ 0 ?_
    refine wQ 1 ?_
    refine wQ 2 ?_
    refine wQ 3 ?_
    refine wQ 4 ?_
    refine wQ 5 ?_
    refine wQ 6 ?_
    refine wQ 7 ?_
    refine wQ 8 ?_
    refine wQ 9 ?_
    refine wQ 10 ?_
    refine wQ 11 ?_
    refine wQ 12 ?_
    refine wQ 13 ?_
    refine wQ 14 ?_
    refine wQ 15 ?_
    refine wQ 16 ?_
    refine wQ 17 ?_
    refine wQ 18 ?_
    refine wD (by kernel_rfl) ?_ _
    go_wp2_with fail
    refine bodyPost_ret (results_tmp3 rfl _ _ _) rfl ?_
    rw [HR.out]
    exact ⟨rfl, bel_quiet K (Quiet.one w4)⟩
  · have f1 : (x.state != 1) = true := bne_iff_ne.2 (by omega)
    have f2 : (x.state != 3) = false := by rw [s1]; rfl
    clear s1
    go_upto_region 9 with fail
    clear ec
    have hqi : (q : Int) < (q : Int) + 1 := by omega
    have hqw : IntKind.i64.wrap (q : Int) = (q : Int) := IntWalk.i64_in _ (by omega)
    have E2 := E.quiet (Quiet.one w4)
    refine wp_region_held_drew (S := fun w' => w'.cell? ⟨ge, 1 + 3, none⟩ = some (.slice (some ⟨bp, op, none⟩) (q + 1) cc0) ∧ w'.cell? ⟨bp, op + q * 2, none⟩ = some (.int .i64 p.code) ∧ w'.cell? ⟨bp, op + q * 2 + 1, none⟩ = some (.int .i64 p.time)) (by kernel_rfl) (by (try dsimp only); exact ⟨E2.cell (1 + 3), z1, z2⟩) (fun hH => ?_)
    refine wQ 0 ?_
    refine wQ 1 ?_
    refine wQ 2 ?_
    refine wQ 3 ?_
    refine wQ 4 ?_
    refine wQ 5 ?_
    refine wQ 6 ?_
    refine wQ 7 ?_
    refine wQ 8 ?_
    refine wQ 9 ?_
    refine wQ 10 ?_
    refine wQ 11 ?_
    refine wQ 12 ?_
    refine wQ 13 ?_
    refine wQ 14 ?_
    refine wQ 15 ?_
    refine wQ 16 ?_
    refine wQ 17 ?_
    refine wQ 18 ?_
    refine wD (by kernel_rfl) ?_ _
    go_wp2_with fail
    refine bodyPost_ret (results_tmp3 rfl _ _ _) rfl ?_
    rw [HR.out]
    exact ⟨rfl, bel_quiet K (Quiet.one w4)⟩

end Go.Proofs.YtflpcdffmpfdpaaGreatDoor
