/- LineCounts, as the program and as the reference have it. -/
import Derived.Test.YtbcblmbpjecilaaGreatDoorLines
import Derived.Test.YtbcblmbpjecilaaGreatDoorMake
namespace Go.Proofs.YtbcblmbpjecilaaGreatDoor
open Go.RowKit

def cntL (i : Int) (xs : List ReportLine) : Int := ((xs.filter fun x => decide (x.status = i)).length : Nat)
theorem cntL_snoc (i : Int) (xs : List ReportLine) (x : ReportLine) : cntL i (xs ++ [x]) = if x.status = i then cntL i xs + 1 else cntL i xs := by
  unfold cntL
  by_cases h : x.status = i <;> simp [List.filter_append, h]
theorem cntL_le (i : Int) (xs : List ReportLine) : 0 ≤ cntL i xs ∧ cntL i xs ≤ xs.length := by
  unfold cntL
  have := List.length_filter_le (fun x : ReportLine => decide (x.status = i)) xs
  omega
def countsL (xs : List ReportLine) : List Int := [cntL 0 xs, cntL 1 xs, cntL 2 xs, cntL 3 xs]
theorem countsL_len (xs : List ReportLine) : (countsL xs).length = 4 := rfl
theorem countsL_get (xs : List ReportLine) (m : Nat) (hm : m < 4) : (ints (countsL xs))[m]? = some (.int .i64 (cntL m xs)) := by
  match m, hm with
  | 0, _ => rfl
  | 1, _ => rfl
  | 2, _ => rfl
  | 3, _ => rfl
theorem countsL_snoc (xs : List ReportLine) (x : ReportLine) (m : Nat) (hm : m < 4) (h : x.status = m) : ints (countsL (xs ++ [x])) = (ints (countsL xs)).set m (.int .i64 (cntL m xs + 1)) := by
  simp only [countsL, cntL_snoc, h]
  match m, hm with
  | 0, _ => rfl
  | 1, _ => rfl
  | 2, _ => rfl
  | 3, _ => rfl
theorem countsL_next {xs : List ReportLine} {k : Nat} (hk : k < xs.length) (m : Nat) (hm : m < 4) (h : xs[k].status = m) : ints (countsL (xs.take (k + 1))) = (ints (countsL (xs.take k))).set m (.int .i64 (cntL m (xs.take k) + 1)) := by
  rw [List.take_succ_eq_append_getElem hk, countsL_snoc _ _ m hm h]
def lineCounts (xs : List ReportLine) : Option (List Int) := if linesB xs then some (countsL xs) else none
theorem lineCounts_len (xs : List ReportLine) : ((lineCounts xs).getD []).length ≤ 4 := by unfold lineCounts; split <;> simp [countsL]

set_option maxRecDepth 100000 in
set_option maxHeartbeats 1000000 in
theorem LineCounts_any (A : Option Addr) (n c : Nat) (xs : List ReportLine) (w : World) (hx : Sees w 0 4 A n (xs.flatMap ReportLine.enc)) (hn : n ≤ 1048576) (hnc : n ≤ c) (hs : ∀ x ∈ xs, x.upto 9223372036854775807) :
    Calls Tryz.prog 20 #[.slice A n c] w (GivesInts w (lineCounts xs)) := by
  have hl := hx.count (by decide) (fun _ => rfl)
  have hmk : ∀ w : World, (Instr.makeSlice 36 (.int .i64 4) (.int .i64 4)).run Tryz.prog w = .ok (.slice (some ⟨w.heap.size, 0, none⟩) 4 4) (w.alloc (.cells #[.int .i64 0, .int .i64 0, .int .i64 0, .int .i64 0] 3)) := fun w => make_ones (P := Tryz.prog) 4 Tryz.underlying36 info_int rfl (by omega) (by omega) w
  go_enter Tryz.func20, Tryz.ntmps20
  go_wp2_with fail
  refine (AreLines_any _ _ _ _ _ hx hn hnc hs).mono ?_
  cases g1 : linesB xs
  · rintro e w1 ⟨rfl, b1⟩
    go_wp2_with fail
    go_ret2
    rw [show lineCounts xs = none by simp [lineCounts, g1]]
    exact gives_nil b1
  · rintro e w1 ⟨rfl, b1⟩
    have hgd := (linesB_at g1)
    have hst : ∀ (k : Nat) (hk : k < xs.length), 0 ≤ xs[k].status ∧ xs[k].status ≤ 3 := fun k hk => lineB_status (hgd.2 k hk).1
    have h12 := hgd.1
    have HR : Hid (lineCounts xs = some (countsL xs)) := Lib.hid (by simp [lineCounts, g1])
    clear hgd g1
    go_wp2_with fail
    have B1 : Blk (w1.alloc (.cells #[.int .i64 0, .int .i64 0, .int .i64 0, .int .i64 0] 3)) w1.heap.size 3 (ints (countsL (xs.take 0))) := Blk.at_ rfl
    have K1 : Below w.heap.size w (w1.alloc (.cells #[.int .i64 0, .int .i64 0, .int .i64 0, .int .i64 0] 3)) := b1.alloc b1.size _
    have hw1 := b1.size
    clear hmk b1
    generalize w1.heap.size = g at *
    generalize w1.alloc (.cells #[.int .i64 0, .int .i64 0, .int .i64 0, .int .i64 0] 3) = w2 at *
    go_loopw [13] (fun i wr => ∃ (k : Nat), k ≤ n ∧ i = .int .i64 k ∧ Blk wr g 3 (ints (countsL (xs.take k))) ∧ Below w.heap.size w wr) (fun i _ => n - (intOf i).toNat)
    case atStart => exact ⟨0, Nat.zero_le _, rfl, B1, K1⟩
    case round =>
      obtain ⟨k, hk, rfl, hB, hb⟩ := hrel
      by_cases hlt : k < n
      · obtain ⟨b, off, rfl, hkx, x0, x1, x2, x3⟩ := (hx.next hb).elem4 (fun _ => rfl) hlt
        have hblt : b < wr.heap.size := World.block_lt_of_cell? wr _ x0
        obtain ⟨m, hm, hm4⟩ : ∃ m : Nat, xs[k].status = m ∧ m < 4 := ⟨xs[k].status.toNat, by have := hst k hkx; omega, by have := hst k hkx; omega⟩
        have hle := cntL_le m (xs.take k)
        have hln : (xs.take k).length ≤ n := by simp; omega
        have HC := Lib.hid (countsL_next hkx m hm4 hm)
        have hm4' : (m : Int) < 4 := by omega
        have hcell := (hB.cell m).trans (countsL_get (xs.take k) m hm4)
        have hfz := hB.frozen m
        have hglt := hB.lt
        rw [hm] at x2
        clear hst
        generalize hcn : cntL m (xs.take k) = cn at *
        go_wp2_with fail
        go_roundw
        case rel => exact ⟨k + 1, by omega, by go_num, by rw [HC.out]; exact (hB.set_ m _).alloc _, (hb.setCell (p := ⟨g, m, none⟩) hw1 _).alloc (by simp; exact hb.size) _⟩
        case measure => simp [intOf]; omega
      · obtain rfl : k = n := by omega
        have hcs : xs.take k = xs := List.take_of_length_le (by omega)
        rw [hcs] at hB
        go_wp2_with fail
        go_ret2
        rw [HR.out]
        exact ⟨_, 4, rfl, own_shut hw1 hB rfl (Nat.le_refl 4) (by decide) rfl, hb⟩

set_option maxRecDepth 100000 in
set_option maxHeartbeats 1000000 in
theorem specLineCounts_any (A : Option Addr) (n c : Nat) (xs : List ReportLine) (w : World) (hx : Sees w 0 4 A n (xs.flatMap ReportLine.enc)) (hn : n ≤ 1048576) (hs : ∀ x ∈ xs, x.upto 9223372036854775807) :
    Calls Tryz.prog 21 #[.slice A n c] w (GivesInts w (lineCounts xs)) := by
  have hl := hx.count (by decide) (fun _ => rfl)
  have hmk : ∀ w : World, (Instr.makeSlice 36 (.int .i64 4) (.int .i64 4)).run Tryz.prog w = .ok (.slice (some ⟨w.heap.size, 0, none⟩) 4 4) (w.alloc (.cells #[.int .i64 0, .int .i64 0, .int .i64 0, .int .i64 0] 3)) := fun w => make_ones (P := Tryz.prog) 4 Tryz.underlying36 info_int rfl (by omega) (by omega) w
  go_enter Tryz.func21, Tryz.ntmps21
  go_wp2_with fail
  refine (l26Good_any _ _ _ _ _ hx hn hs).mono ?_
  cases g1 : linesB xs
  · rintro e w1 ⟨rfl, b1⟩
    go_wp2_with fail
    go_ret2
    rw [show lineCounts xs = none by simp [lineCounts, g1]]
    exact gives_empty _ b1
  · rintro e w1 ⟨rfl, b1⟩
    have hgd := (linesB_at g1)
    have hst : ∀ (k : Nat) (hk : k < xs.length), 0 ≤ xs[k].status ∧ xs[k].status ≤ 3 := fun k hk => lineB_status (hgd.2 k hk).1
    have h12 := hgd.1
    have HR : Hid (lineCounts xs = some (countsL xs)) := Lib.hid (by simp [lineCounts, g1])
    clear hgd g1
    go_wp2_with fail
    have B1 : Blk (w1.alloc (.cells #[.int .i64 0, .int .i64 0, .int .i64 0, .int .i64 0] 3)) w1.heap.size 3 (ints (countsL (xs.take 0))) := Blk.at_ rfl
    have K1 : Below w.heap.size w (w1.alloc (.cells #[.int .i64 0, .int .i64 0, .int .i64 0, .int .i64 0] 3)) := b1.alloc b1.size _
    have hw1 := b1.size
    clear hmk b1
    generalize w1.heap.size = g at *
    generalize w1.alloc (.cells #[.int .i64 0, .int .i64 0, .int .i64 0, .int .i64 0] 3) = w2 at *
    go_loopw [5, 6] (fun i _ wr => ∃ (k : Nat), k ≤ n ∧ i = .int .i64 k ∧ Blk wr g 3 (ints (countsL (xs.take k))) ∧ Below w.heap.size w wr) (fun i _ _ => n - (intOf i).toNat)
    case atStart => exact ⟨0, Nat.zero_le _, rfl, B1, K1⟩
    case round =>
      obtain ⟨k, hk, rfl, hB, hb⟩ := hrel
      by_cases hlt : k < n
      · obtain ⟨b, off, rfl, hkx, x0, x1, x2, x3⟩ := (hx.next hb).elem4 (fun _ => rfl) hlt
        have hblt : b < wr.heap.size := World.block_lt_of_cell? wr _ x0
        obtain ⟨m, hm, hm4⟩ : ∃ m : Nat, xs[k].status = m ∧ m < 4 := ⟨xs[k].status.toNat, by have := hst k hkx; omega, by have := hst k hkx; omega⟩
        have hle := cntL_le m (xs.take k)
        have hln : (xs.take k).length ≤ n := by simp; omega
        have HC := Lib.hid (countsL_next hkx m hm4 hm)
        have hm4' : (m : Int) < 4 := by omega
        have hcell := (hB.cell m).trans (countsL_get (xs.take k) m hm4)
        have hfz := hB.frozen m
        have hglt := hB.lt
        rw [hm] at x2
        clear hst
        generalize hcn : cntL m (xs.take k) = cn at *
        go_wp2_with fail
        go_roundw
        case rel => exact ⟨k + 1, by omega, by go_num, by rw [HC.out]; exact hB.set_ m _, hb.setCell (p := ⟨g, m, none⟩) hw1 _⟩
        case measure => simp [intOf]; omega
      · obtain rfl : k = n := by omega
        have hcs : xs.take k = xs := List.take_of_length_le (by omega)
        rw [hcs] at hB
        go_wp2_with fail
        go_ret2
        rw [HR.out]
        exact ⟨_, 4, rfl, own_shut hw1 hB rfl (Nat.le_refl 4) (by decide) rfl, hb⟩

end Go.Proofs.YtbcblmbpjecilaaGreatDoor
