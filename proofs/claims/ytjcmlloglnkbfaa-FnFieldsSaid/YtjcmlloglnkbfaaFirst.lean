/- FirstIn, as the program and as the reference have it. -/
import Derived.Test.YtjcmlloglnkbfaaFieldR
namespace Go.Proofs.Ytjcmlloglnkbfaa
open Go.RowKit

/-- the first number of steps from k on, f of them, at which the cell is in the field in time -/
def firstGo (m : MapV) (x : Missing) (pace cell : Int) : Nat → Nat → Option Int
  | 0, _ => none
  | f + 1, k => if inB (x.seen + (k : Int) * pace) 0 36000 && hasI (fieldT m x.place k) cell then some (x.seen + (k : Int) * pace) else firstGo m x pace cell f (k + 1)
def firstM (m : MapV) (x : Missing) (pace cell : Int) : Option Int := if missingB m x && inB pace 60 600 && isCellB m cell then firstGo m x pace cell 37 0 else none
/-- A number, and a word on whether there is one. -/
def GivesOne (w : World) (R : Option Int) (e : Ending) (w' : World) : Prop := e = .returned (.tuple #[.int .i64 (R.getD 0), .bool R.isSome]) ∧ Below w.heap.size w w'
theorem hasI_mem {l : List Int} {c : Int} : hasI l c = true ↔ c ∈ l := by
  unfold hasI
  rw [List.any_eq_true]
  constructor
  · rintro ⟨y, h1, h2⟩
    rw [of_decide_eq_true h2]; exact h1
  · intro h; exact ⟨c, h, by simp⟩
theorem hasI_fieldT {m : MapV} {a c : Int} {t : Nat} (hc : 0 ≤ c ∧ c < m.cost.length) : hasI (fieldT m a t) c = ballB m.cost.length (nextL m) a t c := by
  rw [Bool.eq_iff_iff, hasI_mem]
  unfold fieldT fieldL
  rw [List.mem_filter, mem_cellsL]
  exact ⟨fun h => h.2, fun h => ⟨hc, h⟩⟩
theorem first_none {m : MapV} {x : Missing} {pace cell : Int} : ∀ (f k : Nat), (∀ j : Nat, k ≤ j → j < k + f → (inB (x.seen + (j : Int) * pace) 0 36000 && hasI (fieldT m x.place j) cell) = false) → firstGo m x pace cell f k = none
  | 0, _, _ => rfl
  | f + 1, k, h => by
    rw [firstGo, h k (Nat.le_refl _) (by omega), if_neg (by simp)]
    exact first_none f (k + 1) fun j h1 h2 => h j (by omega) (by omega)
theorem first_at {m : MapV} {x : Missing} {pace cell : Int} {d : Nat} (hd : (inB (x.seen + (d : Int) * pace) 0 36000 && hasI (fieldT m x.place d) cell) = true) : ∀ (f k : Nat), k ≤ d → d < k + f → (∀ j : Nat, j < d → hasI (fieldT m x.place j) cell = false) → firstGo m x pace cell f k = some (x.seen + (d : Int) * pace)
  | 0, k, h1, h2, _ => by omega
  | f + 1, k, h1, h2, h3 => by
    rw [firstGo]
    by_cases e : k = d
    · subst e
      rw [if_pos hd]
    · rw [h3 k (by omega), Bool.and_false, if_neg (by simp)]
      exact first_at hd f (k + 1) (by omega) (by omega) h3
/-- by the fewest steps -/
theorem first_of {m : MapV} {x : Missing} {pace cell : Int} {D : List Int} (hB : Bfs m.cost.length (nextL m) x.place D []) (hl : ∀ y : Int, 0 ≤ y → y < m.cost.length → dAt D y ≤ m.cost.length) (hN : m.cost.length ≤ 36) (hc : 0 ≤ cell ∧ cell < m.cost.length) (hp : 60 ≤ pace ∧ pace ≤ 600) (hs : 0 ≤ x.seen) :
    firstGo m x pace cell 37 0 = if dAt D cell < 0 then none else if 36000 < x.seen + dAt D cell * pace then none else some (x.seen + dAt D cell * pace) := by
  have hh : ∀ j : Nat, hasI (fieldT m x.place j) cell = decide (0 ≤ dAt D cell ∧ dAt D cell ≤ j) := fun j => by rw [hasI_fieldT hc, bfs_end hB cell hc]
  by_cases h0 : dAt D cell < 0
  · rw [if_pos h0]
    exact first_none 37 0 fun j _ _ => by rw [hh, decide_eq_false (by omega), Bool.and_false]
  · rw [if_neg h0]
    obtain ⟨d, hd⟩ := Int.eq_ofNat_of_zero_le (show 0 ≤ dAt D cell by omega)
    have hd36 := hl cell hc.1 hc.2
    rw [hd] at hh hd36 ⊢
    by_cases h1 : 36000 < x.seen + (d : Int) * pace
    · rw [if_pos h1]
      refine first_none 37 0 fun j _ _ => ?_
      rw [hh]
      by_cases h2 : d ≤ j
      · have h3 : (d : Int) * pace ≤ (j : Int) * pace := Int.mul_le_mul_of_nonneg_right (by omega) (by omega)
        cases h4 : inB (x.seen + (j : Int) * pace) 0 36000
        · rfl
        · have := inB_true h4; omega
      · rw [decide_eq_false (by omega), Bool.and_false]
    · rw [if_neg h1]
      have h5 : 0 ≤ (d : Int) * pace := Int.mul_nonneg (by omega) (by omega)
      refine first_at ?_ 37 0 (Nat.zero_le _) (by omega) fun j hj => by rw [hh, decide_eq_false (by omega)]
      rw [hh, decide_eq_true (by omega), Bool.and_true]
      unfold inB; simp; omega
theorem stepsFrom_int (A1 A2 : Option Addr) (n1 n2 c1 c2 : Nat) (m : MapV) (a : Int) (w : World) (hm : SeesMap w A1 n1 A2 n2 m) (hn : n2 ≤ 36) (hw : 1 ≤ m.width ∧ m.width ≤ 6) (ha : 0 ≤ a ∧ a < n2) :
    Calls Try.prog 85 #[.agg #[.int .i64 m.width, .int .i64 m.height, .slice A1 n1 c1, .slice A2 n2 c2], .int .i64 a] w (GivesD w m a) := by
  obtain ⟨an, rfl⟩ := Int.eq_ofNat_of_zero_le ha.1
  exact stepsFrom_any _ _ _ _ _ _ m an w hm hn hw (by omega)
theorem mul_bd {k : Nat} {p : Int} (hk : k ≤ 36) (hp : 60 ≤ p ∧ p ≤ 600) : 0 ≤ (k : Int) * p ∧ (k : Int) * p ≤ 21600 :=
  ⟨Int.mul_nonneg (by omega) (by omega), by have := Int.mul_le_mul (show (k : Int) ≤ 36 by omega) hp.2 (by omega) (by omega); omega⟩

set_option maxRecDepth 100000 in
set_option maxHeartbeats 4000000 in
theorem FirstIn_any (A1 A2 : Option Addr) (n1 n2 c1 c2 : Nat) (m : MapV) (x : Missing) (pace cell : Int) (w : World) (hm : SeesMap w A1 n1 A2 n2 m) (hn : n1 ≤ 1048576 ∧ n2 ≤ 1048576) :
    Calls Try.prog 39 #[.agg #[.int .i64 m.width, .int .i64 m.height, .slice A1 n1 c1, .slice A2 n2 c2], .agg #[.int .i64 x.runner, .int .i64 x.start, .int .i64 x.seen, .int .i64 x.place], .int .i64 pace, .int .i64 cell] w (GivesOne w (firstM m x pace cell)) := by
  have K0 : Below w.heap.size w ((w.alloc (.cells #[.int .i64 m.width, .int .i64 m.height, .slice A1 n1 c1, .slice A2 n2 c2] 29)).alloc (.cells #[.int .i64 x.runner, .int .i64 x.start, .int .i64 x.seen, .int .i64 x.place] 31)) := ((Below.refl _ _).alloc (Nat.le_refl _) _).alloc (by simp) _
  have M0 : Blk ((w.alloc (.cells #[.int .i64 m.width, .int .i64 m.height, .slice A1 n1 c1, .slice A2 n2 c2] 29)).alloc (.cells #[.int .i64 x.runner, .int .i64 x.start, .int .i64 x.seen, .int .i64 x.place] 31)) w.heap.size 29 [.int .i64 m.width, .int .i64 m.height, .slice A1 n1 c1, .slice A2 n2 c2] := (Blk.at_ rfl).alloc _
  have X0 : Blk ((w.alloc (.cells #[.int .i64 m.width, .int .i64 m.height, .slice A1 n1 c1, .slice A2 n2 c2] 29)).alloc (.cells #[.int .i64 x.runner, .int .i64 x.start, .int .i64 x.seen, .int .i64 x.place] 31)) (w.heap.size + 1) 31 [.int .i64 x.runner, .int .i64 x.start, .int .i64 x.seen, .int .i64 x.place] := Blk.at_ (by simp)
  have HL2 := Lib.hid hm.f2.icount
  cases g1 : missingB m x
  · have HR := Lib.hid (show firstM m x pace cell = none by simp [firstM, g1])
    go_enter Try.func39, Try.ntmps39
    go_wp2_with fail
    refine (IsMissing_any _ _ _ _ _ _ m x _ (hm.next K0) hn).mono ?_
    rintro e w1 ⟨rfl, b1⟩
    rw [g1]
    go_wp2_with fail
    go_ret2
    rw [HR.out]
    exact ⟨rfl, bel_then K0 b1⟩
  cases g2 : inB pace 60 600
  · have HR := Lib.hid (show firstM m x pace cell = none by simp [firstM, g2])
    go_enter Try.func39, Try.ntmps39
    go_wp2_with fail
    refine (IsMissing_any _ _ _ _ _ _ m x _ (hm.next K0) hn).mono ?_
    rintro e w1 ⟨rfl, b1⟩
    rw [g1]
    go_wp2_with fail
    refine (isPace_any _ _).mono ?_
    rintro e w' ⟨rfl, rfl⟩
    rw [g2]
    go_wp2_with fail
    go_ret2
    rw [HR.out]
    exact ⟨rfl, bel_then K0 b1⟩
  cases g3 : isCellB m cell
  · have HR := Lib.hid (show firstM m x pace cell = none by simp [firstM, g3])
    go_enter Try.func39, Try.ntmps39
    go_wp2_with fail
    refine (IsMissing_any _ _ _ _ _ _ m x _ (hm.next K0) hn).mono ?_
    rintro e w1 ⟨rfl, b1⟩
    rw [g1]
    have cm := (M0.next b1).cell
    have K1 := bel_then K0 b1
    go_wp2_with fail
    refine (isPace_any _ _).mono ?_
    rintro e w' ⟨rfl, rfl⟩
    rw [g2]
    go_wp2_with fail
    refine (isCell_any _ _ _ _ _ _ m cell _ (hm.next K1) hn).mono ?_
    rintro e w2 ⟨rfl, b2⟩
    rw [g3]
    go_wp2_with fail
    go_ret2
    rw [HR.out]
    exact ⟨rfl, bel_then K1 b2⟩
  · obtain ⟨s1, -, -, s4, s5, s6, -⟩ := missing_facts g1
    have t1 := inB_true g2
    have hc : 0 ≤ cell ∧ cell < m.cost.length := by
      unfold isCellB at g3
      simp only [Bool.and_eq_true] at g3
      have := inB_true g3.2
      omega
    have HR := Lib.hid (show firstM m x pace cell = firstGo m x pace cell 37 0 by simp [firstM, g1, g2, g3])
    obtain ⟨cn, rfl⟩ := Int.eq_ofNat_of_zero_le hc.1
    have HL3 := HL2.out
    have HC := Lib.hid (And.intro s1 (And.intro (show n2 ≤ 36 by omega) (show 0 ≤ x.place ∧ x.place < n2 by omega)))
    have HH := Lib.hid (And.intro hc (And.intro s4 t1))
    have hcn : cn < n2 := by omega
    have HG1 := Lib.hid g1
    have HG2 := Lib.hid g2
    have HG3 := Lib.hid g3
    clear g1 g2 g3 hc s1 s4 s5 HL3
    go_enter Try.func39, Try.ntmps39
    go_wp2_with fail
    refine (IsMissing_any _ _ _ _ _ _ m x _ (hm.next K0) hn).mono ?_
    rintro e w1 ⟨rfl, b1⟩
    rw [HG1.out]
    have M1 := M0.next b1
    have X1 := X0.next b1
    have cm := M1.cell
    have K1 := bel_then K0 b1
    go_wp2_with fail
    refine (isPace_any _ _).mono ?_
    rintro e w' ⟨rfl, rfl⟩
    rw [HG2.out]
    go_wp2_with fail
    refine (isCell_any _ _ _ _ _ _ m (cn : Int) _ (hm.next K1) hn).mono ?_
    rintro e w2 ⟨rfl, b2⟩
    rw [HG3.out]
    clear cm
    have M2 := M1.next b2
    have X2 := X1.next b2
    have cm := M2.cell
    have cx := X2.cell
    have K2 := bel_then K1 b2
    go_wp2_with fail
    refine (stepsFrom_int _ _ _ _ _ _ m x.place _ (hm.next K2) HC.out.2.1 HC.out.1 HC.out.2.2).mono ?_
    rintro e w3 ⟨D, A3, c3, ⟨hB, hlim⟩, rfl, o3, b3⟩
    have hD : D.length = n2 := by rw [hB.len]; exact HL2.out
    have hcD : cn < D.length := by omega
    obtain ⟨b, off, rfl, hkx, hcx⟩ := (Sees.of_own o3).int hcD
    have hdx : dAt D (cn : Int) = D[cn] := by rw [dAt_get (by simpa using hcD)]; simp
    have HF := Lib.hid (first_of (pace := pace) hB hlim HH.out.2.1 HH.out.1 t1 s6.1)
    have hup := hlim (cn : Int) HH.out.1.1 HH.out.1.2
    have hN := HH.out.2.1
    have K3 := bel_then K2 b3
    clear cx cm
    have cx := (X2.next b3).cell
    have HD := Lib.hid hdx
    rw [hdx] at hup
    clear hdx hD o3 hB hlim b3 M2 M1 M0 X0 X1 X2
    generalize D[cn] = d at *
    have hd36 : d ≤ 36 := by omega
    clear hup
    by_cases h0 : d < 0
    · have HF2 := Lib.hid (HF.out.trans (if_pos (by rw [HD.out]; exact h0)))
      go_wp2_with fail
      go_ret2
      rw [HR.out, HF2.out]
      exact ⟨rfl, K3⟩
    · obtain ⟨dn, rfl⟩ := Int.eq_ofNat_of_zero_le (show 0 ≤ d by omega)
      have hmb := mul_bd (show dn ≤ 36 by omega) t1
      have hm1 := hmb.1
      have hm2 := hmb.2
      have s61 := s6.1
      have s62 := s6.2
      have hf := HF.out.trans (if_neg (by rw [HD.out]; exact h0))
      rw [HD.out] at hf
      clear hmb s6
      by_cases h1 : 36000 < x.seen + (dn : Int) * pace
      · have HF2 := Lib.hid (hf.trans (if_pos h1))
        clear hf
        go_wp2_with fail
        go_ret2
        rw [HR.out, HF2.out]
        exact ⟨rfl, K3⟩
      · have HF2 := Lib.hid (hf.trans (if_neg h1))
        clear hf
        go_wp2_with fail
        go_ret2
        rw [HR.out, HF2.out]
        exact ⟨rfl, K3⟩

set_option maxRecDepth 100000 in
set_option maxHeartbeats 4000000 in
theorem specFirstIn_any (A1 A2 : Option Addr) (n1 n2 c1 c2 : Nat) (m : MapV) (x : Missing) (pace cell : Int) (w : World) (hm : SeesMap w A1 n1 A2 n2 m) (hn : n1 ≤ 1048576 ∧ n2 ≤ 1048576) :
    Calls Try.prog 38 #[.agg #[.int .i64 m.width, .int .i64 m.height, .slice A1 n1 c1, .slice A2 n2 c2], .agg #[.int .i64 x.runner, .int .i64 x.start, .int .i64 x.seen, .int .i64 x.place], .int .i64 pace, .int .i64 cell] w (GivesOne w (firstM m x pace cell)) := by
  have K0 : Below w.heap.size w ((w.alloc (.cells #[.int .i64 m.width, .int .i64 m.height, .slice A1 n1 c1, .slice A2 n2 c2] 29)).alloc (.cells #[.int .i64 x.runner, .int .i64 x.start, .int .i64 x.seen, .int .i64 x.place] 31)) := ((Below.refl _ _).alloc (Nat.le_refl _) _).alloc (by simp) _
  have M0 : Blk ((w.alloc (.cells #[.int .i64 m.width, .int .i64 m.height, .slice A1 n1 c1, .slice A2 n2 c2] 29)).alloc (.cells #[.int .i64 x.runner, .int .i64 x.start, .int .i64 x.seen, .int .i64 x.place] 31)) w.heap.size 29 [.int .i64 m.width, .int .i64 m.height, .slice A1 n1 c1, .slice A2 n2 c2] := (Blk.at_ rfl).alloc _
  have X0 : Blk ((w.alloc (.cells #[.int .i64 m.width, .int .i64 m.height, .slice A1 n1 c1, .slice A2 n2 c2] 29)).alloc (.cells #[.int .i64 x.runner, .int .i64 x.start, .int .i64 x.seen, .int .i64 x.place] 31)) (w.heap.size + 1) 31 [.int .i64 x.runner, .int .i64 x.start, .int .i64 x.seen, .int .i64 x.place] := Blk.at_ (by simp)
  cases g1 : missingB m x
  · have HR := Lib.hid (show firstM m x pace cell = none by simp [firstM, g1])
    go_enter Try.func38, Try.ntmps38
    go_wp2_with fail
    refine (l23One_any _ _ _ _ _ _ m x _ (hm.next K0) hn).mono ?_
    rintro e w1 ⟨rfl, b1⟩
    rw [g1]
    go_wp2_with fail
    go_ret2
    rw [HR.out]
    exact ⟨rfl, bel_then K0 b1⟩
  cases g2 : inB pace 60 600
  · have HR := Lib.hid (show firstM m x pace cell = none by simp [firstM, g2])
    go_enter Try.func38, Try.ntmps38
    go_wp2_with fail
    refine (l23One_any _ _ _ _ _ _ m x _ (hm.next K0) hn).mono ?_
    rintro e w1 ⟨rfl, b1⟩
    rw [g1]
    go_wp2_with fail
    refine (l23Pace_any _ _).mono ?_
    rintro e w' ⟨rfl, rfl⟩
    rw [g2]
    go_wp2_with fail
    go_ret2
    rw [HR.out]
    exact ⟨rfl, bel_then K0 b1⟩
  obtain ⟨s1, s2, s3, s4, s5, s6, s7⟩ := missing_facts g1
  have hprod := prod_bd s1 s2
  have hcell : isCellB m cell = inB cell 0 (m.width * m.height - 1) := by
    unfold isCellB
    rw [s7, s3.2, s3.1]; rfl
  cases g3 : inB cell 0 (m.width * m.height - 1)
  · have HR := Lib.hid (show firstM m x pace cell = none by simp [firstM, hcell, g3])
    have HP := Lib.hid hprod
    have HG3 := Lib.hid g3
    clear hprod s3 hcell g3
    go_enter Try.func38, Try.ntmps38
    go_wp2_with fail
    refine (l23One_any _ _ _ _ _ _ m x _ (hm.next K0) hn).mono ?_
    rintro e w1 ⟨rfl, b1⟩
    rw [g1]
    have cm := (M0.next b1).cell
    have K1 := bel_then K0 b1
    go_wp2_with fail
    refine (l23Pace_any _ _).mono ?_
    rintro e w' ⟨rfl, rfl⟩
    rw [g2]
    go_wp2_with fail
    refine (l2Cell_any _ _ _ _ _ _ m cell _ HP.out).mono ?_
    rintro e w2 ⟨rfl, b2⟩
    rw [HG3.out]
    go_wp2_with fail
    go_ret2
    rw [HR.out]
    exact ⟨rfl, bel_then K1 b2⟩
  · have HR := Lib.hid (show firstM m x pace cell = firstGo m x pace cell 37 0 by simp [firstM, g1, g2, hcell, g3])
    have HP := Lib.hid hprod
    have HG1 := Lib.hid g1
    have HG2 := Lib.hid g2
    have HG3 := Lib.hid g3
    have t1 := inB_true g2
    have s61 := s6.1
    have s62 := s6.2
    have HC := Lib.hid (And.intro s7 s5)
    have HFL := Lib.hid (show ∀ t, (fieldT m x.place t).length ≤ 36 from fun t => Nat.le_trans (fieldL_len _ _ _ _) s4)
    clear hprod s3 hcell g3 g1 g2 s1 s2 s4 s5 s6 s7
    go_enter Try.func38, Try.ntmps38
    go_wp2_with fail
    refine (l23One_any _ _ _ _ _ _ m x _ (hm.next K0) hn).mono ?_
    rintro e w1 ⟨rfl, b1⟩
    rw [HG1.out]
    have M1 := M0.next b1
    have X1 := X0.next b1
    have cm := M1.cell
    have K1 := bel_then K0 b1
    go_wp2_with fail
    refine (l23Pace_any _ _).mono ?_
    rintro e w' ⟨rfl, rfl⟩
    rw [HG2.out]
    go_wp2_with fail
    refine (l2Cell_any _ _ _ _ _ _ m cell _ HP.out).mono ?_
    rintro e w2 ⟨rfl, b2⟩
    rw [HG3.out]
    clear cm
    have M2 := M1.next b2
    have X2 := X1.next b2
    have K2 := bel_then K1 b2
    clear b1 b2 M1 X1 K1 M0 X0 K0
    go_wp2_with fail
    go_loopw [10] (fun v wr => ∃ k : Nat, k ≤ 37 ∧ v = .int .i64 (k : Int) ∧ Hid (firstGo m x pace cell 37 0 = firstGo m x pace cell (37 - k) k) ∧ Blk wr w.heap.size 29 [.int .i64 m.width, .int .i64 m.height, .slice A1 n1 c1, .slice A2 n2 c2] ∧ Blk wr (w.heap.size + 1) 31 [.int .i64 x.runner, .int .i64 x.start, .int .i64 x.seen, .int .i64 x.place] ∧ Below w.heap.size w wr) (fun v _ => 37 - (intOf v).toNat)
    case atStart => exact ⟨0, by omega, rfl, Lib.hid rfl, M2, X2, K2⟩
    case round =>
      obtain ⟨k, hk, rfl, HF, M, XX, K⟩ := hrel
      have cm := M.cell
      have cx := XX.cell
      by_cases hlt : k < 37
      · have hmb := mul_bd (show k ≤ 36 by omega) t1
        have hm1 := hmb.1
        have hm2 := hmb.2
        have hk6 : (k : Int) ≤ 36 := by omega
        have hst : firstGo m x pace cell (37 - k) k = if inB (x.seen + (k : Int) * pace) 0 36000 && hasI (fieldT m x.place k) cell then some (x.seen + (k : Int) * pace) else firstGo m x pace cell (37 - (k + 1)) (k + 1) := by
          rw [show 37 - k = (37 - (k + 1)) + 1 by omega]
          rfl
        clear hmb
        cases g4 : inB (x.seen + (k : Int) * pace) 0 36000
        · have HF2 := Lib.hid (HF.out.trans (hst.trans (by rw [g4, Bool.false_and, if_neg (by simp)])))
          have HG4 := Lib.hid g4
          clear hst g4
          go_wp2_with fail
          refine (l12Time_any _ _).mono ?_
          rintro e w' ⟨rfl, rfl⟩
          rw [HG4.out]
          go_wp2_with fail
          go_roundw
          case rel => exact ⟨k + 1, by omega, by go_num, HF2, M, XX, K⟩
          case measure => simp [intOf]; omega
        · have HG4 := Lib.hid g4
          have hkb : 0 ≤ (k : Int) ∧ (k : Int) ≤ 100000 := by omega
          cases g5 : hasI (fieldT m x.place k) cell
          all_goals
            have HG5 := Lib.hid g5
            have HF2 := Lib.hid (HF.out.trans (hst.trans (by rw [g4, g5])))
            have hlen := HFL.out k
            have HKB := Lib.hid hkb
            clear hst g4 g5 hkb
            go_wp2_with fail
            refine (l12Time_any _ _).mono ?_
            rintro e w' ⟨rfl, rfl⟩
            rw [HG4.out]
            go_wp2_with fail
            refine (l23Field_any _ _ _ _ _ _ m x.place (k : Int) _ (hm.next K) HC.out.1 HC.out.2 HKB.out).mono ?_
            rintro e w5 ⟨A5, c5, rfl, o5, b5⟩
            rw [show ((k : Int)).toNat = k from Int.toNat_natCast k] at o5 ⊢
            clear cm cx
            have M5 := M.next b5
            have X5 := XX.next b5
            have K5 := bel_then K b5
            clear b5
            go_wp2_with fail
            refine (l1Has_any _ _ _ (fieldT m x.place k) cell _ ((Sees.of_own o5).less (Nat.zero_le _)) (by omega)).mono ?_
            rintro e w6 ⟨rfl, q6⟩
            rw [HG5.out]
            have K6 := bel_quiet K5 q6
            have M6 := M5.quiet q6
            have X6 := X5.quiet q6
            clear q6 o5
            go_wp2_with fail
          · go_roundw
            case rel => exact ⟨k + 1, by omega, by go_num, Lib.hid (HF2.out.trans (by simp)), M6, X6, K6⟩
            case measure => simp [intOf]; omega
          · go_ret2
            rw [HR.out, HF2.out, if_pos (by simp)]
            exact ⟨rfl, K6⟩
      · obtain rfl : k = 37 := by omega
        have HF2 := Lib.hid (show firstGo m x pace cell 37 0 = none from HF.out)
        go_wp2_with fail
        go_ret2
        rw [HR.out, HF2.out]
        exact ⟨rfl, K⟩

end Go.Proofs.Ytjcmlloglnkbfaa
