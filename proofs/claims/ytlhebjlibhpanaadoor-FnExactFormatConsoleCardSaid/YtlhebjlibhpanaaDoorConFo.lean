/- FormatConsole, as the program has it. -/
import Derived.Test.YtlhebjlibhpanaaDoorConV
namespace Go.Proofs.YtlhebjlibhpanaaDoor
open Go.RowKit


def wordT (s : Int) : ByteArray := if s = 0 then ⟨#[101, 110, 116, 101, 114, 101, 100]⟩ else if s = 1 then ⟨#[114, 117, 110, 110, 105, 110, 103]⟩ else if s = 2 then ⟨#[102, 105, 110, 105, 115, 104, 101, 100]⟩ else if s = 3 then ⟨#[103, 105, 118, 101, 110, 32, 117, 112]⟩ else ⟨#[97, 98, 115, 101, 110, 116]⟩
def entLine (i : Nat) (x : Entrant) : ByteArray := numT i ++ ⟨#[32]⟩ ++ wordT x.state ++ ⟨#[10]⟩
def linesTo (xs : List Entrant) : Nat → ByteArray
  | 0 => ⟨#[]⟩
  | k + 1 => linesTo xs k ++ (match xs[k]? with | some x => entLine k x | none => ⟨#[]⟩)
theorem linesTo_next {xs : List Entrant} {k : Nat} (h : k < xs.length) : linesTo xs (k + 1) = linesTo xs k ++ entLine k xs[k] := by
  rw [linesTo, List.getElem?_eq_getElem h]
def formT (p q : Nat) (xs : List Entrant) : ByteArray := linesTo xs xs.length ++ ⟨#[99, 108, 111, 99, 107, 32]⟩ ++ numT p ++ ⟨#[59, 32, 114, 101, 99, 111, 114, 100, 115, 32]⟩ ++ numT q ++ ⟨#[10]⟩
def formC (t : Int) (b : Bool) (l : Log) (xs : List Entrant) : Option ByteArray := if raceB t b xs && validL l then some (formT t.toNat l.count.toNat xs) else none
theorem entB_state {t : Int} {cl : Bool} {i : Nat} {x : Entrant} (h : entB t cl i x = true) : x.state = 0 ∨ x.state = 1 ∨ x.state = 2 ∨ x.state = 3 ∨ x.state = 4 := by
  unfold entB at h
  split at h
  · exact .inl ‹_›
  · split at h
    · exact .inr (.inr (.inr (.inr ‹_›)))
    · split at h
      · rename_i h3
        rcases h3 with h3 | h3 | h3
        · exact .inr (.inl h3)
        · exact .inr (.inr (.inl h3))
        · exact .inr (.inr (.inr (.inl h3)))
      · cases h
/-- what a valid console is -/
theorem valid_facts {t : Int} {b : Bool} {l : Log} {xs : List Entrant} (h : (raceB t b xs && validL l) = true) : (∃ p : Nat, t = p ∧ p ≤ 36000) ∧ (∃ q : Nat, l.count = q ∧ q ≤ 60) ∧ xs.length ≤ 8 ∧ ∀ (k : Nat) (hk : k < xs.length), xs[k].state = 0 ∨ xs[k].state = 1 ∨ xs[k].state = 2 ∨ xs[k].state = 3 ∨ xs[k].state = 4 := by
  rw [Bool.and_eq_true] at h
  obtain ⟨h1, h2⟩ := h
  unfold raceB at h1
  rw [Bool.and_eq_true, Bool.and_eq_true] at h1
  obtain ⟨h3, h4, h5⟩ := h1
  have h6 := inB_true h3
  have h7 := inB_true h4
  unfold validL at h2
  simp only [Bool.and_eq_true, decide_eq_true_eq] at h2
  refine ⟨⟨t.toNat, by omega, by omega⟩, ⟨_, h2.2.symm, (allR_ok _).len⟩, by omega, fun k hk => ?_⟩
  have h8 := allTo_at h5 hk
  rw [entAt_at hk] at h8
  exact entB_state h8

set_option maxRecDepth 100000 in
set_option maxHeartbeats 4000000 in
theorem FormatConsole_any (t : Int) (b : Bool) (l : Log) (A : Option Addr) (n c : Nat) (xs : List Entrant) (w : World) (hx : SeesN entrantSh w 0 A n xs) (hn : n ≤ 1048576) (hi : ∀ x ∈ xs, x.cnt ≤ 1048576) (hs : l.upto 1048576) (hg : Gl w) :
    Calls Tryd.prog 11 #[.agg #[.int .i64 t, .bool b, .slice A n c, .string l.durable, .string l.pending, .int .i64 l.count]] w fun e w' => e = .returned (.tuple #[.string ((formC t b l xs).getD ⟨#[]⟩), .bool (formC t b l xs).isSome]) ∧ Below w.heap.size w w' := by
  have K0 : Below w.heap.size w (w.alloc (.cells #[.int .i64 t, .bool b, .slice A n c, .string l.durable, .string l.pending, .int .i64 l.count] 36)) := (Below.refl w.heap.size w).alloc (Nat.le_refl _) _
  have hV := fun hs' => IsValidConsole_any t b l A n c xs (w.alloc (.cells #[.int .i64 t, .bool b, .slice A n c, .string l.durable, .string l.pending, .int .i64 l.count] 36)) (hx.next K0) hn hi hs' (hg.next K0)
  replace hV := hV hs
  cases hv : (raceB t b xs && validL l)
  · have HF := Lib.hid (show formC t b l xs = none by unfold formC; rw [hv]; rfl)
    rw [hv] at hV
    clear hv
    go_enter Tryd.func11, Tryd.ntmps11
    go_wp2_with fail
    refine hV.mono ?_
    rintro e w1 ⟨rfl, b1⟩
    go_wp2_with fail
    go_ret2
    exact ⟨by rw [HF.out]; rfl, bel_then K0 b1⟩
  obtain ⟨⟨p, hp, hp1⟩, ⟨q, hq, hq1⟩, hl8, hst⟩ := valid_facts hv
  obtain ⟨ld, lp, lc⟩ := l
  obtain rfl : lc = (q : Int) := hq
  subst hp
  have HF := Lib.hid (show formC (p : Int) b ⟨ld, lp, (q : Int)⟩ xs = some (formT p q xs) by unfold formC; rw [hv]; rfl)
  have HST := Lib.hid hst
  rw [hv] at hV
  clear hv hst hs
  have hl := hx.count
  have HL := Lib.hid hl
  have hn8 : n ≤ 8 := by omega
  clear hl hl8
  have B0 : Blk (w.alloc (.cells #[.int .i64 (p : Int), .bool b, .slice A n c, .string ld, .string lp, .int .i64 (q : Int)] 36)) w.heap.size 36 [.int .i64 (p : Int), .bool b, .slice A n c, .string ld, .string lp, .int .i64 (q : Int)] := Blk.at_ rfl
  replace hx := hx.next K0
  replace hg := hg.next K0
  go_enter Tryd.func11, Tryd.ntmps11
  go_wp2_with fail
  refine hV.mono ?_
  clear hV
  rintro e w1 ⟨rfl, b1⟩
  replace B0 := B0.next b1
  replace hx := hx.next b1
  replace hg := hg.next b1
  have K := bel_then K0 b1
  clear b1 K0

  have cm := B0.cell
  go_wp2_with fail
  clear cm
  go_loopw [4, 14] (fun tv iv wr => ∃ (k : Nat) (T : ByteArray), k ≤ n ∧ iv = .int .i64 (k : Int) ∧ tv = .string T ∧ Hid (linesTo xs k = T) ∧ T.size ≤ 12 * k ∧ Blk wr w.heap.size 36 [.int .i64 (p : Int), .bool b, .slice A n c, .string ld, .string lp, .int .i64 (q : Int)] ∧ SeesN entrantSh wr 0 A n xs ∧ Gl wr ∧ Below w.heap.size w wr) (fun _ iv _ => n - (intOf iv).toNat)
  case atStart => exact ⟨0, ⟨#[]⟩, Nat.zero_le _, rfl, rfl, Lib.hid rfl, Nat.le_refl _, B0, hx, hg, K⟩
  case round =>
    clear B0 hx hg K
    obtain ⟨k, T, hk, rfl, rfl, HT, hT, B0, hx, hg, K⟩ := hrel
    have cm := B0.cell
    by_cases hlt : k < n
    · obtain ⟨b', off, B, m, d, rfl, hkx, c0, c1, c2, c3, c4, -⟩ := SeesEntrant.elem hx hlt
      have hblt := World.block_lt_of_cell? wr _ c0
      rcases HST.out k hkx with hs | hs | hs | hs | hs
      · rw [hs] at c0
        have HW := Lib.hid (show wordT xs[k].state = ⟨#[101, 110, 116, 101, 114, 101, 100]⟩ by rw [hs]; rfl)
        clear hs
        have E : Blk (wr.alloc (.cells #[.int .i64 0, .int .i64 xs[k].number, .int .i64 xs[k].start, .int .i64 xs[k].finish, .slice B m d] 56)) wr.heap.size 56 [.int .i64 0, .int .i64 xs[k].number, .int .i64 xs[k].start, .int .i64 xs[k].finish, .slice B m d] := Blk.at_ rfl
        have U : Below wr.heap.size wr (wr.alloc (.cells #[.int .i64 0, .int .i64 xs[k].number, .int .i64 xs[k].start, .int .i64 xs[k].finish, .slice B m d] 56)).drew := bel_then ((Below.refl _ _).alloc (Nat.le_refl _) _) ((Quiet.one _).below _)
        replace E := E.next ((Quiet.one _).below _)
        replace B0 := B0.next U
        replace hx := hx.next U
        replace hg := hg.next U
        have Kq := bel_then K U
        clear K U
        have ix : ∀ w : World, (Instr.index 57 (.agg #[.string ⟨#[101, 110, 116, 101, 114, 101, 100]⟩, .string ⟨#[114, 117, 110, 110, 105, 110, 103]⟩, .string ⟨#[102, 105, 110, 105, 115, 104, 101, 100]⟩, .string ⟨#[103, 105, 118, 101, 110, 32, 117, 112]⟩, .string ⟨#[97, 98, 115, 101, 110, 116]⟩]) (.int .i64 0)).run Tryd.prog w = .ok (.string ⟨#[101, 110, 116, 101, 114, 101, 100]⟩) w := fun _ => by kernel_rfl
        have ce := E.cell
        go_wp2_with fail
        refine wp_region_held_drew (S := fun w' => w'.cell? ⟨wr.heap.size, 0, none⟩ = some (.int .i64 0)) (by kernel_rfl) (by (try dsimp only); exact ce 0) (fun hHeld => ?_)
        refine wpAnyH_take (i := 0) (v := ?_) rfl (by kernel_rfl) (by kernel_rfl) (by kernel_rfl) (fun _ _ _ h => h) (Or.inl ⟨by rfl, ?_⟩) (by assumption) ?_
        rotate_left 1
        · (intro w hSw; (try dsimp only at hSw); go_simp; try with_reducible rfl)
        simp only [Act.put, List.setIfInBounds_toArray, List.set_cons_zero, List.set_cons_succ, List.getElem_toArray, List.getElem_cons_zero]
        refine wpAnyH_take (i := 1) (v := ?_) rfl (by kernel_rfl) (by kernel_rfl) (by kernel_rfl) (fun _ _ _ h => h) (Or.inl ⟨by rfl, ?_⟩) (by assumption) ?_
        rotate_left 1
        · (intro w hSw; (try dsimp only at hSw); go_simp; try with_reducible rfl)
        simp only [Act.put, List.setIfInBounds_toArray, List.set_cons_zero, List.set_cons_succ, List.getElem_toArray, List.getElem_cons_zero, List.getElem_cons_succ]
        refine wpAnyH_take (i := 4) (v := ?_) rfl (by kernel_rfl) (by kernel_rfl) (by kernel_rfl) (fun _ _ _ h => h) (Or.inl ⟨by rfl, ?_⟩) (by assumption) ?_
        rotate_left 1
        · (intro w hSw; (try dsimp only at hSw); go_simp; try with_reducible rfl)
        simp only [Act.put, List.setIfInBounds_toArray, List.set_cons_zero, List.set_cons_succ, List.getElem_toArray, List.getElem_cons_zero, List.getElem_cons_succ]
        refine wpAnyH_take (i := 5) (v := ?_) rfl (by kernel_rfl) (by kernel_rfl) (by kernel_rfl) (fun _ _ _ h => h) (Or.inl ⟨by rfl, ?_⟩) (by assumption) ?_
        rotate_left 1
        · (intro w hSw; (try dsimp only at hSw); go_simp; try with_reducible rfl)
        simp only [Act.put, List.setIfInBounds_toArray, List.set_cons_zero, List.set_cons_succ, List.getElem_toArray, List.getElem_cons_zero, List.getElem_cons_succ]
        refine wpAnyH_take (i := 6) (v := ?_) rfl (by kernel_rfl) (by kernel_rfl) (by kernel_rfl) (fun _ _ _ h => h) (Or.inl ⟨by rfl, ?_⟩) (by assumption) ?_
        rotate_left 1
        · (intro w hSw; (try dsimp only at hSw); go_simp; try with_reducible rfl)
        simp only [Act.put, List.setIfInBounds_toArray, List.set_cons_zero, List.set_cons_succ, List.getElem_toArray, List.getElem_cons_zero, List.getElem_cons_succ]
        refine wpAnyH_take (i := 7) (v := ?_) rfl (by kernel_rfl) (by kernel_rfl) (by kernel_rfl) (fun _ _ _ h => h) (Or.inl ⟨by rfl, ?_⟩) (by assumption) ?_
        rotate_left 1
        · (intro w hSw; (try dsimp only at hSw); go_simp; try with_reducible rfl)
        simp only [Act.put, List.setIfInBounds_toArray, List.set_cons_zero, List.set_cons_succ, List.getElem_toArray, List.getElem_cons_zero, List.getElem_cons_succ]
        refine wpAnyH_ready (rs := [2]) (by kernel_rfl) (by simp) ?_
        refine AllReadyH.cons rfl (fun K hK => ?_) AllReadyH.nil
        go_simp
        refine (Itoa_any k _ (by omega) hg).mono ?_
        rintro e w2 ⟨rfl, b2⟩
        replace B0 := B0.next b2
        replace hx := hx.next b2
        replace hg := hg.next b2
        replace E := E.next b2
        replace Kq := bel_then Kq b2
        clear b2 ce
        have ce := E.cell
        have hsz := numT_size k 2 (by omega) (by decide)
        obtain ⟨N, hN⟩ : ∃ N, numT k = N := ⟨_, rfl⟩
        rw [hN] at hsz
        have HN := Lib.hid hN
        rw [hN]
        clear hN
        have f1 : ¬ 9223372036854775807 < N.size + 1 := by omega
        have f2 : ¬ 9223372036854775807 < N.size + 1 + 7 := by omega
        have f3 : ¬ 9223372036854775807 < N.size + 1 + 7 + 1 := by omega
        have f4 : ¬ 9223372036854775807 < T.size + (N.size + 1 + 7 + 1) := by omega
        go_wp2_with fail
        refine hK.out _ _ (by (try dsimp only); exact ce 0) (fun hHeld => ?_)
        clear hK K
        refine wpAnyH_take (i := 3) (v := ?_) rfl (by kernel_rfl) (by kernel_rfl) (by kernel_rfl) (fun _ _ _ h => h) (Or.inl ⟨by rfl, ?_⟩) (by assumption) ?_
        rotate_left 1
        · (intro w hSw; (try dsimp only at hSw); go_simp; try with_reducible rfl)
        simp only [Act.put, List.setIfInBounds_toArray, List.set_cons_zero, List.set_cons_succ, List.getElem_toArray, List.getElem_cons_zero, List.getElem_cons_succ]
        refine wpAnyH_take (i := 8) (v := ?_) rfl (by kernel_rfl) (by kernel_rfl) (by kernel_rfl) (fun _ _ _ h => h) (Or.inl ⟨by rfl, ?_⟩) (by assumption) ?_
        rotate_left 1
        · (intro w hSw; (try dsimp only at hSw); go_simp; try with_reducible rfl)
        simp only [Act.put, List.setIfInBounds_toArray, List.set_cons_zero, List.set_cons_succ, List.getElem_toArray, List.getElem_cons_zero, List.getElem_cons_succ]
        refine wpAnyH_take (i := 9) (v := ?_) rfl (by kernel_rfl) (by kernel_rfl) (by kernel_rfl) (fun _ _ _ h => h) (Or.inl ⟨by rfl, ?_⟩) (by assumption) ?_
        rotate_left 1
        · (intro w hSw; (try dsimp only at hSw); go_simp; try with_reducible rfl)
        simp only [Act.put, List.setIfInBounds_toArray, List.set_cons_zero, List.set_cons_succ, List.getElem_toArray, List.getElem_cons_zero, List.getElem_cons_succ]
        refine wpAnyH_take (i := 10) (v := ?_) rfl (by kernel_rfl) (by kernel_rfl) (by kernel_rfl) (fun _ _ _ h => h) (Or.inl ⟨by rfl, ?_⟩) (by assumption) ?_
        rotate_left 1
        · (intro w hSw; (try dsimp only at hSw); go_simp; try with_reducible rfl)
        simp only [Act.put, List.setIfInBounds_toArray, List.set_cons_zero, List.set_cons_succ, List.getElem_toArray, List.getElem_cons_zero, List.getElem_cons_succ]
        refine wpAnyH_take (i := 11) (v := ?_) rfl (by kernel_rfl) (by kernel_rfl) (by kernel_rfl) (fun _ _ _ h => h) (Or.inl ⟨by rfl, ?_⟩) (by assumption) ?_
        rotate_left 1
        · (intro w hSw; (try dsimp only at hSw); go_simp; try with_reducible rfl)
        simp only [Act.put, List.setIfInBounds_toArray, List.set_cons_zero, List.set_cons_succ, List.getElem_toArray, List.getElem_cons_zero, List.getElem_cons_succ]
        refine wpAnyH_done (by kernel_rfl) ?_ _
        clear f1 f2 f3 f4 ce c0 c1 c2 c3 c4 ix
        have HT2 := Lib.hid (show linesTo xs (k + 1) = T ++ (N ++ ⟨#[32]⟩ ++ ⟨#[101, 110, 116, 101, 114, 101, 100]⟩ ++ ⟨#[10]⟩) by rw [linesTo_next (by rw [HL.out]; exact hlt), HT.out]; unfold entLine; rw [HW.out, HN.out])
        have hT2 : (T ++ (N ++ ⟨#[32]⟩ ++ ⟨#[101, 110, 116, 101, 114, 101, 100]⟩ ++ ⟨#[10]⟩)).size ≤ 12 * (k + 1) := by simp only [ByteArray.size_append]; have z1 : (⟨#[32]⟩ : ByteArray).size = 1 := rfl; have z2 : (⟨#[10]⟩ : ByteArray).size = 1 := rfl; have z3 : (⟨#[101, 110, 116, 101, 114, 101, 100]⟩ : ByteArray).size = 7 := rfl; omega
        go_wp2_with fail
        go_roundw
        case rel => exact ⟨k + 1, _, by omega, by go_num, rfl, HT2, hT2, B0, hx, hg, Kq⟩
        case measure => simp [intOf]; omega
      · rw [hs] at c0
        have HW := Lib.hid (show wordT xs[k].state = ⟨#[114, 117, 110, 110, 105, 110, 103]⟩ by rw [hs]; rfl)
        clear hs
        have E : Blk (wr.alloc (.cells #[.int .i64 1, .int .i64 xs[k].number, .int .i64 xs[k].start, .int .i64 xs[k].finish, .slice B m d] 56)) wr.heap.size 56 [.int .i64 1, .int .i64 xs[k].number, .int .i64 xs[k].start, .int .i64 xs[k].finish, .slice B m d] := Blk.at_ rfl
        have U : Below wr.heap.size wr (wr.alloc (.cells #[.int .i64 1, .int .i64 xs[k].number, .int .i64 xs[k].start, .int .i64 xs[k].finish, .slice B m d] 56)).drew := bel_then ((Below.refl _ _).alloc (Nat.le_refl _) _) ((Quiet.one _).below _)
        replace E := E.next ((Quiet.one _).below _)
        replace B0 := B0.next U
        replace hx := hx.next U
        replace hg := hg.next U
        have Kq := bel_then K U
        clear K U
        have ix : ∀ w : World, (Instr.index 57 (.agg #[.string ⟨#[101, 110, 116, 101, 114, 101, 100]⟩, .string ⟨#[114, 117, 110, 110, 105, 110, 103]⟩, .string ⟨#[102, 105, 110, 105, 115, 104, 101, 100]⟩, .string ⟨#[103, 105, 118, 101, 110, 32, 117, 112]⟩, .string ⟨#[97, 98, 115, 101, 110, 116]⟩]) (.int .i64 1)).run Tryd.prog w = .ok (.string ⟨#[114, 117, 110, 110, 105, 110, 103]⟩) w := fun _ => by kernel_rfl
        have ce := E.cell
        go_wp2_with fail
        refine wp_region_held_drew (S := fun w' => w'.cell? ⟨wr.heap.size, 0, none⟩ = some (.int .i64 1)) (by kernel_rfl) (by (try dsimp only); exact ce 0) (fun hHeld => ?_)
        refine wpAnyH_take (i := 0) (v := ?_) rfl (by kernel_rfl) (by kernel_rfl) (by kernel_rfl) (fun _ _ _ h => h) (Or.inl ⟨by rfl, ?_⟩) (by assumption) ?_
        rotate_left 1
        · (intro w hSw; (try dsimp only at hSw); go_simp; try with_reducible rfl)
        simp only [Act.put, List.setIfInBounds_toArray, List.set_cons_zero, List.set_cons_succ, List.getElem_toArray, List.getElem_cons_zero]
        refine wpAnyH_take (i := 1) (v := ?_) rfl (by kernel_rfl) (by kernel_rfl) (by kernel_rfl) (fun _ _ _ h => h) (Or.inl ⟨by rfl, ?_⟩) (by assumption) ?_
        rotate_left 1
        · (intro w hSw; (try dsimp only at hSw); go_simp; try with_reducible rfl)
        simp only [Act.put, List.setIfInBounds_toArray, List.set_cons_zero, List.set_cons_succ, List.getElem_toArray, List.getElem_cons_zero, List.getElem_cons_succ]
        refine wpAnyH_take (i := 4) (v := ?_) rfl (by kernel_rfl) (by kernel_rfl) (by kernel_rfl) (fun _ _ _ h => h) (Or.inl ⟨by rfl, ?_⟩) (by assumption) ?_
        rotate_left 1
        · (intro w hSw; (try dsimp only at hSw); go_simp; try with_reducible rfl)
        simp only [Act.put, List.setIfInBounds_toArray, List.set_cons_zero, List.set_cons_succ, List.getElem_toArray, List.getElem_cons_zero, List.getElem_cons_succ]
        refine wpAnyH_take (i := 5) (v := ?_) rfl (by kernel_rfl) (by kernel_rfl) (by kernel_rfl) (fun _ _ _ h => h) (Or.inl ⟨by rfl, ?_⟩) (by assumption) ?_
        rotate_left 1
        · (intro w hSw; (try dsimp only at hSw); go_simp; try with_reducible rfl)
        simp only [Act.put, List.setIfInBounds_toArray, List.set_cons_zero, List.set_cons_succ, List.getElem_toArray, List.getElem_cons_zero, List.getElem_cons_succ]
        refine wpAnyH_take (i := 6) (v := ?_) rfl (by kernel_rfl) (by kernel_rfl) (by kernel_rfl) (fun _ _ _ h => h) (Or.inl ⟨by rfl, ?_⟩) (by assumption) ?_
        rotate_left 1
        · (intro w hSw; (try dsimp only at hSw); go_simp; try with_reducible rfl)
        simp only [Act.put, List.setIfInBounds_toArray, List.set_cons_zero, List.set_cons_succ, List.getElem_toArray, List.getElem_cons_zero, List.getElem_cons_succ]
        refine wpAnyH_take (i := 7) (v := ?_) rfl (by kernel_rfl) (by kernel_rfl) (by kernel_rfl) (fun _ _ _ h => h) (Or.inl ⟨by rfl, ?_⟩) (by assumption) ?_
        rotate_left 1
        · (intro w hSw; (try dsimp only at hSw); go_simp; try with_reducible rfl)
        simp only [Act.put, List.setIfInBounds_toArray, List.set_cons_zero, List.set_cons_succ, List.getElem_toArray, List.getElem_cons_zero, List.getElem_cons_succ]
        refine wpAnyH_ready (rs := [2]) (by kernel_rfl) (by simp) ?_
        refine AllReadyH.cons rfl (fun K hK => ?_) AllReadyH.nil
        go_simp
        refine (Itoa_any k _ (by omega) hg).mono ?_
        rintro e w2 ⟨rfl, b2⟩
        replace B0 := B0.next b2
        replace hx := hx.next b2
        replace hg := hg.next b2
        replace E := E.next b2
        replace Kq := bel_then Kq b2
        clear b2 ce
        have ce := E.cell
        have hsz := numT_size k 2 (by omega) (by decide)
        obtain ⟨N, hN⟩ : ∃ N, numT k = N := ⟨_, rfl⟩
        rw [hN] at hsz
        have HN := Lib.hid hN
        rw [hN]
        clear hN
        have f1 : ¬ 9223372036854775807 < N.size + 1 := by omega
        have f2 : ¬ 9223372036854775807 < N.size + 1 + 7 := by omega
        have f3 : ¬ 9223372036854775807 < N.size + 1 + 7 + 1 := by omega
        have f4 : ¬ 9223372036854775807 < T.size + (N.size + 1 + 7 + 1) := by omega
        go_wp2_with fail
        refine hK.out _ _ (by (try dsimp only); exact ce 0) (fun hHeld => ?_)
        clear hK K
        refine wpAnyH_take (i := 3) (v := ?_) rfl (by kernel_rfl) (by kernel_rfl) (by kernel_rfl) (fun _ _ _ h => h) (Or.inl ⟨by rfl, ?_⟩) (by assumption) ?_
        rotate_left 1
        · (intro w hSw; (try dsimp only at hSw); go_simp; try with_reducible rfl)
        simp only [Act.put, List.setIfInBounds_toArray, List.set_cons_zero, List.set_cons_succ, List.getElem_toArray, List.getElem_cons_zero, List.getElem_cons_succ]
        refine wpAnyH_take (i := 8) (v := ?_) rfl (by kernel_rfl) (by kernel_rfl) (by kernel_rfl) (fun _ _ _ h => h) (Or.inl ⟨by rfl, ?_⟩) (by assumption) ?_
        rotate_left 1
        · (intro w hSw; (try dsimp only at hSw); go_simp; try with_reducible rfl)
        simp only [Act.put, List.setIfInBounds_toArray, List.set_cons_zero, List.set_cons_succ, List.getElem_toArray, List.getElem_cons_zero, List.getElem_cons_succ]
        refine wpAnyH_take (i := 9) (v := ?_) rfl (by kernel_rfl) (by kernel_rfl) (by kernel_rfl) (fun _ _ _ h => h) (Or.inl ⟨by rfl, ?_⟩) (by assumption) ?_
        rotate_left 1
        · (intro w hSw; (try dsimp only at hSw); go_simp; try with_reducible rfl)
        simp only [Act.put, List.setIfInBounds_toArray, List.set_cons_zero, List.set_cons_succ, List.getElem_toArray, List.getElem_cons_zero, List.getElem_cons_succ]
        refine wpAnyH_take (i := 10) (v := ?_) rfl (by kernel_rfl) (by kernel_rfl) (by kernel_rfl) (fun _ _ _ h => h) (Or.inl ⟨by rfl, ?_⟩) (by assumption) ?_
        rotate_left 1
        · (intro w hSw; (try dsimp only at hSw); go_simp; try with_reducible rfl)
        simp only [Act.put, List.setIfInBounds_toArray, List.set_cons_zero, List.set_cons_succ, List.getElem_toArray, List.getElem_cons_zero, List.getElem_cons_succ]
        refine wpAnyH_take (i := 11) (v := ?_) rfl (by kernel_rfl) (by kernel_rfl) (by kernel_rfl) (fun _ _ _ h => h) (Or.inl ⟨by rfl, ?_⟩) (by assumption) ?_
        rotate_left 1
        · (intro w hSw; (try dsimp only at hSw); go_simp; try with_reducible rfl)
        simp only [Act.put, List.setIfInBounds_toArray, List.set_cons_zero, List.set_cons_succ, List.getElem_toArray, List.getElem_cons_zero, List.getElem_cons_succ]
        refine wpAnyH_done (by kernel_rfl) ?_ _
        clear f1 f2 f3 f4 ce c0 c1 c2 c3 c4 ix
        have HT2 := Lib.hid (show linesTo xs (k + 1) = T ++ (N ++ ⟨#[32]⟩ ++ ⟨#[114, 117, 110, 110, 105, 110, 103]⟩ ++ ⟨#[10]⟩) by rw [linesTo_next (by rw [HL.out]; exact hlt), HT.out]; unfold entLine; rw [HW.out, HN.out])
        have hT2 : (T ++ (N ++ ⟨#[32]⟩ ++ ⟨#[114, 117, 110, 110, 105, 110, 103]⟩ ++ ⟨#[10]⟩)).size ≤ 12 * (k + 1) := by simp only [ByteArray.size_append]; have z1 : (⟨#[32]⟩ : ByteArray).size = 1 := rfl; have z2 : (⟨#[10]⟩ : ByteArray).size = 1 := rfl; have z3 : (⟨#[114, 117, 110, 110, 105, 110, 103]⟩ : ByteArray).size = 7 := rfl; omega
        go_wp2_with fail
        go_roundw
        case rel => exact ⟨k + 1, _, by omega, by go_num, rfl, HT2, hT2, B0, hx, hg, Kq⟩
        case measure => simp [intOf]; omega
      · rw [hs] at c0
        have HW := Lib.hid (show wordT xs[k].state = ⟨#[102, 105, 110, 105, 115, 104, 101, 100]⟩ by rw [hs]; rfl)
        clear hs
        have E : Blk (wr.alloc (.cells #[.int .i64 2, .int .i64 xs[k].number, .int .i64 xs[k].start, .int .i64 xs[k].finish, .slice B m d] 56)) wr.heap.size 56 [.int .i64 2, .int .i64 xs[k].number, .int .i64 xs[k].start, .int .i64 xs[k].finish, .slice B m d] := Blk.at_ rfl
        have U : Below wr.heap.size wr (wr.alloc (.cells #[.int .i64 2, .int .i64 xs[k].number, .int .i64 xs[k].start, .int .i64 xs[k].finish, .slice B m d] 56)).drew := bel_then ((Below.refl _ _).alloc (Nat.le_refl _) _) ((Quiet.one _).below _)
        replace E := E.next ((Quiet.one _).below _)
        replace B0 := B0.next U
        replace hx := hx.next U
        replace hg := hg.next U
        have Kq := bel_then K U
        clear K U
        have ix : ∀ w : World, (Instr.index 57 (.agg #[.string ⟨#[101, 110, 116, 101, 114, 101, 100]⟩, .string ⟨#[114, 117, 110, 110, 105, 110, 103]⟩, .string ⟨#[102, 105, 110, 105, 115, 104, 101, 100]⟩, .string ⟨#[103, 105, 118, 101, 110, 32, 117, 112]⟩, .string ⟨#[97, 98, 115, 101, 110, 116]⟩]) (.int .i64 2)).run Tryd.prog w = .ok (.string ⟨#[102, 105, 110, 105, 115, 104, 101, 100]⟩) w := fun _ => by kernel_rfl
        have ce := E.cell
        go_wp2_with fail
        refine wp_region_held_drew (S := fun w' => w'.cell? ⟨wr.heap.size, 0, none⟩ = some (.int .i64 2)) (by kernel_rfl) (by (try dsimp only); exact ce 0) (fun hHeld => ?_)
        refine wpAnyH_take (i := 0) (v := ?_) rfl (by kernel_rfl) (by kernel_rfl) (by kernel_rfl) (fun _ _ _ h => h) (Or.inl ⟨by rfl, ?_⟩) (by assumption) ?_
        rotate_left 1
        · (intro w hSw; (try dsimp only at hSw); go_simp; try with_reducible rfl)
        simp only [Act.put, List.setIfInBounds_toArray, List.set_cons_zero, List.set_cons_succ, List.getElem_toArray, List.getElem_cons_zero]
        refine wpAnyH_take (i := 1) (v := ?_) rfl (by kernel_rfl) (by kernel_rfl) (by kernel_rfl) (fun _ _ _ h => h) (Or.inl ⟨by rfl, ?_⟩) (by assumption) ?_
        rotate_left 1
        · (intro w hSw; (try dsimp only at hSw); go_simp; try with_reducible rfl)
        simp only [Act.put, List.setIfInBounds_toArray, List.set_cons_zero, List.set_cons_succ, List.getElem_toArray, List.getElem_cons_zero, List.getElem_cons_succ]
        refine wpAnyH_take (i := 4) (v := ?_) rfl (by kernel_rfl) (by kernel_rfl) (by kernel_rfl) (fun _ _ _ h => h) (Or.inl ⟨by rfl, ?_⟩) (by assumption) ?_
        rotate_left 1
        · (intro w hSw; (try dsimp only at hSw); go_simp; try with_reducible rfl)
        simp only [Act.put, List.setIfInBounds_toArray, List.set_cons_zero, List.set_cons_succ, List.getElem_toArray, List.getElem_cons_zero, List.getElem_cons_succ]
        refine wpAnyH_take (i := 5) (v := ?_) rfl (by kernel_rfl) (by kernel_rfl) (by kernel_rfl) (fun _ _ _ h => h) (Or.inl ⟨by rfl, ?_⟩) (by assumption) ?_
        rotate_left 1
        · (intro w hSw; (try dsimp only at hSw); go_simp; try with_reducible rfl)
        simp only [Act.put, List.setIfInBounds_toArray, List.set_cons_zero, List.set_cons_succ, List.getElem_toArray, List.getElem_cons_zero, List.getElem_cons_succ]
        refine wpAnyH_take (i := 6) (v := ?_) rfl (by kernel_rfl) (by kernel_rfl) (by kernel_rfl) (fun _ _ _ h => h) (Or.inl ⟨by rfl, ?_⟩) (by assumption) ?_
        rotate_left 1
        · (intro w hSw; (try dsimp only at hSw); go_simp; try with_reducible rfl)
        simp only [Act.put, List.setIfInBounds_toArray, List.set_cons_zero, List.set_cons_succ, List.getElem_toArray, List.getElem_cons_zero, List.getElem_cons_succ]
        refine wpAnyH_take (i := 7) (v := ?_) rfl (by kernel_rfl) (by kernel_rfl) (by kernel_rfl) (fun _ _ _ h => h) (Or.inl ⟨by rfl, ?_⟩) (by assumption) ?_
        rotate_left 1
        · (intro w hSw; (try dsimp only at hSw); go_simp; try with_reducible rfl)
        simp only [Act.put, List.setIfInBounds_toArray, List.set_cons_zero, List.set_cons_succ, List.getElem_toArray, List.getElem_cons_zero, List.getElem_cons_succ]
        refine wpAnyH_ready (rs := [2]) (by kernel_rfl) (by simp) ?_
        refine AllReadyH.cons rfl (fun K hK => ?_) AllReadyH.nil
        go_simp
        refine (Itoa_any k _ (by omega) hg).mono ?_
        rintro e w2 ⟨rfl, b2⟩
        replace B0 := B0.next b2
        replace hx := hx.next b2
        replace hg := hg.next b2
        replace E := E.next b2
        replace Kq := bel_then Kq b2
        clear b2 ce
        have ce := E.cell
        have hsz := numT_size k 2 (by omega) (by decide)
        obtain ⟨N, hN⟩ : ∃ N, numT k = N := ⟨_, rfl⟩
        rw [hN] at hsz
        have HN := Lib.hid hN
        rw [hN]
        clear hN
        have f1 : ¬ 9223372036854775807 < N.size + 1 := by omega
        have f2 : ¬ 9223372036854775807 < N.size + 1 + 8 := by omega
        have f3 : ¬ 9223372036854775807 < N.size + 1 + 8 + 1 := by omega
        have f4 : ¬ 9223372036854775807 < T.size + (N.size + 1 + 8 + 1) := by omega
        go_wp2_with fail
        refine hK.out _ _ (by (try dsimp only); exact ce 0) (fun hHeld => ?_)
        clear hK K
        refine wpAnyH_take (i := 3) (v := ?_) rfl (by kernel_rfl) (by kernel_rfl) (by kernel_rfl) (fun _ _ _ h => h) (Or.inl ⟨by rfl, ?_⟩) (by assumption) ?_
        rotate_left 1
        · (intro w hSw; (try dsimp only at hSw); go_simp; try with_reducible rfl)
        simp only [Act.put, List.setIfInBounds_toArray, List.set_cons_zero, List.set_cons_succ, List.getElem_toArray, List.getElem_cons_zero, List.getElem_cons_succ]
        refine wpAnyH_take (i := 8) (v := ?_) rfl (by kernel_rfl) (by kernel_rfl) (by kernel_rfl) (fun _ _ _ h => h) (Or.inl ⟨by rfl, ?_⟩) (by assumption) ?_
        rotate_left 1
        · (intro w hSw; (try dsimp only at hSw); go_simp; try with_reducible rfl)
        simp only [Act.put, List.setIfInBounds_toArray, List.set_cons_zero, List.set_cons_succ, List.getElem_toArray, List.getElem_cons_zero, List.getElem_cons_succ]
        refine wpAnyH_take (i := 9) (v := ?_) rfl (by kernel_rfl) (by kernel_rfl) (by kernel_rfl) (fun _ _ _ h => h) (Or.inl ⟨by rfl, ?_⟩) (by assumption) ?_
        rotate_left 1
        · (intro w hSw; (try dsimp only at hSw); go_simp; try with_reducible rfl)
        simp only [Act.put, List.setIfInBounds_toArray, List.set_cons_zero, List.set_cons_succ, List.getElem_toArray, List.getElem_cons_zero, List.getElem_cons_succ]
        refine wpAnyH_take (i := 10) (v := ?_) rfl (by kernel_rfl) (by kernel_rfl) (by kernel_rfl) (fun _ _ _ h => h) (Or.inl ⟨by rfl, ?_⟩) (by assumption) ?_
        rotate_left 1
        · (intro w hSw; (try dsimp only at hSw); go_simp; try with_reducible rfl)
        simp only [Act.put, List.setIfInBounds_toArray, List.set_cons_zero, List.set_cons_succ, List.getElem_toArray, List.getElem_cons_zero, List.getElem_cons_succ]
        refine wpAnyH_take (i := 11) (v := ?_) rfl (by kernel_rfl) (by kernel_rfl) (by kernel_rfl) (fun _ _ _ h => h) (Or.inl ⟨by rfl, ?_⟩) (by assumption) ?_
        rotate_left 1
        · (intro w hSw; (try dsimp only at hSw); go_simp; try with_reducible rfl)
        simp only [Act.put, List.setIfInBounds_toArray, List.set_cons_zero, List.set_cons_succ, List.getElem_toArray, List.getElem_cons_zero, List.getElem_cons_succ]
        refine wpAnyH_done (by kernel_rfl) ?_ _
        clear f1 f2 f3 f4 ce c0 c1 c2 c3 c4 ix
        have HT2 := Lib.hid (show linesTo xs (k + 1) = T ++ (N ++ ⟨#[32]⟩ ++ ⟨#[102, 105, 110, 105, 115, 104, 101, 100]⟩ ++ ⟨#[10]⟩) by rw [linesTo_next (by rw [HL.out]; exact hlt), HT.out]; unfold entLine; rw [HW.out, HN.out])
        have hT2 : (T ++ (N ++ ⟨#[32]⟩ ++ ⟨#[102, 105, 110, 105, 115, 104, 101, 100]⟩ ++ ⟨#[10]⟩)).size ≤ 12 * (k + 1) := by simp only [ByteArray.size_append]; have z1 : (⟨#[32]⟩ : ByteArray).size = 1 := rfl; have z2 : (⟨#[10]⟩ : ByteArray).size = 1 := rfl; have z3 : (⟨#[102, 105, 110, 105, 115, 104, 101, 100]⟩ : ByteArray).size = 8 := rfl; omega
        go_wp2_with fail
        go_roundw
        case rel => exact ⟨k + 1, _, by omega, by go_num, rfl, HT2, hT2, B0, hx, hg, Kq⟩
        case measure => simp [intOf]; omega
      · rw [hs] at c0
        have HW := Lib.hid (show wordT xs[k].state = ⟨#[103, 105, 118, 101, 110, 32, 117, 112]⟩ by rw [hs]; rfl)
        clear hs
        have E : Blk (wr.alloc (.cells #[.int .i64 3, .int .i64 xs[k].number, .int .i64 xs[k].start, .int .i64 xs[k].finish, .slice B m d] 56)) wr.heap.size 56 [.int .i64 3, .int .i64 xs[k].number, .int .i64 xs[k].start, .int .i64 xs[k].finish, .slice B m d] := Blk.at_ rfl
        have U : Below wr.heap.size wr (wr.alloc (.cells #[.int .i64 3, .int .i64 xs[k].number, .int .i64 xs[k].start, .int .i64 xs[k].finish, .slice B m d] 56)).drew := bel_then ((Below.refl _ _).alloc (Nat.le_refl _) _) ((Quiet.one _).below _)
        replace E := E.next ((Quiet.one _).below _)
        replace B0 := B0.next U
        replace hx := hx.next U
        replace hg := hg.next U
        have Kq := bel_then K U
        clear K U
        have ix : ∀ w : World, (Instr.index 57 (.agg #[.string ⟨#[101, 110, 116, 101, 114, 101, 100]⟩, .string ⟨#[114, 117, 110, 110, 105, 110, 103]⟩, .string ⟨#[102, 105, 110, 105, 115, 104, 101, 100]⟩, .string ⟨#[103, 105, 118, 101, 110, 32, 117, 112]⟩, .string ⟨#[97, 98, 115, 101, 110, 116]⟩]) (.int .i64 3)).run Tryd.prog w = .ok (.string ⟨#[103, 105, 118, 101, 110, 32, 117, 112]⟩) w := fun _ => by kernel_rfl
        have ce := E.cell
        go_wp2_with fail
        refine wp_region_held_drew (S := fun w' => w'.cell? ⟨wr.heap.size, 0, none⟩ = some (.int .i64 3)) (by kernel_rfl) (by (try dsimp only); exact ce 0) (fun hHeld => ?_)
        refine wpAnyH_take (i := 0) (v := ?_) rfl (by kernel_rfl) (by kernel_rfl) (by kernel_rfl) (fun _ _ _ h => h) (Or.inl ⟨by rfl, ?_⟩) (by assumption) ?_
        rotate_left 1
        · (intro w hSw; (try dsimp only at hSw); go_simp; try with_reducible rfl)
        simp only [Act.put, List.setIfInBounds_toArray, List.set_cons_zero, List.set_cons_succ, List.getElem_toArray, List.getElem_cons_zero]
        refine wpAnyH_take (i := 1) (v := ?_) rfl (by kernel_rfl) (by kernel_rfl) (by kernel_rfl) (fun _ _ _ h => h) (Or.inl ⟨by rfl, ?_⟩) (by assumption) ?_
        rotate_left 1
        · (intro w hSw; (try dsimp only at hSw); go_simp; try with_reducible rfl)
        simp only [Act.put, List.setIfInBounds_toArray, List.set_cons_zero, List.set_cons_succ, List.getElem_toArray, List.getElem_cons_zero, List.getElem_cons_succ]
        refine wpAnyH_take (i := 4) (v := ?_) rfl (by kernel_rfl) (by kernel_rfl) (by kernel_rfl) (fun _ _ _ h => h) (Or.inl ⟨by rfl, ?_⟩) (by assumption) ?_
        rotate_left 1
        · (intro w hSw; (try dsimp only at hSw); go_simp; try with_reducible rfl)
        simp only [Act.put, List.setIfInBounds_toArray, List.set_cons_zero, List.set_cons_succ, List.getElem_toArray, List.getElem_cons_zero, List.getElem_cons_succ]
        refine wpAnyH_take (i := 5) (v := ?_) rfl (by kernel_rfl) (by kernel_rfl) (by kernel_rfl) (fun _ _ _ h => h) (Or.inl ⟨by rfl, ?_⟩) (by assumption) ?_
        rotate_left 1
        · (intro w hSw; (try dsimp only at hSw); go_simp; try with_reducible rfl)
        simp only [Act.put, List.setIfInBounds_toArray, List.set_cons_zero, List.set_cons_succ, List.getElem_toArray, List.getElem_cons_zero, List.getElem_cons_succ]
        refine wpAnyH_take (i := 6) (v := ?_) rfl (by kernel_rfl) (by kernel_rfl) (by kernel_rfl) (fun _ _ _ h => h) (Or.inl ⟨by rfl, ?_⟩) (by assumption) ?_
        rotate_left 1
        · (intro w hSw; (try dsimp only at hSw); go_simp; try with_reducible rfl)
        simp only [Act.put, List.setIfInBounds_toArray, List.set_cons_zero, List.set_cons_succ, List.getElem_toArray, List.getElem_cons_zero, List.getElem_cons_succ]
        refine wpAnyH_take (i := 7) (v := ?_) rfl (by kernel_rfl) (by kernel_rfl) (by kernel_rfl) (fun _ _ _ h => h) (Or.inl ⟨by rfl, ?_⟩) (by assumption) ?_
        rotate_left 1
        · (intro w hSw; (try dsimp only at hSw); go_simp; try with_reducible rfl)
        simp only [Act.put, List.setIfInBounds_toArray, List.set_cons_zero, List.set_cons_succ, List.getElem_toArray, List.getElem_cons_zero, List.getElem_cons_succ]
        refine wpAnyH_ready (rs := [2]) (by kernel_rfl) (by simp) ?_
        refine AllReadyH.cons rfl (fun K hK => ?_) AllReadyH.nil
        go_simp
        refine (Itoa_any k _ (by omega) hg).mono ?_
        rintro e w2 ⟨rfl, b2⟩
        replace B0 := B0.next b2
        replace hx := hx.next b2
        replace hg := hg.next b2
        replace E := E.next b2
        replace Kq := bel_then Kq b2
        clear b2 ce
        have ce := E.cell
        have hsz := numT_size k 2 (by omega) (by decide)
        obtain ⟨N, hN⟩ : ∃ N, numT k = N := ⟨_, rfl⟩
        rw [hN] at hsz
        have HN := Lib.hid hN
        rw [hN]
        clear hN
        have f1 : ¬ 9223372036854775807 < N.size + 1 := by omega
        have f2 : ¬ 9223372036854775807 < N.size + 1 + 8 := by omega
        have f3 : ¬ 9223372036854775807 < N.size + 1 + 8 + 1 := by omega
        have f4 : ¬ 9223372036854775807 < T.size + (N.size + 1 + 8 + 1) := by omega
        go_wp2_with fail
        refine hK.out _ _ (by (try dsimp only); exact ce 0) (fun hHeld => ?_)
        clear hK K
        refine wpAnyH_take (i := 3) (v := ?_) rfl (by kernel_rfl) (by kernel_rfl) (by kernel_rfl) (fun _ _ _ h => h) (Or.inl ⟨by rfl, ?_⟩) (by assumption) ?_
        rotate_left 1
        · (intro w hSw; (try dsimp only at hSw); go_simp; try with_reducible rfl)
        simp only [Act.put, List.setIfInBounds_toArray, List.set_cons_zero, List.set_cons_succ, List.getElem_toArray, List.getElem_cons_zero, List.getElem_cons_succ]
        refine wpAnyH_take (i := 8) (v := ?_) rfl (by kernel_rfl) (by kernel_rfl) (by kernel_rfl) (fun _ _ _ h => h) (Or.inl ⟨by rfl, ?_⟩) (by assumption) ?_
        rotate_left 1
        · (intro w hSw; (try dsimp only at hSw); go_simp; try with_reducible rfl)
        simp only [Act.put, List.setIfInBounds_toArray, List.set_cons_zero, List.set_cons_succ, List.getElem_toArray, List.getElem_cons_zero, List.getElem_cons_succ]
        refine wpAnyH_take (i := 9) (v := ?_) rfl (by kernel_rfl) (by kernel_rfl) (by kernel_rfl) (fun _ _ _ h => h) (Or.inl ⟨by rfl, ?_⟩) (by assumption) ?_
        rotate_left 1
        · (intro w hSw; (try dsimp only at hSw); go_simp; try with_reducible rfl)
        simp only [Act.put, List.setIfInBounds_toArray, List.set_cons_zero, List.set_cons_succ, List.getElem_toArray, List.getElem_cons_zero, List.getElem_cons_succ]
        refine wpAnyH_take (i := 10) (v := ?_) rfl (by kernel_rfl) (by kernel_rfl) (by kernel_rfl) (fun _ _ _ h => h) (Or.inl ⟨by rfl, ?_⟩) (by assumption) ?_
        rotate_left 1
        · (intro w hSw; (try dsimp only at hSw); go_simp; try with_reducible rfl)
        simp only [Act.put, List.setIfInBounds_toArray, List.set_cons_zero, List.set_cons_succ, List.getElem_toArray, List.getElem_cons_zero, List.getElem_cons_succ]
        refine wpAnyH_take (i := 11) (v := ?_) rfl (by kernel_rfl) (by kernel_rfl) (by kernel_rfl) (fun _ _ _ h => h) (Or.inl ⟨by rfl, ?_⟩) (by assumption) ?_
        rotate_left 1
        · (intro w hSw; (try dsimp only at hSw); go_simp; try with_reducible rfl)
        simp only [Act.put, List.setIfInBounds_toArray, List.set_cons_zero, List.set_cons_succ, List.getElem_toArray, List.getElem_cons_zero, List.getElem_cons_succ]
        refine wpAnyH_done (by kernel_rfl) ?_ _
        clear f1 f2 f3 f4 ce c0 c1 c2 c3 c4 ix
        have HT2 := Lib.hid (show linesTo xs (k + 1) = T ++ (N ++ ⟨#[32]⟩ ++ ⟨#[103, 105, 118, 101, 110, 32, 117, 112]⟩ ++ ⟨#[10]⟩) by rw [linesTo_next (by rw [HL.out]; exact hlt), HT.out]; unfold entLine; rw [HW.out, HN.out])
        have hT2 : (T ++ (N ++ ⟨#[32]⟩ ++ ⟨#[103, 105, 118, 101, 110, 32, 117, 112]⟩ ++ ⟨#[10]⟩)).size ≤ 12 * (k + 1) := by simp only [ByteArray.size_append]; have z1 : (⟨#[32]⟩ : ByteArray).size = 1 := rfl; have z2 : (⟨#[10]⟩ : ByteArray).size = 1 := rfl; have z3 : (⟨#[103, 105, 118, 101, 110, 32, 117, 112]⟩ : ByteArray).size = 8 := rfl; omega
        go_wp2_with fail
        go_roundw
        case rel => exact ⟨k + 1, _, by omega, by go_num, rfl, HT2, hT2, B0, hx, hg, Kq⟩
        case measure => simp [intOf]; omega
      · rw [hs] at c0
        have HW := Lib.hid (show wordT xs[k].state = ⟨#[97, 98, 115, 101, 110, 116]⟩ by rw [hs]; rfl)
        clear hs
        have E : Blk (wr.alloc (.cells #[.int .i64 4, .int .i64 xs[k].number, .int .i64 xs[k].start, .int .i64 xs[k].finish, .slice B m d] 56)) wr.heap.size 56 [.int .i64 4, .int .i64 xs[k].number, .int .i64 xs[k].start, .int .i64 xs[k].finish, .slice B m d] := Blk.at_ rfl
        have U : Below wr.heap.size wr (wr.alloc (.cells #[.int .i64 4, .int .i64 xs[k].number, .int .i64 xs[k].start, .int .i64 xs[k].finish, .slice B m d] 56)).drew := bel_then ((Below.refl _ _).alloc (Nat.le_refl _) _) ((Quiet.one _).below _)
        replace E := E.next ((Quiet.one _).below _)
        replace B0 := B0.next U
        replace hx := hx.next U
        replace hg := hg.next U
        have Kq := bel_then K U
        clear K U
        have ix : ∀ w : World, (Instr.index 57 (.agg #[.string ⟨#[101, 110, 116, 101, 114, 101, 100]⟩, .string ⟨#[114, 117, 110, 110, 105, 110, 103]⟩, .string ⟨#[102, 105, 110, 105, 115, 104, 101, 100]⟩, .string ⟨#[103, 105, 118, 101, 110, 32, 117, 112]⟩, .string ⟨#[97, 98, 115, 101, 110, 116]⟩]) (.int .i64 4)).run Tryd.prog w = .ok (.string ⟨#[97, 98, 115, 101, 110, 116]⟩) w := fun _ => by kernel_rfl
        have ce := E.cell
        go_wp2_with fail
        refine wp_region_held_drew (S := fun w' => w'.cell? ⟨wr.heap.size, 0, none⟩ = some (.int .i64 4)) (by kernel_rfl) (by (try dsimp only); exact ce 0) (fun hHeld => ?_)
        refine wpAnyH_take (i := 0) (v := ?_) rfl (by kernel_rfl) (by kernel_rfl) (by kernel_rfl) (fun _ _ _ h => h) (Or.inl ⟨by rfl, ?_⟩) (by assumption) ?_
        rotate_left 1
        · (intro w hSw; (try dsimp only at hSw); go_simp; try with_reducible rfl)
        simp only [Act.put, List.setIfInBounds_toArray, List.set_cons_zero, List.set_cons_succ, List.getElem_toArray, List.getElem_cons_zero]
        refine wpAnyH_take (i := 1) (v := ?_) rfl (by kernel_rfl) (by kernel_rfl) (by kernel_rfl) (fun _ _ _ h => h) (Or.inl ⟨by rfl, ?_⟩) (by assumption) ?_
        rotate_left 1
        · (intro w hSw; (try dsimp only at hSw); go_simp; try with_reducible rfl)
        simp only [Act.put, List.setIfInBounds_toArray, List.set_cons_zero, List.set_cons_succ, List.getElem_toArray, List.getElem_cons_zero, List.getElem_cons_succ]
        refine wpAnyH_take (i := 4) (v := ?_) rfl (by kernel_rfl) (by kernel_rfl) (by kernel_rfl) (fun _ _ _ h => h) (Or.inl ⟨by rfl, ?_⟩) (by assumption) ?_
        rotate_left 1
        · (intro w hSw; (try dsimp only at hSw); go_simp; try with_reducible rfl)
        simp only [Act.put, List.setIfInBounds_toArray, List.set_cons_zero, List.set_cons_succ, List.getElem_toArray, List.getElem_cons_zero, List.getElem_cons_succ]
        refine wpAnyH_take (i := 5) (v := ?_) rfl (by kernel_rfl) (by kernel_rfl) (by kernel_rfl) (fun _ _ _ h => h) (Or.inl ⟨by rfl, ?_⟩) (by assumption) ?_
        rotate_left 1
        · (intro w hSw; (try dsimp only at hSw); go_simp; try with_reducible rfl)
        simp only [Act.put, List.setIfInBounds_toArray, List.set_cons_zero, List.set_cons_succ, List.getElem_toArray, List.getElem_cons_zero, List.getElem_cons_succ]
        refine wpAnyH_take (i := 6) (v := ?_) rfl (by kernel_rfl) (by kernel_rfl) (by kernel_rfl) (fun _ _ _ h => h) (Or.inl ⟨by rfl, ?_⟩) (by assumption) ?_
        rotate_left 1
        · (intro w hSw; (try dsimp only at hSw); go_simp; try with_reducible rfl)
        simp only [Act.put, List.setIfInBounds_toArray, List.set_cons_zero, List.set_cons_succ, List.getElem_toArray, List.getElem_cons_zero, List.getElem_cons_succ]
        refine wpAnyH_take (i := 7) (v := ?_) rfl (by kernel_rfl) (by kernel_rfl) (by kernel_rfl) (fun _ _ _ h => h) (Or.inl ⟨by rfl, ?_⟩) (by assumption) ?_
        rotate_left 1
        · (intro w hSw; (try dsimp only at hSw); go_simp; try with_reducible rfl)
        simp only [Act.put, List.setIfInBounds_toArray, List.set_cons_zero, List.set_cons_succ, List.getElem_toArray, List.getElem_cons_zero, List.getElem_cons_succ]
        refine wpAnyH_ready (rs := [2]) (by kernel_rfl) (by simp) ?_
        refine AllReadyH.cons rfl (fun K hK => ?_) AllReadyH.nil
        go_simp
        refine (Itoa_any k _ (by omega) hg).mono ?_
        rintro e w2 ⟨rfl, b2⟩
        replace B0 := B0.next b2
        replace hx := hx.next b2
        replace hg := hg.next b2
        replace E := E.next b2
        replace Kq := bel_then Kq b2
        clear b2 ce
        have ce := E.cell
        have hsz := numT_size k 2 (by omega) (by decide)
        obtain ⟨N, hN⟩ : ∃ N, numT k = N := ⟨_, rfl⟩
        rw [hN] at hsz
        have HN := Lib.hid hN
        rw [hN]
        clear hN
        have f1 : ¬ 9223372036854775807 < N.size + 1 := by omega
        have f2 : ¬ 9223372036854775807 < N.size + 1 + 6 := by omega
        have f3 : ¬ 9223372036854775807 < N.size + 1 + 6 + 1 := by omega
        have f4 : ¬ 9223372036854775807 < T.size + (N.size + 1 + 6 + 1) := by omega
        go_wp2_with fail
        refine hK.out _ _ (by (try dsimp only); exact ce 0) (fun hHeld => ?_)
        clear hK K
        refine wpAnyH_take (i := 3) (v := ?_) rfl (by kernel_rfl) (by kernel_rfl) (by kernel_rfl) (fun _ _ _ h => h) (Or.inl ⟨by rfl, ?_⟩) (by assumption) ?_
        rotate_left 1
        · (intro w hSw; (try dsimp only at hSw); go_simp; try with_reducible rfl)
        simp only [Act.put, List.setIfInBounds_toArray, List.set_cons_zero, List.set_cons_succ, List.getElem_toArray, List.getElem_cons_zero, List.getElem_cons_succ]
        refine wpAnyH_take (i := 8) (v := ?_) rfl (by kernel_rfl) (by kernel_rfl) (by kernel_rfl) (fun _ _ _ h => h) (Or.inl ⟨by rfl, ?_⟩) (by assumption) ?_
        rotate_left 1
        · (intro w hSw; (try dsimp only at hSw); go_simp; try with_reducible rfl)
        simp only [Act.put, List.setIfInBounds_toArray, List.set_cons_zero, List.set_cons_succ, List.getElem_toArray, List.getElem_cons_zero, List.getElem_cons_succ]
        refine wpAnyH_take (i := 9) (v := ?_) rfl (by kernel_rfl) (by kernel_rfl) (by kernel_rfl) (fun _ _ _ h => h) (Or.inl ⟨by rfl, ?_⟩) (by assumption) ?_
        rotate_left 1
        · (intro w hSw; (try dsimp only at hSw); go_simp; try with_reducible rfl)
        simp only [Act.put, List.setIfInBounds_toArray, List.set_cons_zero, List.set_cons_succ, List.getElem_toArray, List.getElem_cons_zero, List.getElem_cons_succ]
        refine wpAnyH_take (i := 10) (v := ?_) rfl (by kernel_rfl) (by kernel_rfl) (by kernel_rfl) (fun _ _ _ h => h) (Or.inl ⟨by rfl, ?_⟩) (by assumption) ?_
        rotate_left 1
        · (intro w hSw; (try dsimp only at hSw); go_simp; try with_reducible rfl)
        simp only [Act.put, List.setIfInBounds_toArray, List.set_cons_zero, List.set_cons_succ, List.getElem_toArray, List.getElem_cons_zero, List.getElem_cons_succ]
        refine wpAnyH_take (i := 11) (v := ?_) rfl (by kernel_rfl) (by kernel_rfl) (by kernel_rfl) (fun _ _ _ h => h) (Or.inl ⟨by rfl, ?_⟩) (by assumption) ?_
        rotate_left 1
        · (intro w hSw; (try dsimp only at hSw); go_simp; try with_reducible rfl)
        simp only [Act.put, List.setIfInBounds_toArray, List.set_cons_zero, List.set_cons_succ, List.getElem_toArray, List.getElem_cons_zero, List.getElem_cons_succ]
        refine wpAnyH_done (by kernel_rfl) ?_ _
        clear f1 f2 f3 f4 ce c0 c1 c2 c3 c4 ix
        have HT2 := Lib.hid (show linesTo xs (k + 1) = T ++ (N ++ ⟨#[32]⟩ ++ ⟨#[97, 98, 115, 101, 110, 116]⟩ ++ ⟨#[10]⟩) by rw [linesTo_next (by rw [HL.out]; exact hlt), HT.out]; unfold entLine; rw [HW.out, HN.out])
        have hT2 : (T ++ (N ++ ⟨#[32]⟩ ++ ⟨#[97, 98, 115, 101, 110, 116]⟩ ++ ⟨#[10]⟩)).size ≤ 12 * (k + 1) := by simp only [ByteArray.size_append]; have z1 : (⟨#[32]⟩ : ByteArray).size = 1 := rfl; have z2 : (⟨#[10]⟩ : ByteArray).size = 1 := rfl; have z3 : (⟨#[97, 98, 115, 101, 110, 116]⟩ : ByteArray).size = 6 := rfl; omega
        go_wp2_with fail
        go_roundw
        case rel => exact ⟨k + 1, _, by omega, by go_num, rfl, HT2, hT2, B0, hx, hg, Kq⟩
        case measure => simp [intOf]; omega
    · obtain rfl : k = n := by omega
      clear hlt
      have hg2 := hg.next ((Quiet.one wr).below wr.heap.size)
      have B2 := B0.next ((Quiet.one wr).below wr.heap.size)
      have Kq := bel_then K ((Quiet.one wr).below wr.heap.size)
      clear K hg B0
      have cm := B2.cell
      have hP := numT_size p 5 (by omega) (by decide)
      have hQ := numT_size q 2 (by omega) (by decide)
      have HFT := Lib.hid (show formT p q xs = T ++ ⟨#[99, 108, 111, 99, 107, 32]⟩ ++ numT p ++ ⟨#[59, 32, 114, 101, 99, 111, 114, 100, 115, 32]⟩ ++ numT q ++ ⟨#[10]⟩ by unfold formT; rw [HL.out, HT.out])
      obtain ⟨P, hPe⟩ : ∃ P, numT p = P := ⟨_, rfl⟩
      obtain ⟨Q, hQe⟩ : ∃ Q, numT q = Q := ⟨_, rfl⟩
      rw [hPe] at hP HFT
      rw [hQe] at hQ HFT
      have HP := Lib.hid hPe
      have HQ := Lib.hid hQe
      clear hPe hQe
      have f1 : ¬ 9223372036854775807 < T.size + 6 := by omega
      have f2 : ¬ 9223372036854775807 < T.size + 6 + P.size := by omega
      have f3 : ¬ 9223372036854775807 < T.size + 6 + P.size + 10 := by omega
      have f4 : ¬ 9223372036854775807 < T.size + 6 + P.size + 10 + Q.size := by omega
      have f5 : ¬ 9223372036854775807 < T.size + 6 + P.size + 10 + Q.size + 1 := by omega
      clear hx
      go_wp2_with fail
      refine wp_region_held_drew (S := fun w' => w'.cell? ⟨w.heap.size, 0, none⟩ = some (.int .i64 (p : Int)) ∧ w'.cell? ⟨w.heap.size, 5, none⟩ = some (.int .i64 (q : Int))) (by kernel_rfl) (by (try dsimp only); exact ⟨cm 0, cm 5⟩) (fun hHeld => ?_)
      refine wpAnyH_take (i := 0) (v := ?_) rfl (by kernel_rfl) (by kernel_rfl) (by kernel_rfl) (fun _ _ _ h => h) (Or.inl ⟨by rfl, ?_⟩) (by assumption) ?_
      rotate_left 1
      · (intro w hSw; (try dsimp only at hSw); go_simp; try with_reducible rfl)
      simp only [Act.put, List.setIfInBounds_toArray, List.set_cons_zero, List.set_cons_succ, List.getElem_toArray, List.getElem_cons_zero]
      refine wpAnyH_take (i := 1) (v := ?_) rfl (by kernel_rfl) (by kernel_rfl) (by kernel_rfl) (fun _ _ _ h => h) (Or.inl ⟨by rfl, ?_⟩) (by assumption) ?_
      rotate_left 1
      · (intro w hSw; (try dsimp only at hSw); go_simp; try with_reducible rfl)
      simp only [Act.put, List.setIfInBounds_toArray, List.set_cons_zero, List.set_cons_succ, List.getElem_toArray, List.getElem_cons_zero, List.getElem_cons_succ]
      refine wpAnyH_take (i := 2) (v := ?_) rfl (by kernel_rfl) (by kernel_rfl) (by kernel_rfl) (fun _ _ _ h => h) (Or.inl ⟨by rfl, ?_⟩) (by assumption) ?_
      rotate_left 1
      · (intro w hSw; (try dsimp only at hSw); go_simp; try with_reducible rfl)
      simp only [Act.put, List.setIfInBounds_toArray, List.set_cons_zero, List.set_cons_succ, List.getElem_toArray, List.getElem_cons_zero, List.getElem_cons_succ]
      refine wpAnyH_take (i := 3) (v := ?_) rfl (by kernel_rfl) (by kernel_rfl) (by kernel_rfl) (fun _ _ _ h => h) (Or.inl ⟨by rfl, ?_⟩) (by assumption) ?_
      rotate_left 1
      · (intro w hSw; (try dsimp only at hSw); go_simp; try with_reducible rfl)
      simp only [Act.put, List.setIfInBounds_toArray, List.set_cons_zero, List.set_cons_succ, List.getElem_toArray, List.getElem_cons_zero, List.getElem_cons_succ]
      refine wpAnyH_take (i := 4) (v := ?_) rfl (by kernel_rfl) (by kernel_rfl) (by kernel_rfl) (fun _ _ _ h => h) (Or.inl ⟨by rfl, ?_⟩) (by assumption) ?_
      rotate_left 1
      · (intro w hSw; (try dsimp only at hSw); go_simp; try with_reducible rfl)
      simp only [Act.put, List.setIfInBounds_toArray, List.set_cons_zero, List.set_cons_succ, List.getElem_toArray, List.getElem_cons_zero, List.getElem_cons_succ]
      refine wpAnyH_take (i := 8) (v := ?_) rfl (by kernel_rfl) (by kernel_rfl) (by kernel_rfl) (fun _ _ _ h => h) (Or.inl ⟨by rfl, ?_⟩) (by assumption) ?_
      rotate_left 1
      · (intro w hSw; (try dsimp only at hSw); go_simp; try with_reducible rfl)
      simp only [Act.put, List.setIfInBounds_toArray, List.set_cons_zero, List.set_cons_succ, List.getElem_toArray, List.getElem_cons_zero, List.getElem_cons_succ]
      refine wpAnyH_take (i := 9) (v := ?_) rfl (by kernel_rfl) (by kernel_rfl) (by kernel_rfl) (fun _ _ _ h => h) (Or.inl ⟨by rfl, ?_⟩) (by assumption) ?_
      rotate_left 1
      · (intro w hSw; (try dsimp only at hSw); go_simp; try with_reducible rfl)
      simp only [Act.put, List.setIfInBounds_toArray, List.set_cons_zero, List.set_cons_succ, List.getElem_toArray, List.getElem_cons_zero, List.getElem_cons_succ]
      refine wpAnyH_take (i := 10) (v := ?_) rfl (by kernel_rfl) (by kernel_rfl) (by kernel_rfl) (fun _ _ _ h => h) (Or.inl ⟨by rfl, ?_⟩) (by assumption) ?_
      rotate_left 1
      · (intro w hSw; (try dsimp only at hSw); go_simp; try with_reducible rfl)
      simp only [Act.put, List.setIfInBounds_toArray, List.set_cons_zero, List.set_cons_succ, List.getElem_toArray, List.getElem_cons_zero, List.getElem_cons_succ]
      refine wpAnyH_ready (rs := [5]) (by kernel_rfl) (by simp) ?_
      refine AllReadyH.cons rfl (fun K hK => ?_) AllReadyH.nil
      go_simp
      refine (Itoa_any p _ (by omega) hg2).mono ?_
      rw [HP.out]
      rintro e w9 ⟨rfl, b2⟩
      replace B2 := B2.next b2
      replace hg2 := hg2.next b2
      replace Kq := bel_then Kq b2
      clear b2 cm
      have cm := B2.cell
      go_wp2_with fail
      refine hK.out _ _ (by (try dsimp only); exact ⟨cm 0, cm 5⟩) (fun hHeld => ?_)
      clear hK K
      refine wpAnyH_take (i := 6) (v := ?_) rfl (by kernel_rfl) (by kernel_rfl) (by kernel_rfl) (fun _ _ _ h => h) (Or.inl ⟨by rfl, ?_⟩) (by assumption) ?_
      rotate_left 1
      · (intro w hSw; (try dsimp only at hSw); go_simp; try with_reducible rfl)
      simp only [Act.put, List.setIfInBounds_toArray, List.set_cons_zero, List.set_cons_succ, List.getElem_toArray, List.getElem_cons_zero, List.getElem_cons_succ]
      refine wpAnyH_take (i := 7) (v := ?_) rfl (by kernel_rfl) (by kernel_rfl) (by kernel_rfl) (fun _ _ _ h => h) (Or.inl ⟨by rfl, ?_⟩) (by assumption) ?_
      rotate_left 1
      · (intro w hSw; (try dsimp only at hSw); go_simp; try with_reducible rfl)
      simp only [Act.put, List.setIfInBounds_toArray, List.set_cons_zero, List.set_cons_succ, List.getElem_toArray, List.getElem_cons_zero, List.getElem_cons_succ]
      refine wpAnyH_ready (rs := [11]) (by kernel_rfl) (by simp) ?_
      refine AllReadyH.cons rfl (fun K hK => ?_) AllReadyH.nil
      go_simp
      refine (Itoa_any q _ (by omega) hg2).mono ?_
      rw [HQ.out]
      rintro e w9 ⟨rfl, b2⟩
      replace B2 := B2.next b2
      replace hg2 := hg2.next b2
      replace Kq := bel_then Kq b2
      clear b2 cm
      have cm := B2.cell
      go_wp2_with fail
      refine hK.out _ _ (by (try dsimp only); exact ⟨cm 0, cm 5⟩) (fun hHeld => ?_)
      clear hK K
      refine wpAnyH_take (i := 12) (v := ?_) rfl (by kernel_rfl) (by kernel_rfl) (by kernel_rfl) (fun _ _ _ h => h) (Or.inl ⟨by rfl, ?_⟩) (by assumption) ?_
      rotate_left 1
      · (intro w hSw; (try dsimp only at hSw); go_simp; try with_reducible rfl)
      simp only [Act.put, List.setIfInBounds_toArray, List.set_cons_zero, List.set_cons_succ, List.getElem_toArray, List.getElem_cons_zero, List.getElem_cons_succ]
      refine wpAnyH_take (i := 13) (v := ?_) rfl (by kernel_rfl) (by kernel_rfl) (by kernel_rfl) (fun _ _ _ h => h) (Or.inl ⟨by rfl, ?_⟩) (by assumption) ?_
      rotate_left 1
      · (intro w hSw; (try dsimp only at hSw); go_simp; try with_reducible rfl)
      simp only [Act.put, List.setIfInBounds_toArray, List.set_cons_zero, List.set_cons_succ, List.getElem_toArray, List.getElem_cons_zero, List.getElem_cons_succ]
      refine wpAnyH_take (i := 14) (v := ?_) rfl (by kernel_rfl) (by kernel_rfl) (by kernel_rfl) (fun _ _ _ h => h) (Or.inl ⟨by rfl, ?_⟩) (by assumption) ?_
      rotate_left 1
      · (intro w hSw; (try dsimp only at hSw); go_simp; try with_reducible rfl)
      simp only [Act.put, List.setIfInBounds_toArray, List.set_cons_zero, List.set_cons_succ, List.getElem_toArray, List.getElem_cons_zero, List.getElem_cons_succ]
      refine wpAnyH_take (i := 15) (v := ?_) rfl (by kernel_rfl) (by kernel_rfl) (by kernel_rfl) (fun _ _ _ h => h) (Or.inl ⟨by rfl, ?_⟩) (by assumption) ?_
      rotate_left 1
      · (intro w hSw; (try dsimp only at hSw); go_simp; try with_reducible rfl)
      simp only [Act.put, List.setIfInBounds_toArray, List.set_cons_zero, List.set_cons_succ, List.getElem_toArray, List.getElem_cons_zero, List.getElem_cons_succ]
      refine wpAnyH_done (by kernel_rfl) ?_ _
      go_wp2_with fail
      go_ret2
      exact ⟨by rw [HF.out, Option.getD_some, HFT.out]; rfl, Kq⟩

end Go.Proofs.YtlhebjlibhpanaaDoor
