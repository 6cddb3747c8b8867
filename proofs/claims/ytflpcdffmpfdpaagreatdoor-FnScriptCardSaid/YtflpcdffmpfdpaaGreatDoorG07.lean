/- Joined texts of this proof: ConFo. -/
import Derived.Test.YtflpcdffmpfdpaaGreatDoorB23
import Derived.Test.YtflpcdffmpfdpaaGreatDoorW01
set_option maxRecDepth 100000
set_option maxHeartbeats 8000000
namespace Go.Proofs.YtflpcdffmpfdpaaGreatDoor
open Go.RowKit
def jr4 (s : Int) : ByteArray := if s = 0 then ⟨#[101, 110, 116, 101, 114, 101, 100]⟩ else if s = 1 then ⟨#[114, 117, 110, 110, 105, 110, 103]⟩ else if s = 2 then ⟨#[102, 105, 110, 105, 115, 104, 101, 100]⟩ else if s = 3 then ⟨#[103, 105, 118, 101, 110, 32, 117, 112]⟩ else ⟨#[97, 98, 115, 101, 110, 116]⟩
def jq7 (i : Nat) (x : Entrant) : ByteArray := jcf i ++ ⟨#[32]⟩ ++ jr4 x.state ++ ⟨#[10]⟩
def jq2 (xs : List Entrant) : Nat → ByteArray
 | 0 => ⟨#[]⟩
 | k + 1 => jq2 xs k ++ (match xs[k]? with | some x => jq7 k x | none => ⟨#[]⟩)
theorem jqz {xs : List Entrant} {k : Nat} (h : k < xs.length) : jq2 xs (k + 1) = jq2 xs k ++ jq7 k xs[k] := by
 rw [jq2, List.getElem?_eq_getElem h]
def jso (p q : Nat) (xs : List Entrant) : ByteArray := jq2 xs xs.length ++ ⟨#[99, 108, 111, 99, 107, 32]⟩ ++ jcf p ++ ⟨#[59, 32, 114, 101, 99, 111, 114, 100, 115, 32]⟩ ++ jcf q ++ ⟨#[10]⟩
def jrl (t : Int) (b : Bool) (l : Log) (xs : List Entrant) : Option ByteArray := if jbf t b xs && ja9 l then some (jso t.toNat l.count.toNat xs) else none
theorem js1 {t : Int} {cl : Bool} {i : Nat} {x : Entrant} (h : jcr t cl i x = true) : x.state = 0 ∨ x.state = 1 ∨ x.state = 2 ∨ x.state = 3 ∨ x.state = 4 := by
 unfold jcr at h
 split at h
 ·exact .inl ‹_›
 ·split at h
  ·exact .inr (.inr (.inr (.inr ‹_›)))
  ·split at h
   ·rename_i h3
    rcases h3 with h3 | h3 | h3
    ·exact .inr (.inl h3)
    ·exact .inr (.inr (.inl h3))
    ·exact .inr (.inr (.inr (.inl h3)))
   ·cases h
theorem jr3 {t : Int} {b : Bool} {l : Log} {xs : List Entrant} (h : (jbf t b xs && ja9 l) = true) : (∃ p : Nat, t = p ∧ p ≤ 36000) ∧ (∃ q : Nat, l.count = q ∧ q ≤ 60) ∧ xs.length ≤ 8 ∧ ∀ (k : Nat) (hk : k < xs.length), xs[k].state = 0 ∨ xs[k].state = 1 ∨ xs[k].state = 2 ∨ xs[k].state = 3 ∨ xs[k].state = 4 := by
 rw [Bool.and_eq_true] at h
 obtain ⟨h1, h2⟩ := h
 unfold jbf at h1
 rw [Bool.and_eq_true, Bool.and_eq_true] at h1
 obtain ⟨h3, h4, h5⟩ := h1
 have h6 := jaq h3
 have h7 := jaq h4
 unfold ja9 at h2
 simp only [Bool.and_eq_true, decide_eq_true_eq] at h2
 refine ⟨⟨t.toNat, by omega, by omega⟩, ⟨_, h2.2.symm, (jkd _).len⟩, by omega, fun k hk => ?_⟩
 have h8 := jhk h5 hk
 rw [jhp hk] at h8
 exact js1 h8
theorem jrq (t : Int) (b : Bool) (l : Log) (A : Option Addr) (n c : Nat) (xs : List Entrant) (w : World) (hx : SeesN entrantSh w 0 A n xs) (hn : n ≤ 1048576) (hi : ∀ x ∈ xs, x.cnt ≤ 1048576) (hs : l.upto 1048576) (hg : Gl w) :
  Calls Tryz.prog 38 #[.agg #[t, b, .slice A n c, l.durable, l.pending, l.count]] w fun e w' => e = .returned (.tuple #[.string ((jrl t b l xs).getD ⟨#[]⟩), .bool (jrl t b l xs).isSome]) ∧ Below w.heap.size w w' := by
 have K0 := nB w (.cells #[t, b, .slice A n c, l.durable, l.pending, l.count] 35)
 have hV := fun hs' => IsValidConsole_any t b l A n c xs (w.alloc (.cells #[t, b, .slice A n c, l.durable, l.pending, l.count] 35)) (hx.next K0) hn hi hs' (hg.next K0)
 replace hV := hV hs
 cases hv : (jbf t b xs && ja9 l)
 ·have HF := Lib.hid (show jrl t b l xs = none by unfold jrl; rw [hv]; rfl)
  rw [hv] at hV
  clear hv
  go_enter Tryz.func38, Tryz.ntmps38
  go_wp2_with fail
  refine hV.mono ?_
  rintro e w1 ⟨rfl, b1⟩
  go_wp2_with fail
  go_ret2
  exact ⟨by rw [HF.out]; rfl, jaa K0 b1⟩
 obtain ⟨⟨p, hp, hp1⟩, ⟨q, hq, hq1⟩, hl8, hst⟩ := jr3 hv
 obtain ⟨ld, lp, lc⟩ := l
 obtain rfl : lc = (q : Int) := hq
 subst hp
 have HF := Lib.hid (show jrl (p : Int) b ⟨ld, lp, (q : Int)⟩ xs = some (jso p q xs) by unfold jrl; rw [hv]; rfl)
 have HST := Lib.hid hst
 rw [hv] at hV
 clear hv hst hs
 have hl := hx.count
 have HL := Lib.hid hl
 have hn8 : n ≤ 8 := by omega
 clear hl hl8
 have B0 := nP w [(p : Int), b, .slice A n c, ld, lp, (q : Int)] 35
 replace hx := hx.next K0
 replace hg := hg.next K0
 go_enter Tryz.func38, Tryz.ntmps38
 go_wp2_with fail
 refine hV.mono ?_
 clear hV
 rintro e w1 ⟨rfl, b1⟩
 replace B0 := B0.next b1
 replace hx := hx.next b1
 replace hg := hg.next b1
 have K := jaa K0 b1
 clear b1 K0

 have cm := B0.cell
 go_wp2_with fail
 clear cm
 go_loopw [4, 14] (fun tv iv wr => ∃ (k : Nat) (T : ByteArray), k ≤ n ∧ iv = .int .i64 (k : Int) ∧ tv = .string T ∧ Hid (jq2 xs k = T) ∧ T.size ≤ 12 * k ∧ Blk wr w.heap.size 35 [.int .i64 (p : Int), .bool b, .slice A n c, .string ld, .string lp, .int .i64 (q : Int)] ∧ SeesN entrantSh wr 0 A n xs ∧ Gl wr ∧ Below w.heap.size w wr) (fun _ iv _ => n - (intOf iv).toNat)
 case atStart => exact ⟨0, ⟨#[]⟩, Nat.zero_le _, rfl, rfl, Lib.hid rfl, Nat.le_refl _, B0, hx, hg, K⟩
 case round =>
  clear B0 hx hg K
  obtain ⟨k, T, hk, rfl, rfl, HT, hT, B0, hx, hg, K⟩ := hrel
  have cm := B0.cell
  by_cases hlt : k < n
  ·obtain ⟨b', off, B, m, d, rfl, hkx, c0, c1, c2, c3, c4, -⟩ := SeesEntrant.elem hx hlt
   have hblt := World.block_lt_of_cell? wr _ c0
   rcases HST.out k hkx with hs | hs | hs | hs | hs
   ·rw [hs] at c0
    have HW := Lib.hid (show jr4 xs[k].state = ⟨#[101, 110, 116, 101, 114, 101, 100]⟩ by rw [hs]; rfl)
    clear hs
    have E := nP wr [.int .i64 0, .int .i64 xs[k].number, .int .i64 xs[k].start, .int .i64 xs[k].finish, .slice B m d] 108
    have U : Below wr.heap.size wr (wr.alloc (.cells #[.int .i64 0, .int .i64 xs[k].number, .int .i64 xs[k].start, .int .i64 xs[k].finish, .slice B m d] 108)).drew := jaa ((Below.refl _ _).alloc (Nat.le_refl _) _) ((Quiet.one _).below _)
    replace E := E.next ((Quiet.one _).below _)
    replace B0 := B0.next U
    replace hx := hx.next U
    replace hg := hg.next U
    have Kq := jaa K U
    clear K U
    have ix : ∀ w : World, (Instr.index 109 (.agg #[.string ⟨#[101, 110, 116, 101, 114, 101, 100]⟩, .string ⟨#[114, 117, 110, 110, 105, 110, 103]⟩, .string ⟨#[102, 105, 110, 105, 115, 104, 101, 100]⟩, .string ⟨#[103, 105, 118, 101, 110, 32, 117, 112]⟩, .string ⟨#[97, 98, 115, 101, 110, 116]⟩]) (.int .i64 0)).run Tryz.prog w = .ok (.string ⟨#[101, 110, 116, 101, 114, 101, 100]⟩) w := fun _ => by kernel_rfl
    have ce := E.cell
    go_wp2_with fail
    refine wp_region_held_drew (S := fun w' => w'.cell? ⟨wr.heap.size, 0, none⟩ = some (.int .i64 0)) (by kernel_rfl) (by (try dsimp only); exact ce 0) (fun hH => ?_)
    refine wQ 0 ?_
    refine wQ 1 ?_
    refine wQ 4 ?_
    refine wQ 5 ?_
    refine wQ 6 ?_
    refine wQ 7 ?_
    refine wR (rs := [2]) (by kernel_rfl) (by simp) ?_
    refine aC rfl (fun K hK => ?_) aN
    go_simp
    refine (jns k _ (by omega) hg).mono ?_
    rintro e w2 ⟨rfl, b2⟩
    replace B0 := B0.next b2
    replace hx := hx.next b2
    replace hg := hg.next b2
    replace E := E.next b2
    replace Kq := jaa Kq b2
    clear b2 ce
    have ce := E.cell
    have hsz := jcg k 2 (by omega) (by decide)
    obtain ⟨N, hN⟩ : ∃ N, jcf k = N := ⟨_, rfl⟩
    rw [hN] at hsz
    have HN := Lib.hid hN
    rw [hN]
    clear hN
    have f1 : ¬ 9223372036854775807 < N.size + 1 := by omega
    have f2 : ¬ 9223372036854775807 < N.size + 1 + 7 := by omega
    have f3 : ¬ 9223372036854775807 < N.size + 1 + 7 + 1 := by omega
    have f4 : ¬ 9223372036854775807 < T.size + (N.size + 1 + 7 + 1) := by omega
    go_wp2_with fail
    refine hK.out _ _ (by (try dsimp only); exact ce 0) (fun hH => ?_)
    clear hK K
    refine wQ 3 ?_
    refine wQ 8 ?_
    refine wQ 9 ?_
    refine wQ 10 ?_
    refine wQ 11 ?_
    refine wD (by kernel_rfl) ?_ _
    clear f1 f2 f3 f4 ce c0 c1 c2 c3 c4 ix
    have HT2 := Lib.hid (show jq2 xs (k + 1) = T ++ (N ++ ⟨#[32]⟩ ++ ⟨#[101, 110, 116, 101, 114, 101, 100]⟩ ++ ⟨#[10]⟩) by rw [jqz (by rw [HL.out]; exact hlt), HT.out]; unfold jq7; rw [HW.out, HN.out])
    have hT2 : (T ++ (N ++ ⟨#[32]⟩ ++ ⟨#[101, 110, 116, 101, 114, 101, 100]⟩ ++ ⟨#[10]⟩)).size ≤ 12 * (k + 1) := by simp only [ByteArray.size_append]; have z1 : (⟨#[32]⟩ : ByteArray).size = 1 := rfl; have z2 : (⟨#[10]⟩ : ByteArray).size = 1 := rfl; have z3 : (⟨#[101, 110, 116, 101, 114, 101, 100]⟩ : ByteArray).size = 7 := rfl; omega
    go_wp2_with fail
    go_roundw
    case rel => exact ⟨k + 1, _, by omega, by go_num, rfl, HT2, hT2, B0, hx, hg, Kq⟩
    case measure => simp [intOf]; omega
   ·rw [hs] at c0
    have HW := Lib.hid (show jr4 xs[k].state = ⟨#[114, 117, 110, 110, 105, 110, 103]⟩ by rw [hs]; rfl)
    clear hs
    have E := nP wr [.int .i64 1, .int .i64 xs[k].number, .int .i64 xs[k].start, .int .i64 xs[k].finish, .slice B m d] 108
    have U : Below wr.heap.size wr (wr.alloc (.cells #[.int .i64 1, .int .i64 xs[k].number, .int .i64 xs[k].start, .int .i64 xs[k].finish, .slice B m d] 108)).drew := jaa ((Below.refl _ _).alloc (Nat.le_refl _) _) ((Quiet.one _).below _)
    replace E := E.next ((Quiet.one _).below _)
    replace B0 := B0.next U
    replace hx := hx.next U
    replace hg := hg.next U
    have Kq := jaa K U
    clear K U
    have ix : ∀ w : World, (Instr.index 109 (.agg #[.string ⟨#[101, 110, 116, 101, 114, 101, 100]⟩, .string ⟨#[114, 117, 110, 110, 105, 110, 103]⟩, .string ⟨#[102, 105, 110, 105, 115, 104, 101, 100]⟩, .string ⟨#[103, 105, 118, 101, 110, 32, 117, 112]⟩, .string ⟨#[97, 98, 115, 101, 110, 116]⟩]) (.int .i64 1)).run Tryz.prog w = .ok (.string ⟨#[114, 117, 110, 110, 105, 110, 103]⟩) w := fun _ => by kernel_rfl
    have ce := E.cell
    go_wp2_with fail
    refine wp_region_held_drew (S := fun w' => w'.cell? ⟨wr.heap.size, 0, none⟩ = some (.int .i64 1)) (by kernel_rfl) (by (try dsimp only); exact ce 0) (fun hH => ?_)
    refine wQ 0 ?_
    refine wQ 1 ?_
    refine wQ 4 ?_
    refine wQ 5 ?_
    refine wQ 6 ?_
    refine wQ 7 ?_
    refine wR (rs := [2]) (by kernel_rfl) (by simp) ?_
    refine aC rfl (fun K hK => ?_) aN
    go_simp
    refine (jns k _ (by omega) hg).mono ?_
    rintro e w2 ⟨rfl, b2⟩
    replace B0 := B0.next b2
    replace hx := hx.next b2
    replace hg := hg.next b2
    replace E := E.next b2
    replace Kq := jaa Kq b2
    clear b2 ce
    have ce := E.cell
    have hsz := jcg k 2 (by omega) (by decide)
    obtain ⟨N, hN⟩ : ∃ N, jcf k = N := ⟨_, rfl⟩
    rw [hN] at hsz
    have HN := Lib.hid hN
    rw [hN]
    clear hN
    have f1 : ¬ 9223372036854775807 < N.size + 1 := by omega
    have f2 : ¬ 9223372036854775807 < N.size + 1 + 7 := by omega
    have f3 : ¬ 9223372036854775807 < N.size + 1 + 7 + 1 := by omega
    have f4 : ¬ 9223372036854775807 < T.size + (N.size + 1 + 7 + 1) := by omega
    go_wp2_with fail
    refine hK.out _ _ (by (try dsimp only); exact ce 0) (fun hH => ?_)
    clear hK K
    refine wQ 3 ?_
    refine wQ 8 ?_
    refine wQ 9 ?_
    refine wQ 10 ?_
    refine wQ 11 ?_
    refine wD (by kernel_rfl) ?_ _
    clear f1 f2 f3 f4 ce c0 c1 c2 c3 c4 ix
    have HT2 := Lib.hid (show jq2 xs (k + 1) = T ++ (N ++ ⟨#[32]⟩ ++ ⟨#[114, 117, 110, 110, 105, 110, 103]⟩ ++ ⟨#[10]⟩) by rw [jqz (by rw [HL.out]; exact hlt), HT.out]; unfold jq7; rw [HW.out, HN.out])
    have hT2 : (T ++ (N ++ ⟨#[32]⟩ ++ ⟨#[114, 117, 110, 110, 105, 110, 103]⟩ ++ ⟨#[10]⟩)).size ≤ 12 * (k + 1) := by simp only [ByteArray.size_append]; have z1 : (⟨#[32]⟩ : ByteArray).size = 1 := rfl; have z2 : (⟨#[10]⟩ : ByteArray).size = 1 := rfl; have z3 : (⟨#[114, 117, 110, 110, 105, 110, 103]⟩ : ByteArray).size = 7 := rfl; omega
    go_wp2_with fail
    go_roundw
    case rel => exact ⟨k + 1, _, by omega, by go_num, rfl, HT2, hT2, B0, hx, hg, Kq⟩
    case measure => simp [intOf]; omega
   ·rw [hs] at c0
    have HW := Lib.hid (show jr4 xs[k].state = ⟨#[102, 105, 110, 105, 115, 104, 101, 100]⟩ by rw [hs]; rfl)
    clear hs
    have E := nP wr [.int .i64 2, .int .i64 xs[k].number, .int .i64 xs[k].start, .int .i64 xs[k].finish, .slice B m d] 108
    have U : Below wr.heap.size wr (wr.alloc (.cells #[.int .i64 2, .int .i64 xs[k].number, .int .i64 xs[k].start, .int .i64 xs[k].finish, .slice B m d] 108)).drew := jaa ((Below.refl _ _).alloc (Nat.le_refl _) _) ((Quiet.one _).below _)
    replace E := E.next ((Quiet.one _).below _)
    replace B0 := B0.next U
    replace hx := hx.next U
    replace hg := hg.next U
    have Kq := jaa K U
    clear K U
    have ix : ∀ w : World, (Instr.index 109 (.agg #[.string ⟨#[101, 110, 116, 101, 114, 101, 100]⟩, .string ⟨#[114, 117, 110, 110, 105, 110, 103]⟩, .string ⟨#[102, 105, 110, 105, 115, 104, 101, 100]⟩, .string ⟨#[103, 105, 118, 101, 110, 32, 117, 112]⟩, .string ⟨#[97, 98, 115, 101, 110, 116]⟩]) (.int .i64 2)).run Tryz.prog w = .ok (.string ⟨#[102, 105, 110, 105, 115, 104, 101, 100]⟩) w := fun _ => by kernel_rfl
    have ce := E.cell
    go_wp2_with fail
    refine wp_region_held_drew (S := fun w' => w'.cell? ⟨wr.heap.size, 0, none⟩ = some (.int .i64 2)) (by kernel_rfl) (by (try dsimp only); exact ce 0) (fun hH => ?_)
    refine wQ 0 ?_
    refine wQ 1 ?_
    refine wQ 4 ?_
    refine wQ 5 ?_
    refine wQ 6 ?_
    refine wQ 7 ?_
    refine wR (rs := [2]) (by kernel_rfl) (by simp) ?_
    refine aC rfl (fun K hK => ?_) aN
    go_simp
    refine (jns k _ (by omega) hg).mono ?_
    rintro e w2 ⟨rfl, b2⟩
    replace B0 := B0.next b2
    replace hx := hx.next b2
    replace hg := hg.next b2
    replace E := E.next b2
    replace Kq := jaa Kq b2
    clear b2 ce
    have ce := E.cell
    have hsz := jcg k 2 (by omega) (by decide)
    obtain ⟨N, hN⟩ : ∃ N, jcf k = N := ⟨_, rfl⟩
    rw [hN] at hsz
    have HN := Lib.hid hN
    rw [hN]
    clear hN
    have f1 : ¬ 9223372036854775807 < N.size + 1 := by omega
    have f2 : ¬ 9223372036854775807 < N.size + 1 + 8 := by omega
    have f3 : ¬ 9223372036854775807 < N.size + 1 + 8 + 1 := by omega
    have f4 : ¬ 9223372036854775807 < T.size + (N.size + 1 + 8 + 1) := by omega
    go_wp2_with fail
    refine hK.out _ _ (by (try dsimp only); exact ce 0) (fun hH => ?_)
    clear hK K
    refine wQ 3 ?_
    refine wQ 8 ?_
    refine wQ 9 ?_
    refine wQ 10 ?_
    refine wQ 11 ?_
    refine wD (by kernel_rfl) ?_ _
    clear f1 f2 f3 f4 ce c0 c1 c2 c3 c4 ix
    have HT2 := Lib.hid (show jq2 xs (k + 1) = T ++ (N ++ ⟨#[32]⟩ ++ ⟨#[102, 105, 110, 105, 115, 104, 101, 100]⟩ ++ ⟨#[10]⟩) by rw [jqz (by rw [HL.out]; exact hlt), HT.out]; unfold jq7; rw [HW.out, HN.out])
    have hT2 : (T ++ (N ++ ⟨#[32]⟩ ++ ⟨#[102, 105, 110, 105, 115, 104, 101, 100]⟩ ++ ⟨#[10]⟩)).size ≤ 12 * (k + 1) := by simp only [ByteArray.size_append]; have z1 : (⟨#[32]⟩ : ByteArray).size = 1 := rfl; have z2 : (⟨#[10]⟩ : ByteArray).size = 1 := rfl; have z3 : (⟨#[102, 105, 110, 105, 115, 104, 101, 100]⟩ : ByteArray).size = 8 := rfl; omega
    go_wp2_with fail
    go_roundw
    case rel => exact ⟨k + 1, _, by omega, by go_num, rfl, HT2, hT2, B0, hx, hg, Kq⟩
    case measure => simp [intOf]; omega
   ·rw [hs] at c0
    have HW := Lib.hid (show jr4 xs[k].state = ⟨#[103, 105, 118, 101, 110, 32, 117, 112]⟩ by rw [hs]; rfl)
    clear hs
    have E := nP wr [.int .i64 3, .int .i64 xs[k].number, .int .i64 xs[k].start, .int .i64 xs[k].finish, .slice B m d] 108
    have U : Below wr.heap.size wr (wr.alloc (.cells #[.int .i64 3, .int .i64 xs[k].number, .int .i64 xs[k].start, .int .i64 xs[k].finish, .slice B m d] 108)).drew := jaa ((Below.refl _ _).alloc (Nat.le_refl _) _) ((Quiet.one _).below _)
    replace E := E.next ((Quiet.one _).below _)
    replace B0 := B0.next U
    replace hx := hx.next U
    replace hg := hg.next U
    have Kq := jaa K U
    clear K U
    have ix : ∀ w : World, (Instr.index 109 (.agg #[.string ⟨#[101, 110, 116, 101, 114, 101, 100]⟩, .string ⟨#[114, 117, 110, 110, 105, 110, 103]⟩, .string ⟨#[102, 105, 110, 105, 115, 104, 101, 100]⟩, .string ⟨#[103, 105, 118, 101, 110, 32, 117, 112]⟩, .string ⟨#[97, 98, 115, 101, 110, 116]⟩]) (.int .i64 3)).run Tryz.prog w = .ok (.string ⟨#[103, 105, 118, 101, 110, 32, 117, 112]⟩) w := fun _ => by kernel_rfl
    have ce := E.cell
    go_wp2_with fail
    refine wp_region_held_drew (S := fun w' => w'.cell? ⟨wr.heap.size, 0, none⟩ = some (.int .i64 3)) (by kernel_rfl) (by (try dsimp only); exact ce 0) (fun hH => ?_)
    refine wQ 0 ?_
    refine wQ 1 ?_
    refine wQ 4 ?_
    refine wQ 5 ?_
    refine wQ 6 ?_
    refine wQ 7 ?_
    refine wR (rs := [2]) (by kernel_rfl) (by simp) ?_
    refine aC rfl (fun K hK => ?_) aN
    go_simp
    refine (jns k _ (by omega) hg).mono ?_
    rintro e w2 ⟨rfl, b2⟩
    replace B0 := B0.next b2
    replace hx := hx.next b2
    replace hg := hg.next b2
    replace E := E.next b2
    replace Kq := jaa Kq b2
    clear b2 ce
    have ce := E.cell
    have hsz := jcg k 2 (by omega) (by decide)
    obtain ⟨N, hN⟩ : ∃ N, jcf k = N := ⟨_, rfl⟩
    rw [hN] at hsz
    have HN := Lib.hid hN
    rw [hN]
    clear hN
    have f1 : ¬ 9223372036854775807 < N.size + 1 := by omega
    have f2 : ¬ 9223372036854775807 < N.size + 1 + 8 := by omega
    have f3 : ¬ 9223372036854775807 < N.size + 1 + 8 + 1 := by omega
    have f4 : ¬ 9223372036854775807 < T.size + (N.size + 1 + 8 + 1) := by omega
    go_wp2_with fail
    refine hK.out _ _ (by (try dsimp only); exact ce 0) (fun hH => ?_)
    clear hK K
    refine wQ 3 ?_
    refine wQ 8 ?_
    refine wQ 9 ?_
    refine wQ 10 ?_
    refine wQ 11 ?_
    refine wD (by kernel_rfl) ?_ _
    clear f1 f2 f3 f4 ce c0 c1 c2 c3 c4 ix
    have HT2 := Lib.hid (show jq2 xs (k + 1) = T ++ (N ++ ⟨#[32]⟩ ++ ⟨#[103, 105, 118, 101, 110, 32, 117, 112]⟩ ++ ⟨#[10]⟩) by rw [jqz (by rw [HL.out]; exact hlt), HT.out]; unfold jq7; rw [HW.out, HN.out])
    have hT2 : (T ++ (N ++ ⟨#[32]⟩ ++ ⟨#[103, 105, 118, 101, 110, 32, 117, 112]⟩ ++ ⟨#[10]⟩)).size ≤ 12 * (k + 1) := by simp only [ByteArray.size_append]; have z1 : (⟨#[32]⟩ : ByteArray).size = 1 := rfl; have z2 : (⟨#[10]⟩ : ByteArray).size = 1 := rfl; have z3 : (⟨#[103, 105, 118, 101, 110, 32, 117, 112]⟩ : ByteArray).size = 8 := rfl; omega
    go_wp2_with fail
    go_roundw
    case rel => exact ⟨k + 1, _, by omega, by go_num, rfl, HT2, hT2, B0, hx, hg, Kq⟩
    case measure => simp [intOf]; omega
   ·rw [hs] at c0
    have HW := Lib.hid (show jr4 xs[k].state = ⟨#[97, 98, 115, 101, 110, 116]⟩ by rw [hs]; rfl)
    clear hs
    have E := nP wr [.int .i64 4, .int .i64 xs[k].number, .int .i64 xs[k].start, .int .i64 xs[k].finish, .slice B m d] 108
    have U : Below wr.heap.size wr (wr.alloc (.cells #[.int .i64 4, .int .i64 xs[k].number, .int .i64 xs[k].start, .int .i64 xs[k].finish, .slice B m d] 108)).drew := jaa ((Below.refl _ _).alloc (Nat.le_refl _) _) ((Quiet.one _).below _)
    replace E := E.next ((Quiet.one _).below _)
    replace B0 := B0.next U
    replace hx := hx.next U
    replace hg := hg.next U
    have Kq := jaa K U
    clear K U
    have ix : ∀ w : World, (Instr.index 109 (.agg #[.string ⟨#[101, 110, 116, 101, 114, 101, 100]⟩, .string ⟨#[114, 117, 110, 110, 105, 110, 103]⟩, .string ⟨#[102, 105, 110, 105, 115, 104, 101, 100]⟩, .string ⟨#[103, 105, 118, 101, 110, 32, 117, 112]⟩, .string ⟨#[97, 98, 115, 101, 110, 116]⟩]) (.int .i64 4)).run Tryz.prog w = .ok (.string ⟨#[97, 98, 115, 101, 110, 116]⟩) w := fun _ => by kernel_rfl
    have ce := E.cell
    go_wp2_with fail
    refine wp_region_held_drew (S := fun w' => w'.cell? ⟨wr.heap.size, 0, none⟩ = some (.int .i64 4)) (by kernel_rfl) (by (try dsimp only); exact ce 0) (fun hH => ?_)
    refine wQ 0 ?_
    refine wQ 1 ?_
    refine wQ 4 ?_
    refine wQ 5 ?_
    refine wQ 6 ?_
    refine wQ 7 ?_
    refine wR (rs := [2]) (by kernel_rfl) (by simp) ?_
    refine aC rfl (fun K hK => ?_) aN
    go_simp
    refine (jns k _ (by omega) hg).mono ?_
    rintro e w2 ⟨rfl, b2⟩
    replace B0 := B0.next b2
    replace hx := hx.next b2
    replace hg := hg.next b2
    replace E := E.next b2
    replace Kq := jaa Kq b2
    clear b2 ce
    have ce := E.cell
    have hsz := jcg k 2 (by omega) (by decide)
    obtain ⟨N, hN⟩ : ∃ N, jcf k = N := ⟨_, rfl⟩
    rw [hN] at hsz
    have HN := Lib.hid hN
    rw [hN]
    clear hN
    have f1 : ¬ 9223372036854775807 < N.size + 1 := by omega
    have f2 : ¬ 9223372036854775807 < N.size + 1 + 6 := by omega
    have f3 : ¬ 9223372036854775807 < N.size + 1 + 6 + 1 := by omega
    have f4 : ¬ 9223372036854775807 < T.size + (N.size + 1 + 6 + 1) := by omega
    go_wp2_with fail
    refine hK.out _ _ (by (try dsimp only); exact ce 0) (fun hH => ?_)
    clear hK K
    refine wQ 3 ?_
    refine wQ 8 ?_
    refine wQ 9 ?_
    refine wQ 10 ?_
    refine wQ 11 ?_
    refine wD (by kernel_rfl) ?_ _
    clear f1 f2 f3 f4 ce c0 c1 c2 c3 c4 ix
    have HT2 := Lib.hid (show jq2 xs (k + 1) = T ++ (N ++ ⟨#[32]⟩ ++ ⟨#[97, 98, 115, 101, 110, 116]⟩ ++ ⟨#[10]⟩) by rw [jqz (by rw [HL.out]; exact hlt), HT.out]; unfold jq7; rw [HW.out, HN.out])
    have hT2 : (T ++ (N ++ ⟨#[32]⟩ ++ ⟨#[97, 98, 115, 101, 110, 116]⟩ ++ ⟨#[10]⟩)).size ≤ 12 * (k + 1) := by simp only [ByteArray.size_append]; have z1 : (⟨#[32]⟩ : ByteArray).size = 1 := rfl; have z2 : (⟨#[10]⟩ : ByteArray).size = 1 := rfl; have z3 : (⟨#[97, 98, 115, 101, 110, 116]⟩ : ByteArray).size = 6 := rfl; omega
    go_wp2_with fail
    go_roundw
    case rel => exact ⟨k + 1, _, by omega, by go_num, rfl, HT2, hT2, B0, hx, hg, Kq⟩
    case measure => simp [intOf]; omega
  ·obtain rfl : k = n := by omega
   clear hlt
   have hg2 := hg.next ((Quiet.one wr).below wr.heap.size)
   have B2 := B0.next ((Quiet.one wr).below wr.heap.size)
   have Kq := jaa K ((Quiet.one wr).below wr.heap.size)
   clear K hg B0
   have cm := B2.cell
   have hP := jcg p 5 (by omega) (by decide)
   have hQ := jcg q 2 (by omega) (by decide)
   have HFT := Lib.hid (show jso p q xs = T ++ ⟨#[99, 108, 111, 99, 107, 32]⟩ ++ jcf p ++ ⟨#[59, 32, 114, 101, 99, 111, 114, 100, 115, 32]⟩ ++ jcf q ++ ⟨#[10]⟩ by unfold jso; rw [HL.out, HT.out])
   obtain ⟨P, hPe⟩ : ∃ P, jcf p = P := ⟨_, rfl⟩
   obtain ⟨Q, hQe⟩ : ∃ Q, jcf q = Q := ⟨_, rfl⟩
   rw [hPe] at hP HFT
   rw [hQe] at hQ HFT
   have HP := Lib.hid hPe
   have HQ := Lib.hid hQe
   clear hPe hQe
   have f1 : ¬ 9223372036854775807 < T.size + 6 := by omega
   have f2 : ¬ 9223372036854775807 < T.size + 6 + P.size := by omega
   have f3 : ¬ 9223372036854775807 < T.size + 6 + P.size + 10 := by omega
   have f4 : ¬ 9223372036854775807 < T.size + 6 + P.size + 10 + Q.size := by omega
   have f5 : ¬ 9223372036854775807 < T.size + 6 + P.size + 10 + Q.size + 1 := by omega
   clear hx
   go_wp2_with fail
   refine wp_region_held_drew (S := fun w' => w'.cell? ⟨w.heap.size, 0, none⟩ = some (.int .i64 (p : Int)) ∧ w'.cell? ⟨w.heap.size, 5, none⟩ = some (.int .i64 (q : Int))) (by kernel_rfl) (by (try dsimp only); exact ⟨cm 0, cm 5⟩) (fun hH => ?_)
   refine wQ 0 ?_
   refine wQ 1 ?_
   refine wQ 2 ?_
   refine wQ 3 ?_
   refine wQ 4 ?_
   refine wQ 8 ?_
   refine wQ 9 ?_
   refine wQ 10 ?_
   refine wR (rs := [5]) (by kernel_rfl) (by simp) ?_
   refine aC rfl (fun K hK => ?_) aN
   go_simp
   refine (jns p _ (by omega) hg2).mono ?_
   rw [HP.out]
   rintro e w9 ⟨rfl, b2⟩
   replace B2 := B2.next b2
   replace hg2 := hg2.next b2
   replace Kq := jaa Kq b2
   clear b2 cm
   have cm := B2.cell
   go_wp2_with fail
   refine hK.out _ _ (by (try dsimp only); exact ⟨cm 0, cm 5⟩) (fun hH => ?_)
   clear hK K
   refine wQ 6 ?_
   refine wQ 7 ?_
   refine wR (rs := [11]) (by kernel_rfl) (by simp) ?_
   refine aC rfl (fun K hK => ?_) aN
   go_simp
   refine (jns q _ (by omega) hg2).mono ?_
   rw [HQ.out]
   rintro e w9 ⟨rfl, b2⟩
   replace B2 := B2.next b2
   replace hg2 := hg2.next b2
   replace Kq := jaa Kq b2
   clear b2 cm
   have cm := B2.cell
   go_wp2_with fail
   refine hK.out _ _ (by (try dsimp only); exact ⟨cm 0, cm 5⟩) (fun hH => ?_)
   clear hK K
   refine wQ 12 ?_
   refine wQ 13 ?_
   refine wQ 14 ?_
   refine wQ 15 ?_
   refine wD (by kernel_rfl) ?_ _
   go_wp2_with fail
   go_ret2
   exact ⟨by rw [HF.out, Option.getD_some, HFT.out]; rfl, Kq⟩
end Go.Proofs.YtflpcdffmpfdpaaGreatDoor
