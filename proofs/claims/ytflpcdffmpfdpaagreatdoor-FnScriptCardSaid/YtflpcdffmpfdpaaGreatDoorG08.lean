/- Joined texts of this proof: ConFs, LawFnScript, Open, Open2, OpenE, OpenC. -/
import Derived.ProofKit
import Derived.OpenShut
import Derived.ShutString
import Derived.ChangeOld
import Derived.Below
import Derived.Lib.SmallJoins
import Derived.Deep.Slices
import Derived.Deep.Fields
import Derived.JoinedTies
import Derived.Test.YtflpcdffmpfdpaaGreatDoorG07
import Derived.Test.YtflpcdffmpfdpaaGreatDoorG06
import Derived.Test.YtflpcdffmpfdpaaGreatDoorB01
import Derived.Test.YtflpcdffmpfdpaaGreatDoorB11
import Derived.Test.YtflpcdffmpfdpaaGreatDoorW01
set_option maxRecDepth 100000
set_option maxHeartbeats 8000000
namespace Go.Proofs.YtflpcdffmpfdpaaGreatDoor
open Go.RowKit
theorem jri (t : Int) (b : Bool) (l : Log) (A : Option Addr) (n c : Nat) (xs : List Entrant) (w : World) (hx : SeesN entrantSh w 0 A n xs) (hn : n ≤ 1048576) (hi : ∀ x ∈ xs, x.cnt ≤ 1048576) (hs : l.upto 1048576) :
  Calls Tryz.prog 39 #[.agg #[t, b, .slice A n c, l.durable, l.pending, l.count]] w fun e w' => e = .returned (.tuple #[.string ((jrl t b l xs).getD ⟨#[]⟩), .bool (jrl t b l xs).isSome]) ∧ Below w.heap.size w w' := by
 have K0 := nB w (.cells #[t, b, .slice A n c, l.durable, l.pending, l.count] 35)
 have hV := fun hs' => l28Good_any t b l A n c xs (w.alloc (.cells #[t, b, .slice A n c, l.durable, l.pending, l.count] 35)) (hx.next K0) hn hi hs'
 replace hV := hV hs
 cases hv : (jbf t b xs && ja9 l)
 ·have HF := Lib.hid (show jrl t b l xs = none by unfold jrl; rw [hv]; rfl)
  rw [hv] at hV
  clear hv
  go_enter Tryz.func39, Tryz.ntmps39
  go_wp2_with fail
  refine hV.mono ?_
  rintro e w1 ⟨rfl, b1⟩
  go_wp2_with fail
  go_ret2
  exact ⟨by rw [HF.out]; rfl, jaa K0 b1⟩
 obtain ⟨⟨p, hp, hp1⟩, ⟨q, hq, hq1⟩, hl8, hst⟩ := jr3 hv
 obtain ⟨ld, lp, lc⟩ := l
 obtain rfl : lc = (q : Int) := hq
 subst hp
 have HF := Lib.hid (show jrl (p : Int) b ⟨ld, lp, (q : Int)⟩ xs = some (jso p q xs) by unfold jrl; rw [hv]; rfl)
 have HST := Lib.hid hst
 rw [hv] at hV
 clear hv hst hs
 have hl := hx.count
 have HL := Lib.hid hl
 have hn8 : n ≤ 8 := by omega
 clear hl hl8
 have B0 := nP w [(p : Int), b, .slice A n c, ld, lp, (q : Int)] 35
 replace hx := hx.next K0
 go_enter Tryz.func39, Tryz.ntmps39
 go_wp2_with fail
 refine hV.mono ?_
 clear hV
 rintro e w1 ⟨rfl, b1⟩
 replace B0 := B0.next b1
 replace hx := hx.next b1
 have K := jaa K0 b1
 clear b1 K0

 have U := nB w1 (.cells #[.string ⟨#[101, 110, 116, 101, 114, 101, 100]⟩, .string ⟨#[114, 117, 110, 110, 105, 110, 103]⟩, .string ⟨#[102, 105, 110, 105, 115, 104, 101, 100]⟩, .string ⟨#[103, 105, 118, 101, 110, 32, 117, 112]⟩, .string ⟨#[97, 98, 115, 101, 110, 116]⟩] 9)
 have Bw := nP w1 [.string ⟨#[101, 110, 116, 101, 114, 101, 100]⟩, .string ⟨#[114, 117, 110, 110, 105, 110, 103]⟩, .string ⟨#[102, 105, 110, 105, 115, 104, 101, 100]⟩, .string ⟨#[103, 105, 118, 101, 110, 32, 117, 112]⟩, .string ⟨#[97, 98, 115, 101, 110, 116]⟩] 9
 replace B0 := B0.next U
 replace hx := hx.next U
 replace K := jaa K U
 clear U
 go_wp2_with fail
 generalize w1.alloc _ = w1a at *
 generalize w1.heap.size = gw at *
 go_loopw [5, 6] (fun tv iv wr => ∃ (k : Nat) (T : ByteArray), k ≤ n ∧ iv = .int .i64 (k : Int) ∧ tv = .string T ∧ Hid (jq2 xs k = T) ∧ T.size ≤ 12 * k ∧ Blk wr w.heap.size 35 [.int .i64 (p : Int), .bool b, .slice A n c, .string ld, .string lp, .int .i64 (q : Int)] ∧ SeesN entrantSh wr 0 A n xs ∧ Blk wr gw 9 [.string ⟨#[101, 110, 116, 101, 114, 101, 100]⟩, .string ⟨#[114, 117, 110, 110, 105, 110, 103]⟩, .string ⟨#[102, 105, 110, 105, 115, 104, 101, 100]⟩, .string ⟨#[103, 105, 118, 101, 110, 32, 117, 112]⟩, .string ⟨#[97, 98, 115, 101, 110, 116]⟩] ∧ Below w.heap.size w wr) (fun _ iv _ => n - (intOf iv).toNat)
 case atStart => exact ⟨0, ⟨#[]⟩, Nat.zero_le _, rfl, rfl, Lib.hid rfl, Nat.le_refl _, B0, hx, Bw, K⟩
 case round =>
  clear B0 hx Bw K
  obtain ⟨k, T, hk, rfl, rfl, HT, hT, B0, hx, Bw, K⟩ := hrel
  have cm := B0.cell
  by_cases hlt : k < n
  ·obtain ⟨b', off, B, m, d, rfl, hkx, c0, c1, c2, c3, c4, -⟩ := SeesEntrant.elem hx hlt
   have hblt := World.block_lt_of_cell? wr _ c0
   rcases HST.out k hkx with hs | hs | hs | hs | hs
   ·rw [hs] at c0
    have HW := Lib.hid (show jr4 xs[k].state = ⟨#[101, 110, 116, 101, 114, 101, 100]⟩ by rw [hs]; rfl)
    clear hs c1 c2 c3 c4
    have U := (Quiet.one wr).below wr.heap.size
    replace c0 : wr.drew.cell? ⟨b', off + k * 5, none⟩ = some (.int .i64 0) := c0
    replace B0 := B0.next U
    replace hx := hx.next U
    replace Bw := Bw.next U
    have Kq := jaa K U
    clear K U
    have cmq := B0.cell
    have cw := Bw.cell
    go_wp2_with fail
    clear cm
    refine wp_region_held_drew (S := fun w' => w'.cell? ⟨w.heap.size, 2, none⟩ = some (.slice (some ⟨b', off, none⟩) n c) ∧ w'.cell? ⟨b', off + k * 5, none⟩ = some (.int .i64 0) ∧ w'.cell? ⟨gw, 0, none⟩ = some (.string ⟨#[101, 110, 116, 101, 114, 101, 100]⟩)) (by kernel_rfl) (by (try dsimp only); exact ⟨cmq 2, c0, cw 0⟩) (fun hH => ?_)
    refine wQ 0 ?_
    refine wQ 1 ?_
    refine wQ 5 ?_
    refine wQ 6 ?_
    refine wQ 7 ?_
    refine wQ 8 ?_
    refine wQ 9 ?_
    refine wQ 10 ?_
    refine wQ 11 ?_
    refine wQ 12 ?_
    refine wQ 13 ?_
    refine wQ 14 ?_
    refine wR (rs := [2]) (by kernel_rfl) (by simp) ?_
    refine aC rfl (fun K hK => ?_) aN
    go_simp
    refine (jes k _ (by omega)).mono ?_
    rintro e w2 ⟨rfl, qq⟩
    have b2 := qq.below wr.drew.heap.size
    replace B0 := B0.next b2
    replace hx := hx.next b2
    replace Bw := Bw.next b2
    replace Kq := jaa Kq b2
    replace c0 := (b2.cell (World.block_lt_of_cell? wr.drew _ c0)).trans c0
    clear b2 qq cmq cw
    have cmq := B0.cell
    have cw := Bw.cell
    have hsz := jcg k 2 (by omega) (by decide)
    obtain ⟨N, hN⟩ : ∃ N, jcf k = N := ⟨_, rfl⟩
    rw [hN] at hsz
    have HN := Lib.hid hN
    rw [hN]
    clear hN
    have f1 : ¬ 9223372036854775807 < T.size + N.size := by omega
    have f2 : ¬ 9223372036854775807 < T.size + N.size + 1 := by omega
    have f3 : ¬ 9223372036854775807 < T.size + N.size + 1 + 7 := by omega
    have f4 : ¬ 9223372036854775807 < T.size + N.size + 1 + 7 + 1 := by omega
    go_wp2_with fail
    refine hK.out _ _ (by (try dsimp only); exact ⟨cmq 2, c0, cw 0⟩) (fun hH => ?_)
    clear hK K
    refine wQ 3 ?_
    refine wQ 4 ?_
    refine wQ 15 ?_
    refine wQ 16 ?_
    refine wQ 17 ?_
    refine wD (by kernel_rfl) ?_ _
    clear f1 f2 f3 f4 c0 cw cmq
    have HT2 := Lib.hid (show jq2 xs (k + 1) = T ++ N ++ ⟨#[32]⟩ ++ ⟨#[101, 110, 116, 101, 114, 101, 100]⟩ ++ ⟨#[10]⟩ by rw [jqz (by rw [HL.out]; exact hlt), HT.out]; unfold jq7; rw [HW.out, HN.out]; simp only [ByteArray.append_assoc])
    have hT2 : (T ++ N ++ ⟨#[32]⟩ ++ ⟨#[101, 110, 116, 101, 114, 101, 100]⟩ ++ ⟨#[10]⟩).size ≤ 12 * (k + 1) := by simp only [ByteArray.size_append]; have z1 : (⟨#[32]⟩ : ByteArray).size = 1 := rfl; have z2 : (⟨#[10]⟩ : ByteArray).size = 1 := rfl; have z3 : (⟨#[101, 110, 116, 101, 114, 101, 100]⟩ : ByteArray).size = 7 := rfl; omega
    go_wp2_with fail
    go_roundw
    case rel => exact ⟨k + 1, _, by omega, by go_num, rfl, HT2, hT2, B0, hx, Bw, Kq⟩
    case measure => simp [intOf]; omega
   ·rw [hs] at c0
    have HW := Lib.hid (show jr4 xs[k].state = ⟨#[114, 117, 110, 110, 105, 110, 103]⟩ by rw [hs]; rfl)
    clear hs c1 c2 c3 c4
    have U := (Quiet.one wr).below wr.heap.size
    replace c0 : wr.drew.cell? ⟨b', off + k * 5, none⟩ = some (.int .i64 1) := c0
    replace B0 := B0.next U
    replace hx := hx.next U
    replace Bw := Bw.next U
    have Kq := jaa K U
    clear K U
    have cmq := B0.cell
    have cw := Bw.cell
    go_wp2_with fail
    clear cm
    refine wp_region_held_drew (S := fun w' => w'.cell? ⟨w.heap.size, 2, none⟩ = some (.slice (some ⟨b', off, none⟩) n c) ∧ w'.cell? ⟨b', off + k * 5, none⟩ = some (.int .i64 1) ∧ w'.cell? ⟨gw, 1, none⟩ = some (.string ⟨#[114, 117, 110, 110, 105, 110, 103]⟩)) (by kernel_rfl) (by (try dsimp only); exact ⟨cmq 2, c0, cw 1⟩) (fun hH => ?_)
    refine wQ 0 ?_
    refine wQ 1 ?_
    refine wQ 5 ?_
    refine wQ 6 ?_
    refine wQ 7 ?_
    refine wQ 8 ?_
    refine wQ 9 ?_
    refine wQ 10 ?_
    refine wQ 11 ?_
    refine wQ 12 ?_
    refine wQ 13 ?_
    refine wQ 14 ?_
    refine wR (rs := [2]) (by kernel_rfl) (by simp) ?_
    refine aC rfl (fun K hK => ?_) aN
    go_simp
    refine (jes k _ (by omega)).mono ?_
    rintro e w2 ⟨rfl, qq⟩
    have b2 := qq.below wr.drew.heap.size
    replace B0 := B0.next b2
    replace hx := hx.next b2
    replace Bw := Bw.next b2
    replace Kq := jaa Kq b2
    replace c0 := (b2.cell (World.block_lt_of_cell? wr.drew _ c0)).trans c0
    clear b2 qq cmq cw
    have cmq := B0.cell
    have cw := Bw.cell
    have hsz := jcg k 2 (by omega) (by decide)
    obtain ⟨N, hN⟩ : ∃ N, jcf k = N := ⟨_, rfl⟩
    rw [hN] at hsz
    have HN := Lib.hid hN
    rw [hN]
    clear hN
    have f1 : ¬ 9223372036854775807 < T.size + N.size := by omega
    have f2 : ¬ 9223372036854775807 < T.size + N.size + 1 := by omega
    have f3 : ¬ 9223372036854775807 < T.size + N.size + 1 + 7 := by omega
    have f4 : ¬ 9223372036854775807 < T.size + N.size + 1 + 7 + 1 := by omega
    go_wp2_with fail
    refine hK.out _ _ (by (try dsimp only); exact ⟨cmq 2, c0, cw 1⟩) (fun hH => ?_)
    clear hK K
    refine wQ 3 ?_
    refine wQ 4 ?_
    refine wQ 15 ?_
    refine wQ 16 ?_
    refine wQ 17 ?_
    refine wD (by kernel_rfl) ?_ _
    clear f1 f2 f3 f4 c0 cw cmq
    have HT2 := Lib.hid (show jq2 xs (k + 1) = T ++ N ++ ⟨#[32]⟩ ++ ⟨#[114, 117, 110, 110, 105, 110, 103]⟩ ++ ⟨#[10]⟩ by rw [jqz (by rw [HL.out]; exact hlt), HT.out]; unfold jq7; rw [HW.out, HN.out]; simp only [ByteArray.append_assoc])
    have hT2 : (T ++ N ++ ⟨#[32]⟩ ++ ⟨#[114, 117, 110, 110, 105, 110, 103]⟩ ++ ⟨#[10]⟩).size ≤ 12 * (k + 1) := by simp only [ByteArray.size_append]; have z1 : (⟨#[32]⟩ : ByteArray).size = 1 := rfl; have z2 : (⟨#[10]⟩ : ByteArray).size = 1 := rfl; have z3 : (⟨#[114, 117, 110, 110, 105, 110, 103]⟩ : ByteArray).size = 7 := rfl; omega
    go_wp2_with fail
    go_roundw
    case rel => exact ⟨k + 1, _, by omega, by go_num, rfl, HT2, hT2, B0, hx, Bw, Kq⟩
    case measure => simp [intOf]; omega
   ·rw [hs] at c0
    have HW := Lib.hid (show jr4 xs[k].state = ⟨#[102, 105, 110, 105, 115, 104, 101, 100]⟩ by rw [hs]; rfl)
    clear hs c1 c2 c3 c4
    have U := (Quiet.one wr).below wr.heap.size
    replace c0 : wr.drew.cell? ⟨b', off + k * 5, none⟩ = some (.int .i64 2) := c0
    replace B0 := B0.next U
    replace hx := hx.next U
    replace Bw := Bw.next U
    have Kq := jaa K U
    clear K U
    have cmq := B0.cell
    have cw := Bw.cell
    go_wp2_with fail
    clear cm
    refine wp_region_held_drew (S := fun w' => w'.cell? ⟨w.heap.size, 2, none⟩ = some (.slice (some ⟨b', off, none⟩) n c) ∧ w'.cell? ⟨b', off + k * 5, none⟩ = some (.int .i64 2) ∧ w'.cell? ⟨gw, 2, none⟩ = some (.string ⟨#[102, 105, 110, 105, 115, 104, 101, 100]⟩)) (by kernel_rfl) (by (try dsimp only); exact ⟨cmq 2, c0, cw 2⟩) (fun hH => ?_)
    refine wQ 0 ?_
    refine wQ 1 ?_
    refine wQ 5 ?_
    refine wQ 6 ?_
    refine wQ 7 ?_
    refine wQ 8 ?_
    refine wQ 9 ?_
    refine wQ 10 ?_
    refine wQ 11 ?_
    refine wQ 12 ?_
    refine wQ 13 ?_
    refine wQ 14 ?_
    refine wR (rs := [2]) (by kernel_rfl) (by simp) ?_
    refine aC rfl (fun K hK => ?_) aN
    go_simp
    refine (jes k _ (by omega)).mono ?_
    rintro e w2 ⟨rfl, qq⟩
    have b2 := qq.below wr.drew.heap.size
    replace B0 := B0.next b2
    replace hx := hx.next b2
    replace Bw := Bw.next b2
    replace Kq := jaa Kq b2
    replace c0 := (b2.cell (World.block_lt_of_cell? wr.drew _ c0)).trans c0
    clear b2 qq cmq cw
    have cmq := B0.cell
    have cw := Bw.cell
    have hsz := jcg k 2 (by omega) (by decide)
    obtain ⟨N, hN⟩ : ∃ N, jcf k = N := ⟨_, rfl⟩
    rw [hN] at hsz
    have HN := Lib.hid hN
    rw [hN]
    clear hN
    have f1 : ¬ 9223372036854775807 < T.size + N.size := by omega
    have f2 : ¬ 9223372036854775807 < T.size + N.size + 1 := by omega
    have f3 : ¬ 9223372036854775807 < T.size + N.size + 1 + 8 := by omega
    have f4 : ¬ 9223372036854775807 < T.size + N.size + 1 + 8 + 1 := by omega
    go_wp2_with fail
    refine hK.out _ _ (by (try dsimp only); exact ⟨cmq 2, c0, cw 2⟩) (fun hH => ?_)
    clear hK K
    refine wQ 3 ?_
    refine wQ 4 ?_
    refine wQ 15 ?_
    refine wQ 16 ?_
    refine wQ 17 ?_
    refine wD (by kernel_rfl) ?_ _
    clear f1 f2 f3 f4 c0 cw cmq
    have HT2 := Lib.hid (show jq2 xs (k + 1) = T ++ N ++ ⟨#[32]⟩ ++ ⟨#[102, 105, 110, 105, 115, 104, 101, 100]⟩ ++ ⟨#[10]⟩ by rw [jqz (by rw [HL.out]; exact hlt), HT.out]; unfold jq7; rw [HW.out, HN.out]; simp only [ByteArray.append_assoc])
    have hT2 : (T ++ N ++ ⟨#[32]⟩ ++ ⟨#[102, 105, 110, 105, 115, 104, 101, 100]⟩ ++ ⟨#[10]⟩).size ≤ 12 * (k + 1) := by simp only [ByteArray.size_append]; have z1 : (⟨#[32]⟩ : ByteArray).size = 1 := rfl; have z2 : (⟨#[10]⟩ : ByteArray).size = 1 := rfl; have z3 : (⟨#[102, 105, 110, 105, 115, 104, 101, 100]⟩ : ByteArray).size = 8 := rfl; omega
    go_wp2_with fail
    go_roundw
    case rel => exact ⟨k + 1, _, by omega, by go_num, rfl, HT2, hT2, B0, hx, Bw, Kq⟩
    case measure => simp [intOf]; omega
   ·rw [hs] at c0
    have HW := Lib.hid (show jr4 xs[k].state = ⟨#[103, 105, 118, 101, 110, 32, 117, 112]⟩ by rw [hs]; rfl)
    clear hs c1 c2 c3 c4
    have U := (Quiet.one wr).below wr.heap.size
    replace c0 : wr.drew.cell? ⟨b', off + k * 5, none⟩ = some (.int .i64 3) := c0
    replace B0 := B0.next U
    replace hx := hx.next U
    replace Bw := Bw.next U
    have Kq := jaa K U
    clear K U
    have cmq := B0.cell
    have cw := Bw.cell
    go_wp2_with fail
    clear cm
    refine wp_region_held_drew (S := fun w' => w'.cell? ⟨w.heap.size, 2, none⟩ = some (.slice (some ⟨b', off, none⟩) n c) ∧ w'.cell? ⟨b', off + k * 5, none⟩ = some (.int .i64 3) ∧ w'.cell? ⟨gw, 3, none⟩ = some (.string ⟨#[103, 105, 118, 101, 110, 32, 117, 112]⟩)) (by kernel_rfl) (by (try dsimp only); exact ⟨cmq 2, c0, cw 3⟩) (fun hH => ?_)
    refine wQ 0 ?_
    refine wQ 1 ?_
    refine wQ 5 ?_
    refine wQ 6 ?_
    refine wQ 7 ?_
    refine wQ 8 ?_
    refine wQ 9 ?_
    refine wQ 10 ?_
    refine wQ 11 ?_
    refine wQ 12 ?_
    refine wQ 13 ?_
    refine wQ 14 ?_
    refine wR (rs := [2]) (by kernel_rfl) (by simp) ?_
    refine aC rfl (fun K hK => ?_) aN
    go_simp
    refine (jes k _ (by omega)).mono ?_
    rintro e w2 ⟨rfl, qq⟩
    have b2 := qq.below wr.drew.heap.size
    replace B0 := B0.next b2
    replace hx := hx.next b2
    replace Bw := Bw.next b2
    replace Kq := jaa Kq b2
    replace c0 := (b2.cell (World.block_lt_of_cell? wr.drew _ c0)).trans c0
    clear b2 qq cmq cw
    have cmq := B0.cell
    have cw := Bw.cell
    have hsz := jcg k 2 (by omega) (by decide)
    obtain ⟨N, hN⟩ : ∃ N, jcf k = N := ⟨_, rfl⟩
    rw [hN] at hsz
    have HN := Lib.hid hN
    rw [hN]
    clear hN
    have f1 : ¬ 9223372036854775807 < T.size + N.size := by omega
    have f2 : ¬ 9223372036854775807 < T.size + N.size + 1 := by omega
    have f3 : ¬ 9223372036854775807 < T.size + N.size + 1 + 8 := by omega
    have f4 : ¬ 9223372036854775807 < T.size + N.size + 1 + 8 + 1 := by omega
    go_wp2_with fail
    refine hK.out _ _ (by (try dsimp only); exact ⟨cmq 2, c0, cw 3⟩) (fun hH => ?_)
    clear hK K
    refine wQ 3 ?_
    refine wQ 4 ?_
    refine wQ 15 ?_
    refine wQ 16 ?_
    refine wQ 17 ?_
    refine wD (by kernel_rfl) ?_ _
    clear f1 f2 f3 f4 c0 cw cmq
    have HT2 := Lib.hid (show jq2 xs (k + 1) = T ++ N ++ ⟨#[32]⟩ ++ ⟨#[103, 105, 118, 101, 110, 32, 117, 112]⟩ ++ ⟨#[10]⟩ by rw [jqz (by rw [HL.out]; exact hlt), HT.out]; unfold jq7; rw [HW.out, HN.out]; simp only [ByteArray.append_assoc])
    have hT2 : (T ++ N ++ ⟨#[32]⟩ ++ ⟨#[103, 105, 118, 101, 110, 32, 117, 112]⟩ ++ ⟨#[10]⟩).size ≤ 12 * (k + 1) := by simp only [ByteArray.size_append]; have z1 : (⟨#[32]⟩ : ByteArray).size = 1 := rfl; have z2 : (⟨#[10]⟩ : ByteArray).size = 1 := rfl; have z3 : (⟨#[103, 105, 118, 101, 110, 32, 117, 112]⟩ : ByteArray).size = 8 := rfl; omega
    go_wp2_with fail
    go_roundw
    case rel => exact ⟨k + 1, _, by omega, by go_num, rfl, HT2, hT2, B0, hx, Bw, Kq⟩
    case measure => simp [intOf]; omega
   ·rw [hs] at c0
    have HW := Lib.hid (show jr4 xs[k].state = ⟨#[97, 98, 115, 101, 110, 116]⟩ by rw [hs]; rfl)
    clear hs c1 c2 c3 c4
    have U := (Quiet.one wr).below wr.heap.size
    replace c0 : wr.drew.cell? ⟨b', off + k * 5, none⟩ = some (.int .i64 4) := c0
    replace B0 := B0.next U
    replace hx := hx.next U
    replace Bw := Bw.next U
    have Kq := jaa K U
    clear K U
    have cmq := B0.cell
    have cw := Bw.cell
    go_wp2_with fail
    clear cm
    refine wp_region_held_drew (S := fun w' => w'.cell? ⟨w.heap.size, 2, none⟩ = some (.slice (some ⟨b', off, none⟩) n c) ∧ w'.cell? ⟨b', off + k * 5, none⟩ = some (.int .i64 4) ∧ w'.cell? ⟨gw, 4, none⟩ = some (.string ⟨#[97, 98, 115, 101, 110, 116]⟩)) (by kernel_rfl) (by (try dsimp only); exact ⟨cmq 2, c0, cw 4⟩) (fun hH => ?_)
    refine wQ 0 ?_
    refine wQ 1 ?_
    refine wQ 5 ?_
    refine wQ 6 ?_
    refine wQ 7 ?_
    refine wQ 8 ?_
    refine wQ 9 ?_
    refine wQ 10 ?_
    refine wQ 11 ?_
    refine wQ 12 ?_
    refine wQ 13 ?_
    refine wQ 14 ?_
    refine wR (rs := [2]) (by kernel_rfl) (by simp) ?_
    refine aC rfl (fun K hK => ?_) aN
    go_simp
    refine (jes k _ (by omega)).mono ?_
    rintro e w2 ⟨rfl, qq⟩
    have b2 := qq.below wr.drew.heap.size
    replace B0 := B0.next b2
    replace hx := hx.next b2
    replace Bw := Bw.next b2
    replace Kq := jaa Kq b2
    replace c0 := (b2.cell (World.block_lt_of_cell? wr.drew _ c0)).trans c0
    clear b2 qq cmq cw
    have cmq := B0.cell
    have cw := Bw.cell
    have hsz := jcg k 2 (by omega) (by decide)
    obtain ⟨N, hN⟩ : ∃ N, jcf k = N := ⟨_, rfl⟩
    rw [hN] at hsz
    have HN := Lib.hid hN
    rw [hN]
    clear hN
    have f1 : ¬ 9223372036854775807 < T.size + N.size := by omega
    have f2 : ¬ 9223372036854775807 < T.size + N.size + 1 := by omega
    have f3 : ¬ 9223372036854775807 < T.size + N.size + 1 + 6 := by omega
    have f4 : ¬ 9223372036854775807 < T.size + N.size + 1 + 6 + 1 := by omega
    go_wp2_with fail
    refine hK.out _ _ (by (try dsimp only); exact ⟨cmq 2, c0, cw 4⟩) (fun hH => ?_)
    clear hK K
    refine wQ 3 ?_
    refine wQ 4 ?_
    refine wQ 15 ?_
    refine wQ 16 ?_
    refine wQ 17 ?_
    refine wD (by kernel_rfl) ?_ _
    clear f1 f2 f3 f4 c0 cw cmq
    have HT2 := Lib.hid (show jq2 xs (k + 1) = T ++ N ++ ⟨#[32]⟩ ++ ⟨#[97, 98, 115, 101, 110, 116]⟩ ++ ⟨#[10]⟩ by rw [jqz (by rw [HL.out]; exact hlt), HT.out]; unfold jq7; rw [HW.out, HN.out]; simp only [ByteArray.append_assoc])
    have hT2 : (T ++ N ++ ⟨#[32]⟩ ++ ⟨#[97, 98, 115, 101, 110, 116]⟩ ++ ⟨#[10]⟩).size ≤ 12 * (k + 1) := by simp only [ByteArray.size_append]; have z1 : (⟨#[32]⟩ : ByteArray).size = 1 := rfl; have z2 : (⟨#[10]⟩ : ByteArray).size = 1 := rfl; have z3 : (⟨#[97, 98, 115, 101, 110, 116]⟩ : ByteArray).size = 6 := rfl; omega
    go_wp2_with fail
    go_roundw
    case rel => exact ⟨k + 1, _, by omega, by go_num, rfl, HT2, hT2, B0, hx, Bw, Kq⟩
    case measure => simp [intOf]; omega
  ·obtain rfl : k = n := by omega
   clear hlt
   have B2 := B0.next ((Quiet.one wr).below wr.heap.size)
   have Kq := jaa K ((Quiet.one wr).below wr.heap.size)
   clear K B0 Bw
   have cm := B2.cell
   have hP := jcg p 5 (by omega) (by decide)
   have hQ := jcg q 2 (by omega) (by decide)
   have HFT := Lib.hid (show jso p q xs = T ++ ⟨#[99, 108, 111, 99, 107, 32]⟩ ++ jcf p ++ ⟨#[59, 32, 114, 101, 99, 111, 114, 100, 115, 32]⟩ ++ jcf q ++ ⟨#[10]⟩ by unfold jso; rw [HL.out, HT.out])
   obtain ⟨P, hPe⟩ : ∃ P, jcf p = P := ⟨_, rfl⟩
   obtain ⟨Q, hQe⟩ : ∃ Q, jcf q = Q := ⟨_, rfl⟩
   rw [hPe] at hP HFT
   rw [hQe] at hQ HFT
   have HP := Lib.hid hPe
   have HQ := Lib.hid hQe
   clear hPe hQe
   have f1 : ¬ 9223372036854775807 < T.size + 6 := by omega
   have f2 : ¬ 9223372036854775807 < T.size + 6 + P.size := by omega
   have f3 : ¬ 9223372036854775807 < T.size + 6 + P.size + 10 := by omega
   have f4 : ¬ 9223372036854775807 < T.size + 6 + P.size + 10 + Q.size := by omega
   have f5 : ¬ 9223372036854775807 < T.size + 6 + P.size + 10 + Q.size + 1 := by omega
   clear hx
   go_wp2_with fail
   refine wp_region_held_drew (S := fun w' => w'.cell? ⟨w.heap.size, 0, none⟩ = some (.int .i64 (p : Int)) ∧ w'.cell? ⟨w.heap.size, 5, none⟩ = some (.int .i64 (q : Int))) (by kernel_rfl) (by (try dsimp only); exact ⟨cm 0, cm 5⟩) (fun hH => ?_)
   refine wQ 0 ?_
   refine wQ 1 ?_
   refine wQ 2 ?_
   refine wQ 3 ?_
   refine wQ 4 ?_
   refine wQ 8 ?_
   refine wQ 9 ?_
   refine wQ 10 ?_
   refine wR (rs := [5]) (by kernel_rfl) (by simp) ?_
   refine aC rfl (fun K hK => ?_) aN
   go_simp
   refine (jes p _ (by omega)).mono ?_
   rw [HP.out]
   rintro e w9 ⟨rfl, qq⟩
   replace B2 := B2.next (qq.below _)
   replace Kq := jaa Kq (qq.below _)
   clear qq cm
   have cm := B2.cell
   go_wp2_with fail
   refine hK.out _ _ (by (try dsimp only); exact ⟨cm 0, cm 5⟩) (fun hH => ?_)
   clear hK K
   refine wQ 6 ?_
   refine wQ 7 ?_
   refine wR (rs := [11]) (by kernel_rfl) (by simp) ?_
   refine aC rfl (fun K hK => ?_) aN
   go_simp
   refine (jes q _ (by omega)).mono ?_
   rw [HQ.out]
   rintro e w9 ⟨rfl, qq⟩
   replace B2 := B2.next (qq.below _)
   replace Kq := jaa Kq (qq.below _)
   clear qq cm
   have cm := B2.cell
   go_wp2_with fail
   refine hK.out _ _ (by (try dsimp only); exact ⟨cm 0, cm 5⟩) (fun hH => ?_)
   clear hK K
   refine wQ 12 ?_
   refine wQ 13 ?_
   refine wQ 14 ?_
   refine wQ 15 ?_
   refine wD (by kernel_rfl) ?_ _
   go_wp2_with fail
   go_ret2
   exact ⟨by rw [HF.out, Option.getD_some, HFT.out]; rfl, Kq⟩
theorem jse (A : Option Addr) (m c : Nat) (w : World) (hA : CodeIn w A m) (hm : m ≤ 9223372036854775807) (hg : GlE w) :
  Calls Tryz.prog 8 #[.slice A m c] w fun e w' => e = .returned (.bool true) ∧ Below w.heap.size w w' := by
 by_cases hbig : 65536 < m
 ·go_enter Tryz.func8, Tryz.ntmps8
  go_wp2_with fail
  refine (jsz A m c w hm).mono ?_
  rintro e w' ⟨rfl, rfl⟩
  rw [decide_eq_true hbig]
  go_wp2_with fail
  go_ret
  exact ⟨rfl, Below.refl _ _⟩
 go_enter Tryz.func8, Tryz.ntmps8
 go_wp2_with fail
 refine (jsz A m c w hm).mono ?_
 rintro e w' ⟨rfl, rfl⟩
 rw [decide_eq_false hbig]
 go_wp2_with fail
 refine (jrp A m c w hA (by omega)).mono ?_
 rintro e w1 ⟨r, l, A1, c1, s, rfl, M, hsm, hl, hs, b1⟩
 have U := nB w1 (.cells #[r.clock, r.closed, .slice A1 r.field.length c1, l.durable, l.pending, l.count] 35)
 have K : Below w.heap.size w (w1.alloc (.cells #[r.clock, r.closed, .slice A1 r.field.length c1, l.durable, l.pending, l.count] 35)) := jaa b1 U
 have B := nP w1 [r.clock, r.closed, .slice A1 r.field.length c1, l.durable, l.pending, l.count] 35
 have X := (M.next U).sees
 have hn8 : r.field.length ≤ 1048576 := by have := hsm.1; omega
 have HI := Lib.hid (show ∀ x ∈ r.field, x.cnt ≤ 1048576 from fun x hx => by have := hsm.2 x hx; omega)
 have CI := (fun W s (hs : s.size ≤ 1048576) (h : SeesN entrantSh W 0 A1 r.field.length r.field) (hk : Below w.heap.size w W) => jsa r.clock r.closed l A1 r.field.length c1 r.field s W h hn8 HI.out hl hs (hg.next hk))
 have CS := (fun W s (hs : s.size ≤ 1048576) (h : SeesN entrantSh W 0 A1 r.field.length r.field) => jrr r.clock r.closed l A1 r.field.length c1 r.field s W h hn8 HI.out hl hs)
 have CF := Lib.hid (fun W (h : SeesN entrantSh W 0 A1 r.field.length r.field) (hk : Below w.heap.size w W) => jrq r.clock r.closed l A1 r.field.length c1 r.field W h hn8 HI.out hl (hg.next hk).gl)
 have CG := Lib.hid (fun W (h : SeesN entrantSh W 0 A1 r.field.length r.field) => jri r.clock r.closed l A1 r.field.length c1 r.field W h hn8 HI.out hl)
 rw [show (⟨r.clock, r.closed, r.field⟩ : RaceV) = r from rfl] at CI CS
 have C1 := Lib.hid (fun W hs' h hk => CI W s hs' h hk)
 have C2 := Lib.hid (fun W x (hs' : x.size ≤ 1048576) h hk => CI W x hs' h hk)
 have C3 := Lib.hid (fun W hs' h => CS W s hs' h)
 clear CI CS M U b1 hA
 unfold jrc at C1 C3
 obtain ⟨R, hR⟩ : ∃ R, jq1 r l s = R := ⟨_, rfl⟩
 have HR := Lib.hid hR
 rw [hR] at C1 C3
 clear hR
 obtain ⟨vb, hvb⟩ : ∃ b, R.isSome = b := ⟨_, rfl⟩
 obtain ⟨L1, hL1⟩ : ∃ x, R.getD [] = x := ⟨_, rfl⟩
 obtain ⟨n, hn⟩ : ∃ n, L1.length = n := ⟨_, rfl⟩
 rw [hvb, hL1, hn] at C1 C3
 have H0 := Lib.hid (show vb = false → n = 0 by
  intro h
  rw [h] at hvb
  cases R with
  | none => rw [← hn, ← hL1]; rfl
  | some x => cases hvb)
 have H1 := Lib.hid (show vb = true → jq1 r l s = some L1 by
  intro h
  rw [h] at hvb
  cases R with
  | none => cases hvb
  | some x => rw [HR.out, ← hL1]; rfl)
 have HN := Lib.hid hn
 clear hvb hL1 hn
 have hs2 : s.size ≤ 1048576 := by omega
 go_upto_region 4 with fail
 generalize w1.alloc _ = w2 at *
 generalize w1.heap.size = gb at *
 have cm := B.cell
 go_wp2_with fail
 refine (C1.out w2 hs2 X K).mono ?_
 rintro e w3 ⟨A5, c5, rfl, O1, b9⟩
 clear cm
 replace B := B.next b9
 replace X := X.next b9
 replace K := jaa K b9
 clear b9
 have cm := B.cell
 go_wp2_with fail
 refine (C3.out w3 hs2 X).mono ?_
 rintro e w4 ⟨A6, c6, rfl, O2, b9⟩
 clear cm C1 C3
 replace B := B.next b9
 replace X := X.next b9
 replace O1 := jad O1 b9
 replace K := jaa K b9
 clear b9
 cases vb
 ·obtain rfl := H0.out rfl
  go_wp2_with fail
  go_loopw [9] (fun iv wr => iv = .int .i64 0 ∧ Quiet w4 wr) (fun _ _ => 0)
  case atStart => exact ⟨rfl, Quiet.refl _⟩
  case round =>
   obtain ⟨rfl, q⟩ := hrel
   go_wp2_with fail
   refine (jre s wr (by omega)).mono ?_
   rintro e w5 ⟨A7, c7, rfl, O3, b9⟩
   replace K := jaa (jaa K (q.below w4.heap.size)) b9
   go_wp2_with fail
   go_ret
   exact ⟨rfl, K⟩
 have HS := Lib.hid (H1.out rfl)
 have hl2 := jsj HS.out
 have hlp := jjr 10 s
 rw [HN.out] at hl2
 obtain ⟨LL, hLL⟩ : ∃ x, jbb 10 s = x := ⟨_, rfl⟩
 have HLL := Lib.hid hLL
 rw [hLL] at hl2 hlp
 have CSP := Lib.hid (fun W => jre s W (by omega))
 unfold jr7 at CSP
 rw [hLL, ← hl2.1] at CSP
 have hn1 : 1 ≤ n := by omega
 have hn30 : n ≤ 30 := hl2.2
 have HNL := Lib.hid hl2.1
 clear hLL hl2 hlp H0 H1
 rcases jby O1 with ⟨-, hz, -, -⟩ | ⟨g1, cur1, rfl, hgb1, hB1, -, -, -, -⟩
 ·omega
 rcases jby O2 with ⟨-, hz, -, -⟩ | ⟨g2, cur2, rfl, hgb2, hB2, -, -, -, -⟩
 ·omega
 clear hB1 hB2 hgb1 hgb2
 have hx1 := Sees.of_own O1
 have hx2 := Sees.of_own O2
 go_wp2_with fail
 go_loopw [9] (fun iv wr => ∃ k : Nat, k ≤ n ∧ iv = .int .i64 (k : Int) ∧ Quiet w4 wr) (fun iv _ => n - (intOf iv).toNat)
 case atStart => exact ⟨0, Nat.zero_le _, rfl, Quiet.refl _⟩
 case round =>
  obtain ⟨k, hk, rfl, q⟩ := hrel
  by_cases hlt : k < n
  ·have hlt1 : (k : Int) < (n : Int) := by omega
   have hi1 : (0 : Int) ≤ (k : Int) := by omega
   obtain ⟨hk1, x0⟩ := jiw (hx1.quiet q) hlt
   obtain ⟨hk2, y0⟩ := jiw (hx2.quiet q) hlt
   have es : (L1[k].toList != L1[k].toList) = false := bne_self_eq_false _
   go_wp2_with fail
   go_quiet (fail)
   go_wp2_with fail
   go_roundw
   case rel => exact ⟨k + 1, by omega, by go_num, q.trans ⟨nq, rfl⟩⟩
   case measure => simp [intOf] <;> omega
  ·obtain rfl : k = n := by omega
   have hlt1 : ¬ (k : Int) < (k : Int) := by omega
   have b9 := q.below w4.heap.size
   clear q hx2 O2
   replace B := B.next b9
   replace X := X.next b9
   replace O1 := jad O1 b9
   replace K := jaa K b9
   clear b9
   clear hx1
   go_wp2_with fail
   refine (CSP.out wr).mono ?_
   rintro e w5 ⟨A7, c7, rfl, O3, b9⟩
   replace B := B.next b9
   replace X := X.next b9
   replace O1 := jad O1 b9
   replace K := jaa K b9
   clear b9
   by_cases h2 : k < 2
   ·have h3 : (k : Int) < 2 := by omega
    go_wp2_with fail
    go_ret
    exact ⟨rfl, K⟩
   have h3 : ¬ (k : Int) < 2 := by omega
   rcases jby O3 with ⟨-, hz, -, -⟩ | ⟨g3, cur3, rfl, hgb3, hB3, -, -, -, -⟩
   ·omega
   clear hB3 hgb3
   obtain ⟨x, L2, hx⟩ : ∃ x L2, LL = x :: L2 := by
    cases LL with
    | nil => have := HNL.out; simp at this; omega
    | cons x t => exact ⟨x, t, rfl⟩
   obtain ⟨hf1, R2, hf2⟩ := jsi HS.out (HLL.out.trans hx)
   obtain ⟨q1, hq1⟩ : ∃ q, (exM r l x).reply = q := ⟨_, rfl⟩
   rw [hq1] at hf1 hf2
   have hxs : x.size ≤ 1048576 := by
    have := jg5 10 s (x := x) (by rw [HLL.out, hx]; exact List.mem_cons_self)
    omega
   have C4 := Lib.hid (fun W h hk => C2.out W x hxs h hk)
   unfold jrc at C4
   rw [hf1] at C4
   have hx3 := Sees.of_own O3
   obtain ⟨hz3, z0⟩ := jiw hx3 (show 0 < k by omega)
   have z1 : w5.cell? ⟨g3, 0, none⟩ = some (.string x) := by
    have h9 := z0
    subst hx
    exact h9
   clear hx hx3 z0 hf1 hq1 C2 O3 CSP HLL HNL
   have hk0 : (0 : Int) < (k : Int) := by omega
   have hk00 : 0 < k := by omega
   go_wp2_with fail
   have b9 := (Quiet.one w5).below w5.heap.size
   have z2 : w5.drew.cell? ⟨g3, 0, none⟩ = some (.string x) := z1
   replace B := B.next b9
   replace X := X.next b9
   replace O1 := jad O1 b9
   have Kq := jaa K b9
   clear K b9 z1
   have cm := B.cell
   go_region_held3 (fun w' => w'.cell? ⟨gb, 0, none⟩ = some (.int .i64 r.clock) ∧ w'.cell? ⟨gb, 1, none⟩ = some (.bool r.closed) ∧ w'.cell? ⟨gb, 2, none⟩ = some (.slice A1 r.field.length c1) ∧ w'.cell? ⟨gb, 3, none⟩ = some (.string l.durable) ∧ w'.cell? ⟨gb, 4, none⟩ = some (.string l.pending) ∧ w'.cell? ⟨gb, 5, none⟩ = some (.int .i64 l.count) ∧ w'.cell? ⟨g3, 0, none⟩ = some (.string x)) (go_keep)
    ((go_at_call 17
      refine (C4.out _ X Kq).mono ?_
      rintro e w6 ⟨A8, c8, he8, O4, b9⟩
      replace he8 : e = .returned (.tuple #[.slice A8 1 c8, .bool true]) := he8
      subst he8
      replace Kq := jaa Kq b9
      replace z2 := (b9.cell (p := ⟨g3, 0, none⟩) (World.block_lt_of_cell? _ _ z2)).trans z2
      replace B := B.next b9
      replace X := X.next b9
      replace O1 := jad O1 b9
      clear b9 cm C4
      have cm := B.cell))
   replace O4 : w6.ownsRow _ 9 1 (.slice A8 1 c8) 1 (jkz [q1]) := O4
   clear z2 cm
   obtain ⟨fb, hfb⟩ : ∃ b, (jrl r.clock r.closed l r.field).isSome = b := ⟨_, rfl⟩
   obtain ⟨ft, hft⟩ : ∃ b, (jrl r.clock r.closed l r.field).getD ⟨#[]⟩ = b := ⟨_, rfl⟩
   rw [hfb, hft] at CF CG
   clear hfb hft
   have cm := B.cell
   go_wp2_with fail
   refine (CF.out w6 X Kq).mono ?_
   rintro e w7 ⟨rfl, b9⟩
   clear cm
   replace Kq := jaa Kq b9
   replace B := B.next b9
   replace X := X.next b9
   replace O1 := jad O1 b9
   replace O4 := jad O4 b9
   clear b9
   have cm := B.cell
   go_wp2_with fail
   refine (CG.out w7 X).mono ?_
   rintro e w8 ⟨rfl, b9⟩
   clear cm
   replace Kq := jaa Kq b9
   replace O1 := jad O1 b9
   replace O4 := jad O4 b9
   clear b9
   rcases jby O4 with ⟨-, hz, -, -⟩ | ⟨g4, cur4, rfl, hgb4, hB4, -, -, -, -⟩
   ·omega
   clear hB4 hgb4
   obtain ⟨hk1, x0⟩ := jiw (Sees.of_own O1) hk00
   obtain ⟨hk2, y0⟩ := jiw (Sees.of_own O4) (show 0 < 1 by decide)
   have x1 : w8.cell? ⟨g1, 0, none⟩ = some (.string q1) := by
    have h9 := x0
    subst hf2
    exact h9
   have y1 : w8.cell? ⟨g4, 0, none⟩ = some (.string q1) := y0
   clear x0 y0 hf2 O1 O4
   have e1 : (q1.toList == q1.toList) = true := beq_self_eq_true _
   have e2 : (ft.toList == ft.toList) = true := beq_self_eq_true _
   have e3 : (fb == fb) = true := beq_self_eq_true _
   go_wp2_with fail
   go_quiet (fail)
   go_wp2_with fail
   go_ret
   exact ⟨rfl, jaa Kq ((show Quiet w8 (w8.drewN nq) from ⟨nq, rfl⟩).below _)⟩
end Go.Proofs.YtflpcdffmpfdpaaGreatDoor
namespace Go.Proofs.YtflpcdffmpfdpaaGreatDoor
open Go.ChangeShapes Go.WideShapes Go.ChangeAt Go.RowKit Go.Deep

section
variable {H : Type} {enc : TypeId × Value → H} {P : Program} {w : World} {base : Nat} {spare : Nat → Bool} {held : Bool}

theorem jr5 {α : Type} [Inhabited α] {E : α → List Value} {s : Nat} {t e : TypeId} {fuel : Nat} {cs : List Value} {x : DataW H × List MemPlace}
  (ht : P.underlying t = some (.slice e)) (hC : P.cellsOf e = s) (hs : 0 < s) (hlen : ∀ d, (E d).length = s)
  (helem : ∀ n cs x, DataW.trod enc P w base spare held n e cs = some x → ∃ d : α, cs = E d)
  (h : DataW.trod enc P w base spare held fuel t cs = some x) :
  ∃ (A : Option Addr) (n c : Nat) (ds : List α), cs = [.slice A n c] ∧ n ≤ 9223372036854775807 ∧ Sees w base s A n (ds.flatMap E) := by
 rcases open_slice ht h with ⟨hcs, _⟩ | ⟨a, len, cap, m, n, D, Pl, hcs, hb, hl, hm, hmm, hx, hi⟩
 ·exact ⟨none, 0, 0, [], hcs, by omega, Sees.nil _ _ _ _⟩
 ·have hlm : len ≤ m := by rw [hmm]; split <;> omega
  have hex : ∀ i, i < len → ∃ d : α, ∀ j u, (E d)[j]? = some u → w.cell? (a.add (i * s + j)) = some u := by
   intro i hil
   obtain ⟨cs', hc, ht'⟩ := hi i (by omega)
   obtain ⟨d, rfl⟩ := helem _ _ _ ht'
   obtain ⟨_, hcl, hat⟩ := World.cells?_some hc
   refine ⟨d, fun j u hu => ?_⟩
   have hj : j < (E d).length := (List.getElem?_eq_some_iff.1 hu).1
   rw [← hu, ← hat j (by rw [← hcl]; exact hj), hC, Go.Deep.add_add]
  obtain ⟨f, hf⟩ := choose_lt hex
  have hl2 : ((List.range len).map f).length = len := by simp
  refine ⟨some a, len, cap, (List.range len).map f, hcs, by unfold maxLen at hm; omega, ?_, fun hn => ?_⟩
  ·rw [jak _ (fun d _ => hlen d), hl2]
  ·obtain ⟨b, off, spot⟩ := a
   have hlie : ∀ j u, (((List.range len).map f).flatMap E)[j]? = some u → w.cell? ((⟨b, off, spot⟩ : Addr).add j) = some u := by
    intro j u hu
    have hj := (List.getElem?_eq_some_iff.1 hu).1
    rw [jak _ (fun d _ => hlen d), hl2] at hj
    have hq : j / s < len := Nat.div_lt_of_lt_mul (by rw [Nat.mul_comm]; exact hj)
    have hr : j % s < s := Nat.mod_lt _ hs
    have hjj : j / s * s + j % s = j := by rw [Nat.mul_comm]; exact Nat.div_add_mod j s
    have h1 := jds (f := E) ((List.range len).map f) (fun d _ => hlen d) (j / s) (j % s) (by rw [hl2]; exact hq) hr
    rw [hjj, hu] at h1
    have h2 := hf (j / s) hq (j % s) u (by simpa using h1.symm)
    rwa [hjj] at h2
   have h0 : 0 < (((List.range len).map f).flatMap E).length := by
    rw [jak _ (fun d _ => hlen d), hl2]
    exact Nat.mul_pos hn hs
   have hc0 := hlie 0 _ (List.getElem?_eq_getElem h0)
   have hsp : spot = none := by simpa [Addr.add] using World.cell?_spot hc0
   subst hsp
   refine ⟨b, off, rfl, hb, by simpa [Addr.add] using World.block_lt_of_cell? w _ hc0, fun j u hu => ?_⟩
   have hadd : (⟨b, off, none⟩ : Addr).add j = ⟨b, off + j, none⟩ := by unfold Addr.add; split <;> simp_all
   have := hlie j u hu
   rwa [hadd] at this

end
end Go.Proofs.YtflpcdffmpfdpaaGreatDoor
namespace Go.Proofs.YtflpcdffmpfdpaaGreatDoor
open Go.ChangeShapes Go.WideShapes Go.ChangeAt Go.RowKit Go.Deep

section
variable {H : Type} {enc : TypeId × Value → H} {P : Program} {w : World} {base : Nat} {spare : Nat → Bool} {held : Bool}
theorem jrx {α : Type} {Q : α → Prop} (d0 : α) (h0 : Q d0) {E : α → List Value} {s : Nat} {t e : TypeId} {fuel : Nat} {cs : List Value} {x : DataW H × List MemPlace}
  (ht : P.underlying t = some (.slice e)) (hC : P.cellsOf e = s) (hs : 0 < s) (hlen : ∀ d, (E d).length = s)
  (helem : ∀ n cs x, DataW.trod enc P w base spare held n e cs = some x → ∃ d : α, cs = E d ∧ Q d)
  (h : DataW.trod enc P w base spare held fuel t cs = some x) :
  ∃ (A : Option Addr) (n c : Nat) (ds : List α), cs = [.slice A n c] ∧ n ≤ 9223372036854775807 ∧ Sees w base s A n (ds.flatMap E) ∧ ∀ d ∈ ds, Q d := by
 haveI : Inhabited {d : α // Q d} := ⟨⟨d0, h0⟩⟩
 obtain ⟨A, n, c, ds, h1, h2, h3⟩ := jr5 (α := {d : α // Q d}) (E := fun d => E d.1) ht hC hs (fun d => hlen d.1) (fun n cs x h => by
  obtain ⟨d, hd, hq⟩ := helem n cs x h
  exact ⟨⟨d, hq⟩, hd⟩) h
 refine ⟨A, n, c, ds.map Subtype.val, h1, h2, by rw [List.flatMap_map]; exact h3, fun d hd => ?_⟩
 obtain ⟨x, _, rfl⟩ := List.mem_map.1 hd
 exact x.2
end

end Go.Proofs.YtflpcdffmpfdpaaGreatDoor
namespace Go.Proofs.YtflpcdffmpfdpaaGreatDoor
open Go.ChangeShapes Go.WideShapes Go.ChangeAt Go.RowKit Go.Deep
theorem jsh : ownKnob Tryz.prog.godebug = none := by kernel_rfl
theorem jsg : laidOutB Tryz.prog = true := by kernel_rfl
section
variable {H : Type} {enc : TypeId × Value → H} {w : World} {base : Nat} {spare : Nat → Bool} {held : Bool}
end
end Go.Proofs.YtflpcdffmpfdpaaGreatDoor
namespace Go.Proofs.YtflpcdffmpfdpaaGreatDoor
open Go.ChangeShapes Go.WideShapes Go.ChangeAt Go.RowKit Go.Deep
section
variable {H : Type} {enc : TypeId × Value → H} {w : World} {spare : Nat → Bool} {held : Bool}
theorem js0 : Tryz.prog.cellsOf 5 = 1 := by kernel_rfl
theorem jth {fuel : Nat} {cs : List Value} {x : DataW H × List MemPlace} (h : DataW.trod enc Tryz.prog w 0 spare held fuel 47 cs = some x) : ∃ (A : Option Addr) (n c : Nat), cs = [.slice A n c] ∧ n ≤ 9223372036854775807 ∧ CodeIn w A n := by
 obtain ⟨A, n, c, ds, h1, h2, h3, h4⟩ := jrx (α := Int) (Q := fun u => 0 ≤ u ∧ u ≤ 255) 0 ⟨by decide, by decide⟩ (E := fun u => [Value.int .u8 u]) Tryz.underlying47 js0 (by decide) (fun _ => rfl) (fun n cs x h => by
  obtain ⟨d, hd, _, hw⟩ := DataW.trod_int Tryz.underlying5 h
  refine ⟨d, hd, ?_⟩
  simp [Lit.wf, IntKind.bits, IntKind.signed, IntKind.min, IntKind.max] at hw
  omega) h
 refine ⟨A, n, c, h1, h2, fun hn => ?_⟩
 have hl := h3.count (by decide) (fun _ => rfl)
 obtain ⟨b, off, e, _, hb, hlie⟩ := h3.at' hn
 refine ⟨b, off, e, hb, fun j hj => ?_⟩
 have hj' : j < ds.length := by omega
 refine ⟨ds[j], hlie j _ ?_, h4 _ (List.getElem_mem hj')⟩
 have := jds (f := fun u => [Value.int .u8 u]) ds (s := 1) (fun _ _ => rfl) j 0 hj' (by decide)
 simpa using this
end
end Go.Proofs.YtflpcdffmpfdpaaGreatDoor
