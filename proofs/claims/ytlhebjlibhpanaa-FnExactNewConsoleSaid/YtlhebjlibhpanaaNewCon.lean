/- NewRace and NewConsole, as the program and as the reference have them. -/
import Derived.Test.YtlhebjlibhpanaaConN
import Derived.Test.YtlhebjlibhpanaaS0
namespace Go.Proofs.Ytlhebjlibhpanaa
open Go.RowKit


/-- how many entrants there are -/
def entN (e0 : Int) : Nat := if inB e0 1 8 then e0.toNat else 0
theorem entN_le (e0 : Int) : entN e0 ≤ 8 := by
  unfold entN
  split
  · rename_i h
    have := inB_true h
    omega
  · omega
def GivesRace (w : World) (e0 : Int) (e : Ending) (w' : World) : Prop := ∃ A, e = .returned (.tuple #[.agg #[.int .i64 0, .bool false, .slice A (entN e0) (entN e0)], .bool (inB e0 1 8)]) ∧ MineN entrantSh w' (In w.heap.size w'.heap.size) 47 51 A (entN e0) (entN e0) (List.replicate (entN e0) zeroE) ∧ Below w.heap.size w w'
def GivesCon (w : World) (B : Bool) (N : Nat) (e : Ending) (w' : World) : Prop := ∃ A, e = .returned (.tuple #[.agg #[.int .i64 0, .bool false, .slice A N N, .string ⟨#[]⟩, .string ⟨#[]⟩, .int .i64 0], .bool B]) ∧ MineN entrantSh w' (In w.heap.size w'.heap.size) 47 51 A N N (List.replicate N zeroE) ∧ Below w.heap.size w w'
theorem mine_zero (w : World) (S : Nat → Prop) : MineN entrantSh w (S) 47 51 none 0 0 (List.replicate 0 zeroE) := MineN.nil _ _ _ _

set_option maxRecDepth 100000 in
set_option maxHeartbeats 2000000 in
theorem NewRace_any (e0 : Int) (w : World) : Calls Try.prog 10 #[.int .i64 e0] w (GivesRace w e0) := by
  go_enter Try.func10, Try.ntmps10
  go_wp2_with fail
  have U : Below w.heap.size w (w.alloc (.cells #[.int .i64 0, .bool false, .slice none 0 0] 24)) := (Below.refl _ _).alloc (Nat.le_refl _) _
  have R : Blk (w.alloc (.cells #[.int .i64 0, .bool false, .slice none 0 0] 24)) w.heap.size 24 [.int .i64 0, .bool false, .slice none 0 0] := Blk.at_ rfl
  refine (inside_any e0 1 8 _).mono ?_
  rintro e w' ⟨rfl, rfl⟩
  by_cases h : inB e0 1 8 = true
  · have hb := inB_true h
    obtain ⟨n, rfl⟩ := Int.eq_ofNat_of_zero_le (show 0 ≤ e0 by omega)
    have hn : n ≤ 8 := by omega
    have hmk := make_ents n hn (w.alloc (.cells #[.int .i64 0, .bool false, .slice none 0 0] 24))
    have hen : entN (n : Int) = n := by unfold entN; rw [if_pos h]; omega
    have M := mine_ents n hn (w.alloc (.cells #[.int .i64 0, .bool false, .slice (some ⟨w.heap.size + 1, 0, none⟩) n n] 24))
    have hsz : (w.alloc (.cells #[.int .i64 0, .bool false, .slice none 0 0] 24)).heap.size = w.heap.size + 1 := by simp
    have hsz6 : (w.alloc (.cells #[.int .i64 0, .bool false, .slice (some ⟨w.heap.size + 1, 0, none⟩) n n] 24)).heap.size = w.heap.size + 1 := by simp
    rw [hsz6] at M
    rw [hsz] at hmk
    have K3 : Below w.heap.size w ((w.alloc (.cells #[.int .i64 0, .bool false, .slice (some ⟨w.heap.size + 1, 0, none⟩) n n] 24)).alloc (.cells ((zeroR n).flatMap entrantSh.enc).toArray 47)) := ((Below.refl _ _).alloc (Nat.le_refl _) _).alloc (by simp) _
    have cm := (show Blk ((w.alloc (.cells #[.int .i64 0, .bool false, .slice (some ⟨w.heap.size + 1, 0, none⟩) n n] 24)).alloc (.cells ((zeroR n).flatMap entrantSh.enc).toArray 47)) w.heap.size 24 [.int .i64 0, .bool false, .slice (some ⟨w.heap.size + 1, 0, none⟩) n n] from (Blk.at_ rfl).alloc _).cell
    have hz2 : w.heap.size + 2 ≤ ((w.alloc (.cells #[.int .i64 0, .bool false, .slice (some ⟨w.heap.size + 1, 0, none⟩) n n] 24)).alloc (.cells ((zeroR n).flatMap entrantSh.enc).toArray 47)).heap.size := by simp
    have M4 := M.wide (T := In w.heap.size ((w.alloc (.cells #[.int .i64 0, .bool false, .slice (some ⟨w.heap.size + 1, 0, none⟩) n n] 24)).alloc (.cells ((zeroR n).flatMap entrantSh.enc).toArray 47)).heap.size) (fun b hb => ⟨by have := hb.1; omega, by have := hb.2; omega⟩)
    rw [h]
    clear hsz R hsz6 M hz2 U
    go_wp2_with fail
    refine bodyPost_ret (v := .tuple #[.agg #[.int .i64 0, .bool false, .slice (some ⟨w.heap.size + 1, 0, none⟩) n n], .bool true]) (by simp [results, Try.results10, go_sem, cm]) rfl ?_
    clear cm hmk
    generalize ((w.alloc (.cells #[.int .i64 0, .bool false, .slice (some ⟨w.heap.size + 1, 0, none⟩) n n] 24)).alloc (.cells ((zeroR n).flatMap entrantSh.enc).toArray 47)) = w3 at *
    exact ⟨some ⟨w.heap.size + 1, 0, none⟩, by rw [hen, h], by rw [hen]; exact M4, K3⟩
  · have hb : inB e0 1 8 = false := by simpa using h
    have hen : entN e0 = 0 := by unfold entN; rw [if_neg h]
    have cr := R.cell
    have fr := R.frozen
    rw [hb]
    go_wp2_with fail
    have cm := R.cell
    refine bodyPost_ret (v := .tuple #[.agg #[.int .i64 0, .bool false, .slice none 0 0], .bool false]) (by simp [results, Try.results10, go_sem, cm]) rfl ?_
    clear cm cr fr R
    generalize (w.alloc (.cells #[.int .i64 0, .bool false, .slice none 0 0] 24)) = w3 at *
    exact ⟨none, by rw [hen, hb], by rw [hen]; exact mine_zero _ _, U⟩

set_option maxRecDepth 100000 in
set_option maxHeartbeats 2000000 in
theorem specNewRace_any (e0 : Int) (w : World) : Calls Try.prog 9 #[.int .i64 e0] w (GivesRace w e0) := by
  go_enter Try.func9, Try.ntmps9
  go_wp2_with fail
  have U : Below w.heap.size w (w.alloc (.cells #[.int .i64 0, .bool false, .slice none 0 0] 24)) := (Below.refl _ _).alloc (Nat.le_refl _) _
  have R : Blk (w.alloc (.cells #[.int .i64 0, .bool false, .slice none 0 0] 24)) w.heap.size 24 [.int .i64 0, .bool false, .slice none 0 0] := Blk.at_ rfl
  refine (l1In_any e0 1 8 _).mono ?_
  rintro e w' ⟨rfl, rfl⟩
  by_cases h : inB e0 1 8 = true
  · have hb := inB_true h
    obtain ⟨n, rfl⟩ := Int.eq_ofNat_of_zero_le (show 0 ≤ e0 by omega)
    have hn : n ≤ 8 := by omega
    have hmk := make_ents n hn (w.alloc (.cells #[.int .i64 0, .bool false, .slice none 0 0] 24))
    have hen : entN (n : Int) = n := by unfold entN; rw [if_pos h]; omega
    have M := mine_ents n hn (w.alloc (.cells #[.int .i64 0, .bool false, .slice (some ⟨w.heap.size + 1, 0, none⟩) n n] 24))
    have hsz : (w.alloc (.cells #[.int .i64 0, .bool false, .slice none 0 0] 24)).heap.size = w.heap.size + 1 := by simp
    have hsz6 : (w.alloc (.cells #[.int .i64 0, .bool false, .slice (some ⟨w.heap.size + 1, 0, none⟩) n n] 24)).heap.size = w.heap.size + 1 := by simp
    rw [hsz6] at M
    rw [hsz] at hmk
    have K3 : Below w.heap.size w ((w.alloc (.cells #[.int .i64 0, .bool false, .slice (some ⟨w.heap.size + 1, 0, none⟩) n n] 24)).alloc (.cells ((zeroR n).flatMap entrantSh.enc).toArray 47)) := ((Below.refl _ _).alloc (Nat.le_refl _) _).alloc (by simp) _
    have cm := (show Blk ((w.alloc (.cells #[.int .i64 0, .bool false, .slice (some ⟨w.heap.size + 1, 0, none⟩) n n] 24)).alloc (.cells ((zeroR n).flatMap entrantSh.enc).toArray 47)) w.heap.size 24 [.int .i64 0, .bool false, .slice (some ⟨w.heap.size + 1, 0, none⟩) n n] from (Blk.at_ rfl).alloc _).cell
    have hz2 : w.heap.size + 2 ≤ ((w.alloc (.cells #[.int .i64 0, .bool false, .slice (some ⟨w.heap.size + 1, 0, none⟩) n n] 24)).alloc (.cells ((zeroR n).flatMap entrantSh.enc).toArray 47)).heap.size := by simp
    have M4 := M.wide (T := In w.heap.size ((w.alloc (.cells #[.int .i64 0, .bool false, .slice (some ⟨w.heap.size + 1, 0, none⟩) n n] 24)).alloc (.cells ((zeroR n).flatMap entrantSh.enc).toArray 47)).heap.size) (fun b hb => ⟨by have := hb.1; omega, by have := hb.2; omega⟩)
    rw [h]
    clear hsz R hsz6 M hz2 U
    go_wp2_with fail
    refine bodyPost_ret (v := .tuple #[.agg #[.int .i64 0, .bool false, .slice (some ⟨w.heap.size + 1, 0, none⟩) n n], .bool true]) (by simp [results, Try.results9, go_sem, cm]) rfl ?_
    clear cm hmk
    generalize ((w.alloc (.cells #[.int .i64 0, .bool false, .slice (some ⟨w.heap.size + 1, 0, none⟩) n n] 24)).alloc (.cells ((zeroR n).flatMap entrantSh.enc).toArray 47)) = w3 at *
    exact ⟨some ⟨w.heap.size + 1, 0, none⟩, by rw [hen, h], by rw [hen]; exact M4, K3⟩
  · have hb : inB e0 1 8 = false := by simpa using h
    have hen : entN e0 = 0 := by unfold entN; rw [if_neg h]
    have cr := R.cell
    have fr := R.frozen
    rw [hb]
    go_wp2_with fail
    have cm := R.cell
    refine bodyPost_ret (v := .tuple #[.agg #[.int .i64 0, .bool false, .slice none 0 0], .bool false]) (by simp [results, Try.results9, go_sem, cm]) rfl ?_
    clear cm cr fr R
    generalize (w.alloc (.cells #[.int .i64 0, .bool false, .slice none 0 0] 24)) = w3 at *
    exact ⟨none, by rw [hen, hb], by rw [hen]; exact mine_zero _ _, U⟩

set_option maxRecDepth 100000 in
set_option maxHeartbeats 2000000 in
theorem NewConsole_any (e0 : Int) (w : World) : Calls Try.prog 5 #[.int .i64 e0] w (GivesCon w (inB e0 1 8) (entN e0)) := by
  go_enter Try.func5, Try.ntmps5
  go_wp2_with fail
  have U : Below w.heap.size w (w.alloc (.cells #[.int .i64 0, .bool false, .slice none 0 0, .string ⟨#[]⟩, .string ⟨#[]⟩, .int .i64 0] 28)) := (Below.refl _ _).alloc (Nat.le_refl _) _
  have R : Blk (w.alloc (.cells #[.int .i64 0, .bool false, .slice none 0 0, .string ⟨#[]⟩, .string ⟨#[]⟩, .int .i64 0] 28)) w.heap.size 28 [.int .i64 0, .bool false, .slice none 0 0, .string ⟨#[]⟩, .string ⟨#[]⟩, .int .i64 0] := Blk.at_ rfl
  have hzC : w.heap.size + 1 = (w.alloc (.cells #[.int .i64 0, .bool false, .slice none 0 0, .string ⟨#[]⟩, .string ⟨#[]⟩, .int .i64 0] 28)).heap.size := by simp
  generalize (w.alloc (.cells #[.int .i64 0, .bool false, .slice none 0 0, .string ⟨#[]⟩, .string ⟨#[]⟩, .int .i64 0] 28)) = w1 at *
  refine (NewRace_any e0 w1).mono ?_
  rintro e w2 ⟨A, rfl, M, b⟩
  replace R := R.next b
  have K := U.trans (b.mono (by omega))
  have hs2 := b.size
  clear U b
  have ru := inB_true (n := e0) (lo := 1) (hi := 8)
  have hen : inB e0 1 8 = false → entN e0 = 0 := fun h => by unfold entN; rw [h]; rfl
  generalize entN e0 = N at *
  generalize inB e0 1 8 = B at *
  clear ru
  have U3 : Below w2.heap.size w2 (w2.alloc (.cells #[.int .i64 0, .bool false, .slice A N N] 24)) := (Below.refl _ _).alloc (Nat.le_refl _) _
  have R3 := R.next U3
  have B3 : Blk (w2.alloc (.cells #[.int .i64 0, .bool false, .slice A N N] 24)) w2.heap.size 24 [.int .i64 0, .bool false, .slice A N N] := Blk.at_ rfl
  have M3 := M.next U3
  have K3 := bel_then K U3
  have hs3 := U3.size
  have cb := B3.cell
  have cr := R3.cell
  have fr := R3.frozen
  clear R M K U3
  cases B
  · obtain rfl := hen rfl
    go_wp2_with fail
    have R4 : Blk (((((((w2.alloc (.cells #[.int .i64 0, .bool false, .slice A 0 0] 24)).setCell ⟨w.heap.size, 0, none⟩ (.int .i64 0)).setCell ⟨w.heap.size, 1, none⟩ (.bool false)).setCell ⟨w.heap.size, 2, none⟩ (.slice none 0 0)).setCell ⟨w.heap.size, 3, none⟩ (.string ⟨#[]⟩)).setCell ⟨w.heap.size, 4, none⟩ (.string ⟨#[]⟩)).setCell ⟨w.heap.size, 5, none⟩ (.int .i64 0)) w.heap.size 28 [.int .i64 0, .bool false, .slice none 0 0, .string ⟨#[]⟩, .string ⟨#[]⟩, .int .i64 0] := R3.many [.int .i64 0, .bool false, .slice none 0 0, .string ⟨#[]⟩, .string ⟨#[]⟩, .int .i64 0] 0
    have ho : Only (fun b => b = w.heap.size) (w2.alloc (.cells #[.int .i64 0, .bool false, .slice A 0 0] 24)) (((((((w2.alloc (.cells #[.int .i64 0, .bool false, .slice A 0 0] 24)).setCell ⟨w.heap.size, 0, none⟩ (.int .i64 0)).setCell ⟨w.heap.size, 1, none⟩ (.bool false)).setCell ⟨w.heap.size, 2, none⟩ (.slice none 0 0)).setCell ⟨w.heap.size, 3, none⟩ (.string ⟨#[]⟩)).setCell ⟨w.heap.size, 4, none⟩ (.string ⟨#[]⟩)).setCell ⟨w.heap.size, 5, none⟩ (.int .i64 0)) := Only.many (S := fun b => b = w.heap.size) rfl [.int .i64 0, .bool false, .slice none 0 0, .string ⟨#[]⟩, .string ⟨#[]⟩, .int .i64 0] (Only.refl _ _) 0
    have cm := R4.cell
    have K4 : Below w.heap.size w (((((((w2.alloc (.cells #[.int .i64 0, .bool false, .slice A 0 0] 24)).setCell ⟨w.heap.size, 0, none⟩ (.int .i64 0)).setCell ⟨w.heap.size, 1, none⟩ (.bool false)).setCell ⟨w.heap.size, 2, none⟩ (.slice none 0 0)).setCell ⟨w.heap.size, 3, none⟩ (.string ⟨#[]⟩)).setCell ⟨w.heap.size, 4, none⟩ (.string ⟨#[]⟩)).setCell ⟨w.heap.size, 5, none⟩ (.int .i64 0)) := K3.trans (ho.below (fun b (hb : b = w.heap.size) => by omega) (by omega))
    clear ho R4 R3 K3 cr fr cb B3 M3
    refine bodyPost_ret (v := .tuple #[.agg #[.int .i64 0, .bool false, .slice none 0 0, .string ⟨#[]⟩, .string ⟨#[]⟩, .int .i64 0], .bool false]) (by simp [results, Try.results5, go_sem, cm]) rfl ?_
    clear cm
    generalize (((((((w2.alloc (.cells #[.int .i64 0, .bool false, .slice A 0 0] 24)).setCell ⟨w.heap.size, 0, none⟩ (.int .i64 0)).setCell ⟨w.heap.size, 1, none⟩ (.bool false)).setCell ⟨w.heap.size, 2, none⟩ (.slice none 0 0)).setCell ⟨w.heap.size, 3, none⟩ (.string ⟨#[]⟩)).setCell ⟨w.heap.size, 4, none⟩ (.string ⟨#[]⟩)).setCell ⟨w.heap.size, 5, none⟩ (.int .i64 0)) = w4 at *
    exact ⟨none, rfl, mine_zero _ _, K4⟩
  · go_wp2_with fail
    have R4 : Blk (((((((w2.alloc (.cells #[.int .i64 0, .bool false, .slice A N N] 24)).setCell ⟨w.heap.size, 0, none⟩ (.int .i64 0)).setCell ⟨w.heap.size, 1, none⟩ (.bool false)).setCell ⟨w.heap.size, 2, none⟩ (.slice A N N)).setCell ⟨w.heap.size, 3, none⟩ (.string ⟨#[]⟩)).setCell ⟨w.heap.size, 4, none⟩ (.string ⟨#[]⟩)).setCell ⟨w.heap.size, 5, none⟩ (.int .i64 0)) w.heap.size 28 [.int .i64 0, .bool false, .slice A N N, .string ⟨#[]⟩, .string ⟨#[]⟩, .int .i64 0] := R3.many [.int .i64 0, .bool false, .slice A N N, .string ⟨#[]⟩, .string ⟨#[]⟩, .int .i64 0] 0
    have ho : Only (fun b => b = w.heap.size) (w2.alloc (.cells #[.int .i64 0, .bool false, .slice A N N] 24)) (((((((w2.alloc (.cells #[.int .i64 0, .bool false, .slice A N N] 24)).setCell ⟨w.heap.size, 0, none⟩ (.int .i64 0)).setCell ⟨w.heap.size, 1, none⟩ (.bool false)).setCell ⟨w.heap.size, 2, none⟩ (.slice A N N)).setCell ⟨w.heap.size, 3, none⟩ (.string ⟨#[]⟩)).setCell ⟨w.heap.size, 4, none⟩ (.string ⟨#[]⟩)).setCell ⟨w.heap.size, 5, none⟩ (.int .i64 0)) := Only.many (S := fun b => b = w.heap.size) rfl [.int .i64 0, .bool false, .slice A N N, .string ⟨#[]⟩, .string ⟨#[]⟩, .int .i64 0] (Only.refl _ _) 0
    have cm := R4.cell
    have hz := ho.size
    have K4 : Below w.heap.size w (((((((w2.alloc (.cells #[.int .i64 0, .bool false, .slice A N N] 24)).setCell ⟨w.heap.size, 0, none⟩ (.int .i64 0)).setCell ⟨w.heap.size, 1, none⟩ (.bool false)).setCell ⟨w.heap.size, 2, none⟩ (.slice A N N)).setCell ⟨w.heap.size, 3, none⟩ (.string ⟨#[]⟩)).setCell ⟨w.heap.size, 4, none⟩ (.string ⟨#[]⟩)).setCell ⟨w.heap.size, 5, none⟩ (.int .i64 0)) := K3.trans (ho.below (fun b (hb : b = w.heap.size) => by omega) (by omega))
    have M4 := (M3.only ho (fun b h1 (h2 : b = w.heap.size) => by have := h1.1; omega)).wide (T := In w.heap.size (((((((w2.alloc (.cells #[.int .i64 0, .bool false, .slice A N N] 24)).setCell ⟨w.heap.size, 0, none⟩ (.int .i64 0)).setCell ⟨w.heap.size, 1, none⟩ (.bool false)).setCell ⟨w.heap.size, 2, none⟩ (.slice A N N)).setCell ⟨w.heap.size, 3, none⟩ (.string ⟨#[]⟩)).setCell ⟨w.heap.size, 4, none⟩ (.string ⟨#[]⟩)).setCell ⟨w.heap.size, 5, none⟩ (.int .i64 0)).heap.size) (fun b hb => ⟨by have := hb.1; omega, by have := hb.2; omega⟩)
    clear ho R4 R3 K3 cr fr cb B3 M3 hz
    refine bodyPost_ret (v := .tuple #[.agg #[.int .i64 0, .bool false, .slice A N N, .string ⟨#[]⟩, .string ⟨#[]⟩, .int .i64 0], .bool true]) (by simp [results, Try.results5, go_sem, cm]) rfl ?_
    clear cm
    generalize (((((((w2.alloc (.cells #[.int .i64 0, .bool false, .slice A N N] 24)).setCell ⟨w.heap.size, 0, none⟩ (.int .i64 0)).setCell ⟨w.heap.size, 1, none⟩ (.bool false)).setCell ⟨w.heap.size, 2, none⟩ (.slice A N N)).setCell ⟨w.heap.size, 3, none⟩ (.string ⟨#[]⟩)).setCell ⟨w.heap.size, 4, none⟩ (.string ⟨#[]⟩)).setCell ⟨w.heap.size, 5, none⟩ (.int .i64 0)) = w4 at *
    exact ⟨A, rfl, M4, K4⟩

set_option maxRecDepth 100000 in
set_option maxHeartbeats 2000000 in
theorem specNewConsole_any (e0 : Int) (w : World) : Calls Try.prog 4 #[.int .i64 e0] w (GivesCon w (inB e0 1 8) (entN e0)) := by
  go_enter Try.func4, Try.ntmps4
  go_wp2_with fail
  have U : Below w.heap.size w (w.alloc (.cells #[.int .i64 0, .bool false, .slice none 0 0, .string ⟨#[]⟩, .string ⟨#[]⟩, .int .i64 0] 28)) := (Below.refl _ _).alloc (Nat.le_refl _) _
  have R : Blk (w.alloc (.cells #[.int .i64 0, .bool false, .slice none 0 0, .string ⟨#[]⟩, .string ⟨#[]⟩, .int .i64 0] 28)) w.heap.size 28 [.int .i64 0, .bool false, .slice none 0 0, .string ⟨#[]⟩, .string ⟨#[]⟩, .int .i64 0] := Blk.at_ rfl
  have hzC : w.heap.size + 1 = (w.alloc (.cells #[.int .i64 0, .bool false, .slice none 0 0, .string ⟨#[]⟩, .string ⟨#[]⟩, .int .i64 0] 28)).heap.size := by simp
  generalize (w.alloc (.cells #[.int .i64 0, .bool false, .slice none 0 0, .string ⟨#[]⟩, .string ⟨#[]⟩, .int .i64 0] 28)) = w1 at *
  refine (specNewRace_any e0 w1).mono ?_
  rintro e w2 ⟨A, rfl, M, b⟩
  replace R := R.next b
  have K := U.trans (b.mono (by omega))
  have hs2 := b.size
  clear U b
  have ru := inB_true (n := e0) (lo := 1) (hi := 8)
  have hen : inB e0 1 8 = false → entN e0 = 0 := fun h => by unfold entN; rw [h]; rfl
  generalize entN e0 = N at *
  generalize inB e0 1 8 = B at *
  clear ru
  have U3 : Below w2.heap.size w2 (w2.alloc (.cells #[.int .i64 0, .bool false, .slice A N N] 24)) := (Below.refl _ _).alloc (Nat.le_refl _) _
  have R3 := R.next U3
  have B3 : Blk (w2.alloc (.cells #[.int .i64 0, .bool false, .slice A N N] 24)) w2.heap.size 24 [.int .i64 0, .bool false, .slice A N N] := Blk.at_ rfl
  have M3 := M.next U3
  have K3 := bel_then K U3
  have hs3 := U3.size
  have cb := B3.cell
  have cr := R3.cell
  have fr := R3.frozen
  clear R M K U3
  cases B
  · obtain rfl := hen rfl
    go_wp2_with fail
    have R4 : Blk (((((((w2.alloc (.cells #[.int .i64 0, .bool false, .slice A 0 0] 24)).setCell ⟨w.heap.size, 0, none⟩ (.int .i64 0)).setCell ⟨w.heap.size, 1, none⟩ (.bool false)).setCell ⟨w.heap.size, 2, none⟩ (.slice none 0 0)).setCell ⟨w.heap.size, 3, none⟩ (.string ⟨#[]⟩)).setCell ⟨w.heap.size, 4, none⟩ (.string ⟨#[]⟩)).setCell ⟨w.heap.size, 5, none⟩ (.int .i64 0)) w.heap.size 28 [.int .i64 0, .bool false, .slice none 0 0, .string ⟨#[]⟩, .string ⟨#[]⟩, .int .i64 0] := R3.many [.int .i64 0, .bool false, .slice none 0 0, .string ⟨#[]⟩, .string ⟨#[]⟩, .int .i64 0] 0
    have ho : Only (fun b => b = w.heap.size) (w2.alloc (.cells #[.int .i64 0, .bool false, .slice A 0 0] 24)) (((((((w2.alloc (.cells #[.int .i64 0, .bool false, .slice A 0 0] 24)).setCell ⟨w.heap.size, 0, none⟩ (.int .i64 0)).setCell ⟨w.heap.size, 1, none⟩ (.bool false)).setCell ⟨w.heap.size, 2, none⟩ (.slice none 0 0)).setCell ⟨w.heap.size, 3, none⟩ (.string ⟨#[]⟩)).setCell ⟨w.heap.size, 4, none⟩ (.string ⟨#[]⟩)).setCell ⟨w.heap.size, 5, none⟩ (.int .i64 0)) := Only.many (S := fun b => b = w.heap.size) rfl [.int .i64 0, .bool false, .slice none 0 0, .string ⟨#[]⟩, .string ⟨#[]⟩, .int .i64 0] (Only.refl _ _) 0
    have cm := R4.cell
    have K4 : Below w.heap.size w (((((((w2.alloc (.cells #[.int .i64 0, .bool false, .slice A 0 0] 24)).setCell ⟨w.heap.size, 0, none⟩ (.int .i64 0)).setCell ⟨w.heap.size, 1, none⟩ (.bool false)).setCell ⟨w.heap.size, 2, none⟩ (.slice none 0 0)).setCell ⟨w.heap.size, 3, none⟩ (.string ⟨#[]⟩)).setCell ⟨w.heap.size, 4, none⟩ (.string ⟨#[]⟩)).setCell ⟨w.heap.size, 5, none⟩ (.int .i64 0)) := K3.trans (ho.below (fun b (hb : b = w.heap.size) => by omega) (by omega))
    clear ho R4 R3 K3 cr fr cb B3 M3
    refine bodyPost_ret (v := .tuple #[.agg #[.int .i64 0, .bool false, .slice none 0 0, .string ⟨#[]⟩, .string ⟨#[]⟩, .int .i64 0], .bool false]) (by simp [results, Try.results4, go_sem, cm]) rfl ?_
    clear cm
    generalize (((((((w2.alloc (.cells #[.int .i64 0, .bool false, .slice A 0 0] 24)).setCell ⟨w.heap.size, 0, none⟩ (.int .i64 0)).setCell ⟨w.heap.size, 1, none⟩ (.bool false)).setCell ⟨w.heap.size, 2, none⟩ (.slice none 0 0)).setCell ⟨w.heap.size, 3, none⟩ (.string ⟨#[]⟩)).setCell ⟨w.heap.size, 4, none⟩ (.string ⟨#[]⟩)).setCell ⟨w.heap.size, 5, none⟩ (.int .i64 0)) = w4 at *
    exact ⟨none, rfl, mine_zero _ _, K4⟩
  · go_wp2_with fail
    have R4 : Blk (((((((w2.alloc (.cells #[.int .i64 0, .bool false, .slice A N N] 24)).setCell ⟨w.heap.size, 0, none⟩ (.int .i64 0)).setCell ⟨w.heap.size, 1, none⟩ (.bool false)).setCell ⟨w.heap.size, 2, none⟩ (.slice A N N)).setCell ⟨w.heap.size, 3, none⟩ (.string ⟨#[]⟩)).setCell ⟨w.heap.size, 4, none⟩ (.string ⟨#[]⟩)).setCell ⟨w.heap.size, 5, none⟩ (.int .i64 0)) w.heap.size 28 [.int .i64 0, .bool false, .slice A N N, .string ⟨#[]⟩, .string ⟨#[]⟩, .int .i64 0] := R3.many [.int .i64 0, .bool false, .slice A N N, .string ⟨#[]⟩, .string ⟨#[]⟩, .int .i64 0] 0
    have ho : Only (fun b => b = w.heap.size) (w2.alloc (.cells #[.int .i64 0, .bool false, .slice A N N] 24)) (((((((w2.alloc (.cells #[.int .i64 0, .bool false, .slice A N N] 24)).setCell ⟨w.heap.size, 0, none⟩ (.int .i64 0)).setCell ⟨w.heap.size, 1, none⟩ (.bool false)).setCell ⟨w.heap.size, 2, none⟩ (.slice A N N)).setCell ⟨w.heap.size, 3, none⟩ (.string ⟨#[]⟩)).setCell ⟨w.heap.size, 4, none⟩ (.string ⟨#[]⟩)).setCell ⟨w.heap.size, 5, none⟩ (.int .i64 0)) := Only.many (S := fun b => b = w.heap.size) rfl [.int .i64 0, .bool false, .slice A N N, .string ⟨#[]⟩, .string ⟨#[]⟩, .int .i64 0] (Only.refl _ _) 0
    have cm := R4.cell
    have hz := ho.size
    have K4 : Below w.heap.size w (((((((w2.alloc (.cells #[.int .i64 0, .bool false, .slice A N N] 24)).setCell ⟨w.heap.size, 0, none⟩ (.int .i64 0)).setCell ⟨w.heap.size, 1, none⟩ (.bool false)).setCell ⟨w.heap.size, 2, none⟩ (.slice A N N)).setCell ⟨w.heap.size, 3, none⟩ (.string ⟨#[]⟩)).setCell ⟨w.heap.size, 4, none⟩ (.string ⟨#[]⟩)).setCell ⟨w.heap.size, 5, none⟩ (.int .i64 0)) := K3.trans (ho.below (fun b (hb : b = w.heap.size) => by omega) (by omega))
    have M4 := (M3.only ho (fun b h1 (h2 : b = w.heap.size) => by have := h1.1; omega)).wide (T := In w.heap.size (((((((w2.alloc (.cells #[.int .i64 0, .bool false, .slice A N N] 24)).setCell ⟨w.heap.size, 0, none⟩ (.int .i64 0)).setCell ⟨w.heap.size, 1, none⟩ (.bool false)).setCell ⟨w.heap.size, 2, none⟩ (.slice A N N)).setCell ⟨w.heap.size, 3, none⟩ (.string ⟨#[]⟩)).setCell ⟨w.heap.size, 4, none⟩ (.string ⟨#[]⟩)).setCell ⟨w.heap.size, 5, none⟩ (.int .i64 0)).heap.size) (fun b hb => ⟨by have := hb.1; omega, by have := hb.2; omega⟩)
    clear ho R4 R3 K3 cr fr cb B3 M3 hz
    refine bodyPost_ret (v := .tuple #[.agg #[.int .i64 0, .bool false, .slice A N N, .string ⟨#[]⟩, .string ⟨#[]⟩, .int .i64 0], .bool true]) (by simp [results, Try.results4, go_sem, cm]) rfl ?_
    clear cm
    generalize (((((((w2.alloc (.cells #[.int .i64 0, .bool false, .slice A N N] 24)).setCell ⟨w.heap.size, 0, none⟩ (.int .i64 0)).setCell ⟨w.heap.size, 1, none⟩ (.bool false)).setCell ⟨w.heap.size, 2, none⟩ (.slice A N N)).setCell ⟨w.heap.size, 3, none⟩ (.string ⟨#[]⟩)).setCell ⟨w.heap.size, 4, none⟩ (.string ⟨#[]⟩)).setCell ⟨w.heap.size, 5, none⟩ (.int .i64 0)) = w4 at *
    exact ⟨A, rfl, M4, K4⟩

end Go.Proofs.Ytlhebjlibhpanaa
