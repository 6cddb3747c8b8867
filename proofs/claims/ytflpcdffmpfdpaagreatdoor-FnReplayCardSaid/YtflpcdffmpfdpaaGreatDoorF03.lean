/- Joined texts of this proof: NewCon, ReplP. -/
import Derived.Test.YtflpcdffmpfdpaaGreatDoorF02
import Derived.Test.YtflpcdffmpfdpaaGreatDoorB01
import Derived.Test.YtflpcdffmpfdpaaGreatDoorF01
import Derived.Test.YtflpcdffmpfdpaaGreatDoorV01
set_option maxRecDepth 100000
set_option maxHeartbeats 8000000
namespace Go.Proofs.YtflpcdffmpfdpaaGreatDoor
open Go.RowKit
def jqz (e0 : Int) : Nat := if inB e0 1 8 then e0.toNat else 0
theorem ju5 (e0 : Int) : jqz e0 ≤ 8 := by
  unfold jqz
  split
  · rename_i h
    have := jaq h
    omega
  · omega
def jsf (w : World) (e0 : Int) (e : Ending) (w' : World) : Prop := ∃ A, e = .returned (.tuple #[.agg #[.int .i64 0, false, .slice A (jqz e0) (jqz e0)], .bool (inB e0 1 8)]) ∧ MineN entrantSh w' (In w.heap.size w'.heap.size) 108 188 A (jqz e0) (jqz e0) (List.replicate (jqz e0) jtb) ∧ Below w.heap.size w w'
def jr8 (w : World) (B : Bool) (N : Nat) (e : Ending) (w' : World) : Prop := ∃ A, e = .returned (.tuple #[.agg #[.int .i64 0, false, .slice A N N, .string ⟨#[]⟩, .string ⟨#[]⟩, .int .i64 0], .bool B]) ∧ MineN entrantSh w' (In w.heap.size w'.heap.size) 108 188 A N N (List.replicate N jtb) ∧ Below w.heap.size w w'
theorem jr0 (w : World) (S : Nat → Prop) : MineN entrantSh w (S) 108 188 none 0 0 (List.replicate 0 jtb) := MineN.nil _ _ _ _
theorem jto (e0 : Int) (w : World) : Calls Tryz.prog 66 #[.int .i64 e0] w (jsf w e0) := by
  go_enter Tryz.func66, Tryz.ntmps66
  go_wp2_with fail
  have U := nB w (.cells #[.int .i64 0, false, .slice none 0 0] 32)
  have R := nP w [.int .i64 0, false, .slice none 0 0] 32
  refine (jaf e0 1 8 _).mono ?_
  rintro e w' ⟨rfl, rfl⟩
  by_cases h : inB e0 1 8 = true
  · have hb := jaq h
    obtain ⟨n, rfl⟩ := Int.eq_ofNat_of_zero_le (show 0 ≤ e0 by omega)
    have hn : n ≤ 8 := by omega
    have hmk := jth n hn (w.alloc (.cells #[.int .i64 0, false, .slice none 0 0] 32))
    have hen : jqz (n : Int) = n := by unfold jqz; rw [if_pos h]; omega
    have M := js8 n hn (w.alloc (.cells #[.int .i64 0, false, .slice (some ⟨w.heap.size + 1, 0, none⟩) n n] 32))
    have hsz : (w.alloc (.cells #[.int .i64 0, false, .slice none 0 0] 32)).heap.size = w.heap.size + 1 := by simp
    have hsz6 : (w.alloc (.cells #[.int .i64 0, false, .slice (some ⟨w.heap.size + 1, 0, none⟩) n n] 32)).heap.size = w.heap.size + 1 := by simp
    rw [hsz6] at M
    rw [hsz] at hmk
    have K3 := nB2 w (.cells #[.int .i64 0, false, .slice (some ⟨w.heap.size + 1, 0, none⟩) n n] 32) (.cells ((jro n).flatMap entrantSh.enc).toArray 108)
    have cm := (show Blk ((w.alloc (.cells #[.int .i64 0, false, .slice (some ⟨w.heap.size + 1, 0, none⟩) n n] 32)).alloc (.cells ((jro n).flatMap entrantSh.enc).toArray 108)) w.heap.size 32 [.int .i64 0, .bool false, .slice (some ⟨w.heap.size + 1, 0, none⟩) n n] from (Blk.at_ rfl).alloc _).cell
    have hz2 := nZ2 w (.cells #[.int .i64 0, false, .slice (some ⟨w.heap.size + 1, 0, none⟩) n n] 32) (.cells ((jro n).flatMap entrantSh.enc).toArray 108)
    have M4 := M.wide (T := In w.heap.size ((w.alloc (.cells #[.int .i64 0, false, .slice (some ⟨w.heap.size + 1, 0, none⟩) n n] 32)).alloc (.cells ((jro n).flatMap entrantSh.enc).toArray 108)).heap.size) (fun b hb => ⟨by have := hb.1; omega, by have := hb.2; omega⟩)
    rw [h]
    clear hsz R hsz6 M hz2 U
    go_wp2_with fail
    refine bodyPost_ret (v := .tuple #[.agg #[.int .i64 0, false, .slice (some ⟨w.heap.size + 1, 0, none⟩) n n], .bool true]) (by simp [results, Tryz.results66, go_sem, cm]) rfl ?_
    clear cm hmk
    generalize (w.alloc _).alloc _ = w3 at *
    exact ⟨some ⟨w.heap.size + 1, 0, none⟩, by rw [hen, h], by rw [hen]; exact M4, K3⟩
  · have hb : inB e0 1 8 = false := by simpa using h
    have hen : jqz e0 = 0 := by unfold jqz; rw [if_neg h]
    have cr := R.cell
    have fr := R.frozen
    rw [hb]
    go_wp2_with fail
    have cm := R.cell
    refine bodyPost_ret (v := .tuple #[.agg #[.int .i64 0, false, .slice none 0 0], .bool false]) (by simp [results, Tryz.results66, go_sem, cm]) rfl ?_
    clear cm cr fr R
    generalize w.alloc _ = w3 at *
    exact ⟨none, by rw [hen, hb], by rw [hen]; exact jr0 _ _, U⟩
theorem jrp (e0 : Int) (w : World) : Calls Tryz.prog 67 #[.int .i64 e0] w (jsf w e0) := by
  go_enter Tryz.func67, Tryz.ntmps67
  go_wp2_with fail
  have U := nB w (.cells #[.int .i64 0, false, .slice none 0 0] 32)
  have R := nP w [.int .i64 0, false, .slice none 0 0] 32
  refine (jae e0 1 8 _).mono ?_
  rintro e w' ⟨rfl, rfl⟩
  by_cases h : inB e0 1 8 = true
  · have hb := jaq h
    obtain ⟨n, rfl⟩ := Int.eq_ofNat_of_zero_le (show 0 ≤ e0 by omega)
    have hn : n ≤ 8 := by omega
    have hmk := jth n hn (w.alloc (.cells #[.int .i64 0, false, .slice none 0 0] 32))
    have hen : jqz (n : Int) = n := by unfold jqz; rw [if_pos h]; omega
    have M := js8 n hn (w.alloc (.cells #[.int .i64 0, false, .slice (some ⟨w.heap.size + 1, 0, none⟩) n n] 32))
    have hsz : (w.alloc (.cells #[.int .i64 0, false, .slice none 0 0] 32)).heap.size = w.heap.size + 1 := by simp
    have hsz6 : (w.alloc (.cells #[.int .i64 0, false, .slice (some ⟨w.heap.size + 1, 0, none⟩) n n] 32)).heap.size = w.heap.size + 1 := by simp
    rw [hsz6] at M
    rw [hsz] at hmk
    have K3 := nB2 w (.cells #[.int .i64 0, false, .slice (some ⟨w.heap.size + 1, 0, none⟩) n n] 32) (.cells ((jro n).flatMap entrantSh.enc).toArray 108)
    have cm := (show Blk ((w.alloc (.cells #[.int .i64 0, false, .slice (some ⟨w.heap.size + 1, 0, none⟩) n n] 32)).alloc (.cells ((jro n).flatMap entrantSh.enc).toArray 108)) w.heap.size 32 [.int .i64 0, .bool false, .slice (some ⟨w.heap.size + 1, 0, none⟩) n n] from (Blk.at_ rfl).alloc _).cell
    have hz2 := nZ2 w (.cells #[.int .i64 0, false, .slice (some ⟨w.heap.size + 1, 0, none⟩) n n] 32) (.cells ((jro n).flatMap entrantSh.enc).toArray 108)
    have M4 := M.wide (T := In w.heap.size ((w.alloc (.cells #[.int .i64 0, false, .slice (some ⟨w.heap.size + 1, 0, none⟩) n n] 32)).alloc (.cells ((jro n).flatMap entrantSh.enc).toArray 108)).heap.size) (fun b hb => ⟨by have := hb.1; omega, by have := hb.2; omega⟩)
    rw [h]
    clear hsz R hsz6 M hz2 U
    go_wp2_with fail
    refine bodyPost_ret (v := .tuple #[.agg #[.int .i64 0, false, .slice (some ⟨w.heap.size + 1, 0, none⟩) n n], .bool true]) (by simp [results, Tryz.results67, go_sem, cm]) rfl ?_
    clear cm hmk
    generalize (w.alloc _).alloc _ = w3 at *
    exact ⟨some ⟨w.heap.size + 1, 0, none⟩, by rw [hen, h], by rw [hen]; exact M4, K3⟩
  · have hb : inB e0 1 8 = false := by simpa using h
    have hen : jqz e0 = 0 := by unfold jqz; rw [if_neg h]
    have cr := R.cell
    have fr := R.frozen
    rw [hb]
    go_wp2_with fail
    have cm := R.cell
    refine bodyPost_ret (v := .tuple #[.agg #[.int .i64 0, false, .slice none 0 0], .bool false]) (by simp [results, Tryz.results67, go_sem, cm]) rfl ?_
    clear cm cr fr R
    generalize w.alloc _ = w3 at *
    exact ⟨none, by rw [hen, hb], by rw [hen]; exact jr0 _ _, U⟩
theorem jrt (e0 : Int) (w : World) : Calls Tryz.prog 26 #[.int .i64 e0] w (jr8 w (inB e0 1 8) (jqz e0)) := by
  go_enter Tryz.func26, Tryz.ntmps26
  go_wp2_with fail
  have U := nB w (.cells #[.int .i64 0, false, .slice none 0 0, .string ⟨#[]⟩, .string ⟨#[]⟩, .int .i64 0] 35)
  have R := nP w [.int .i64 0, false, .slice none 0 0, .string ⟨#[]⟩, .string ⟨#[]⟩, .int .i64 0] 35
  have hzC : w.heap.size + 1 = (w.alloc (.cells #[.int .i64 0, false, .slice none 0 0, .string ⟨#[]⟩, .string ⟨#[]⟩, .int .i64 0] 35)).heap.size := by simp
  generalize w.alloc _ = w1 at *
  refine (jto e0 w1).mono ?_
  rintro e w2 ⟨A, rfl, M, b⟩
  replace R := R.next b
  have K := U.trans (b.mono (by omega))
  have hs2 := b.size
  clear U b
  have ru := jaq (n := e0) (lo := 1) (hi := 8)
  have hen : inB e0 1 8 = false → jqz e0 = 0 := fun h => by unfold jqz; rw [h]; rfl
  generalize jqz e0 = N at *
  generalize inB e0 1 8 = B at *
  clear ru
  have U3 := nB w2 (.cells #[.int .i64 0, false, .slice A N N] 32)
  have R3 := R.next U3
  have B3 := nP w2 [.int .i64 0, false, .slice A N N] 32
  have M3 := M.next U3
  have K3 := jaa K U3
  have hs3 := U3.size
  have cb := B3.cell
  have cr := R3.cell
  have fr := R3.frozen
  clear R M K U3
  cases B
  · obtain rfl := hen rfl
    go_wp2_with fail
    have R4 : Blk (((((((w2.alloc (.cells #[.int .i64 0, false, .slice A 0 0] 32)).setCell ⟨w.heap.size, 0, none⟩ (.int .i64 0)).setCell ⟨w.heap.size, 1, none⟩ (.bool false)).setCell ⟨w.heap.size, 2, none⟩ (.slice none 0 0)).setCell ⟨w.heap.size, 3, none⟩ (.string ⟨#[]⟩)).setCell ⟨w.heap.size, 4, none⟩ (.string ⟨#[]⟩)).setCell ⟨w.heap.size, 5, none⟩ (.int .i64 0)) w.heap.size 35 [.int .i64 0, .bool false, .slice none 0 0, .string ⟨#[]⟩, .string ⟨#[]⟩, .int .i64 0] := R3.many [.int .i64 0, .bool false, .slice none 0 0, .string ⟨#[]⟩, .string ⟨#[]⟩, .int .i64 0] 0
    have ho : Only (fun b => b = w.heap.size) (w2.alloc (.cells #[.int .i64 0, false, .slice A 0 0] 32)) (((((((w2.alloc (.cells #[.int .i64 0, false, .slice A 0 0] 32)).setCell ⟨w.heap.size, 0, none⟩ (.int .i64 0)).setCell ⟨w.heap.size, 1, none⟩ (.bool false)).setCell ⟨w.heap.size, 2, none⟩ (.slice none 0 0)).setCell ⟨w.heap.size, 3, none⟩ (.string ⟨#[]⟩)).setCell ⟨w.heap.size, 4, none⟩ (.string ⟨#[]⟩)).setCell ⟨w.heap.size, 5, none⟩ (.int .i64 0)) := Only.many (S := fun b => b = w.heap.size) rfl [.int .i64 0, .bool false, .slice none 0 0, .string ⟨#[]⟩, .string ⟨#[]⟩, .int .i64 0] (Only.refl _ _) 0
    have cm := R4.cell
    have K4 : Below w.heap.size w (((((((w2.alloc (.cells #[.int .i64 0, false, .slice A 0 0] 32)).setCell ⟨w.heap.size, 0, none⟩ (.int .i64 0)).setCell ⟨w.heap.size, 1, none⟩ (.bool false)).setCell ⟨w.heap.size, 2, none⟩ (.slice none 0 0)).setCell ⟨w.heap.size, 3, none⟩ (.string ⟨#[]⟩)).setCell ⟨w.heap.size, 4, none⟩ (.string ⟨#[]⟩)).setCell ⟨w.heap.size, 5, none⟩ (.int .i64 0)) := K3.trans (ho.below (fun b (hb : b = w.heap.size) => by omega) (by omega))
    clear ho R4 R3 K3 cr fr cb B3 M3
    refine bodyPost_ret (v := .tuple #[.agg #[.int .i64 0, false, .slice none 0 0, .string ⟨#[]⟩, .string ⟨#[]⟩, .int .i64 0], .bool false]) (by simp [results, Tryz.results26, go_sem, cm]) rfl ?_
    clear cm
    generalize (((((((w2.alloc (.cells #[.int .i64 0, false, .slice A 0 0] 32)).setCell ⟨w.heap.size, 0, none⟩ (.int .i64 0)).setCell ⟨w.heap.size, 1, none⟩ (.bool false)).setCell ⟨w.heap.size, 2, none⟩ (.slice none 0 0)).setCell ⟨w.heap.size, 3, none⟩ (.string ⟨#[]⟩)).setCell ⟨w.heap.size, 4, none⟩ (.string ⟨#[]⟩)).setCell ⟨w.heap.size, 5, none⟩ (.int .i64 0)) = w4 at *
    exact ⟨none, rfl, jr0 _ _, K4⟩
  · go_wp2_with fail
    have R4 : Blk (((((((w2.alloc (.cells #[.int .i64 0, false, .slice A N N] 32)).setCell ⟨w.heap.size, 0, none⟩ (.int .i64 0)).setCell ⟨w.heap.size, 1, none⟩ (.bool false)).setCell ⟨w.heap.size, 2, none⟩ (.slice A N N)).setCell ⟨w.heap.size, 3, none⟩ (.string ⟨#[]⟩)).setCell ⟨w.heap.size, 4, none⟩ (.string ⟨#[]⟩)).setCell ⟨w.heap.size, 5, none⟩ (.int .i64 0)) w.heap.size 35 [.int .i64 0, .bool false, .slice A N N, .string ⟨#[]⟩, .string ⟨#[]⟩, .int .i64 0] := R3.many [.int .i64 0, .bool false, .slice A N N, .string ⟨#[]⟩, .string ⟨#[]⟩, .int .i64 0] 0
    have ho : Only (fun b => b = w.heap.size) (w2.alloc (.cells #[.int .i64 0, false, .slice A N N] 32)) (((((((w2.alloc (.cells #[.int .i64 0, false, .slice A N N] 32)).setCell ⟨w.heap.size, 0, none⟩ (.int .i64 0)).setCell ⟨w.heap.size, 1, none⟩ (.bool false)).setCell ⟨w.heap.size, 2, none⟩ (.slice A N N)).setCell ⟨w.heap.size, 3, none⟩ (.string ⟨#[]⟩)).setCell ⟨w.heap.size, 4, none⟩ (.string ⟨#[]⟩)).setCell ⟨w.heap.size, 5, none⟩ (.int .i64 0)) := Only.many (S := fun b => b = w.heap.size) rfl [.int .i64 0, .bool false, .slice A N N, .string ⟨#[]⟩, .string ⟨#[]⟩, .int .i64 0] (Only.refl _ _) 0
    have cm := R4.cell
    have hz := ho.size
    have K4 : Below w.heap.size w (((((((w2.alloc (.cells #[.int .i64 0, false, .slice A N N] 32)).setCell ⟨w.heap.size, 0, none⟩ (.int .i64 0)).setCell ⟨w.heap.size, 1, none⟩ (.bool false)).setCell ⟨w.heap.size, 2, none⟩ (.slice A N N)).setCell ⟨w.heap.size, 3, none⟩ (.string ⟨#[]⟩)).setCell ⟨w.heap.size, 4, none⟩ (.string ⟨#[]⟩)).setCell ⟨w.heap.size, 5, none⟩ (.int .i64 0)) := K3.trans (ho.below (fun b (hb : b = w.heap.size) => by omega) (by omega))
    have M4 := (M3.only ho (fun b h1 (h2 : b = w.heap.size) => by have := h1.1; omega)).wide (T := In w.heap.size (((((((w2.alloc (.cells #[.int .i64 0, false, .slice A N N] 32)).setCell ⟨w.heap.size, 0, none⟩ (.int .i64 0)).setCell ⟨w.heap.size, 1, none⟩ (.bool false)).setCell ⟨w.heap.size, 2, none⟩ (.slice A N N)).setCell ⟨w.heap.size, 3, none⟩ (.string ⟨#[]⟩)).setCell ⟨w.heap.size, 4, none⟩ (.string ⟨#[]⟩)).setCell ⟨w.heap.size, 5, none⟩ (.int .i64 0)).heap.size) (fun b hb => ⟨by have := hb.1; omega, by have := hb.2; omega⟩)
    clear ho R4 R3 K3 cr fr cb B3 M3 hz
    refine bodyPost_ret (v := .tuple #[.agg #[.int .i64 0, false, .slice A N N, .string ⟨#[]⟩, .string ⟨#[]⟩, .int .i64 0], .bool true]) (by simp [results, Tryz.results26, go_sem, cm]) rfl ?_
    clear cm
    generalize (((((((w2.alloc (.cells #[.int .i64 0, false, .slice A N N] 32)).setCell ⟨w.heap.size, 0, none⟩ (.int .i64 0)).setCell ⟨w.heap.size, 1, none⟩ (.bool false)).setCell ⟨w.heap.size, 2, none⟩ (.slice A N N)).setCell ⟨w.heap.size, 3, none⟩ (.string ⟨#[]⟩)).setCell ⟨w.heap.size, 4, none⟩ (.string ⟨#[]⟩)).setCell ⟨w.heap.size, 5, none⟩ (.int .i64 0)) = w4 at *
    exact ⟨A, rfl, M4, K4⟩
theorem jq5 (e0 : Int) (w : World) : Calls Tryz.prog 27 #[.int .i64 e0] w (jr8 w (inB e0 1 8) (jqz e0)) := by
  go_enter Tryz.func27, Tryz.ntmps27
  go_wp2_with fail
  have U := nB w (.cells #[.int .i64 0, false, .slice none 0 0, .string ⟨#[]⟩, .string ⟨#[]⟩, .int .i64 0] 35)
  have R := nP w [.int .i64 0, false, .slice none 0 0, .string ⟨#[]⟩, .string ⟨#[]⟩, .int .i64 0] 35
  have hzC : w.heap.size + 1 = (w.alloc (.cells #[.int .i64 0, false, .slice none 0 0, .string ⟨#[]⟩, .string ⟨#[]⟩, .int .i64 0] 35)).heap.size := by simp
  generalize w.alloc _ = w1 at *
  refine (jrp e0 w1).mono ?_
  rintro e w2 ⟨A, rfl, M, b⟩
  replace R := R.next b
  have K := U.trans (b.mono (by omega))
  have hs2 := b.size
  clear U b
  have ru := jaq (n := e0) (lo := 1) (hi := 8)
  have hen : inB e0 1 8 = false → jqz e0 = 0 := fun h => by unfold jqz; rw [h]; rfl
  generalize jqz e0 = N at *
  generalize inB e0 1 8 = B at *
  clear ru
  have U3 := nB w2 (.cells #[.int .i64 0, false, .slice A N N] 32)
  have R3 := R.next U3
  have B3 := nP w2 [.int .i64 0, false, .slice A N N] 32
  have M3 := M.next U3
  have K3 := jaa K U3
  have hs3 := U3.size
  have cb := B3.cell
  have cr := R3.cell
  have fr := R3.frozen
  clear R M K U3
  cases B
  · obtain rfl := hen rfl
    go_wp2_with fail
    have R4 : Blk (((((((w2.alloc (.cells #[.int .i64 0, false, .slice A 0 0] 32)).setCell ⟨w.heap.size, 0, none⟩ (.int .i64 0)).setCell ⟨w.heap.size, 1, none⟩ (.bool false)).setCell ⟨w.heap.size, 2, none⟩ (.slice none 0 0)).setCell ⟨w.heap.size, 3, none⟩ (.string ⟨#[]⟩)).setCell ⟨w.heap.size, 4, none⟩ (.string ⟨#[]⟩)).setCell ⟨w.heap.size, 5, none⟩ (.int .i64 0)) w.heap.size 35 [.int .i64 0, .bool false, .slice none 0 0, .string ⟨#[]⟩, .string ⟨#[]⟩, .int .i64 0] := R3.many [.int .i64 0, .bool false, .slice none 0 0, .string ⟨#[]⟩, .string ⟨#[]⟩, .int .i64 0] 0
    have ho : Only (fun b => b = w.heap.size) (w2.alloc (.cells #[.int .i64 0, false, .slice A 0 0] 32)) (((((((w2.alloc (.cells #[.int .i64 0, false, .slice A 0 0] 32)).setCell ⟨w.heap.size, 0, none⟩ (.int .i64 0)).setCell ⟨w.heap.size, 1, none⟩ (.bool false)).setCell ⟨w.heap.size, 2, none⟩ (.slice none 0 0)).setCell ⟨w.heap.size, 3, none⟩ (.string ⟨#[]⟩)).setCell ⟨w.heap.size, 4, none⟩ (.string ⟨#[]⟩)).setCell ⟨w.heap.size, 5, none⟩ (.int .i64 0)) := Only.many (S := fun b => b = w.heap.size) rfl [.int .i64 0, .bool false, .slice none 0 0, .string ⟨#[]⟩, .string ⟨#[]⟩, .int .i64 0] (Only.refl _ _) 0
    have cm := R4.cell
    have K4 : Below w.heap.size w (((((((w2.alloc (.cells #[.int .i64 0, false, .slice A 0 0] 32)).setCell ⟨w.heap.size, 0, none⟩ (.int .i64 0)).setCell ⟨w.heap.size, 1, none⟩ (.bool false)).setCell ⟨w.heap.size, 2, none⟩ (.slice none 0 0)).setCell ⟨w.heap.size, 3, none⟩ (.string ⟨#[]⟩)).setCell ⟨w.heap.size, 4, none⟩ (.string ⟨#[]⟩)).setCell ⟨w.heap.size, 5, none⟩ (.int .i64 0)) := K3.trans (ho.below (fun b (hb : b = w.heap.size) => by omega) (by omega))
    clear ho R4 R3 K3 cr fr cb B3 M3
    refine bodyPost_ret (v := .tuple #[.agg #[.int .i64 0, false, .slice none 0 0, .string ⟨#[]⟩, .string ⟨#[]⟩, .int .i64 0], .bool false]) (by simp [results, Tryz.results27, go_sem, cm]) rfl ?_
    clear cm
    generalize (((((((w2.alloc (.cells #[.int .i64 0, false, .slice A 0 0] 32)).setCell ⟨w.heap.size, 0, none⟩ (.int .i64 0)).setCell ⟨w.heap.size, 1, none⟩ (.bool false)).setCell ⟨w.heap.size, 2, none⟩ (.slice none 0 0)).setCell ⟨w.heap.size, 3, none⟩ (.string ⟨#[]⟩)).setCell ⟨w.heap.size, 4, none⟩ (.string ⟨#[]⟩)).setCell ⟨w.heap.size, 5, none⟩ (.int .i64 0)) = w4 at *
    exact ⟨none, rfl, jr0 _ _, K4⟩
  · go_wp2_with fail
    have R4 : Blk (((((((w2.alloc (.cells #[.int .i64 0, false, .slice A N N] 32)).setCell ⟨w.heap.size, 0, none⟩ (.int .i64 0)).setCell ⟨w.heap.size, 1, none⟩ (.bool false)).setCell ⟨w.heap.size, 2, none⟩ (.slice A N N)).setCell ⟨w.heap.size, 3, none⟩ (.string ⟨#[]⟩)).setCell ⟨w.heap.size, 4, none⟩ (.string ⟨#[]⟩)).setCell ⟨w.heap.size, 5, none⟩ (.int .i64 0)) w.heap.size 35 [.int .i64 0, .bool false, .slice A N N, .string ⟨#[]⟩, .string ⟨#[]⟩, .int .i64 0] := R3.many [.int .i64 0, .bool false, .slice A N N, .string ⟨#[]⟩, .string ⟨#[]⟩, .int .i64 0] 0
    have ho : Only (fun b => b = w.heap.size) (w2.alloc (.cells #[.int .i64 0, false, .slice A N N] 32)) (((((((w2.alloc (.cells #[.int .i64 0, false, .slice A N N] 32)).setCell ⟨w.heap.size, 0, none⟩ (.int .i64 0)).setCell ⟨w.heap.size, 1, none⟩ (.bool false)).setCell ⟨w.heap.size, 2, none⟩ (.slice A N N)).setCell ⟨w.heap.size, 3, none⟩ (.string ⟨#[]⟩)).setCell ⟨w.heap.size, 4, none⟩ (.string ⟨#[]⟩)).setCell ⟨w.heap.size, 5, none⟩ (.int .i64 0)) := Only.many (S := fun b => b = w.heap.size) rfl [.int .i64 0, .bool false, .slice A N N, .string ⟨#[]⟩, .string ⟨#[]⟩, .int .i64 0] (Only.refl _ _) 0
    have cm := R4.cell
    have hz := ho.size
    have K4 : Below w.heap.size w (((((((w2.alloc (.cells #[.int .i64 0, false, .slice A N N] 32)).setCell ⟨w.heap.size, 0, none⟩ (.int .i64 0)).setCell ⟨w.heap.size, 1, none⟩ (.bool false)).setCell ⟨w.heap.size, 2, none⟩ (.slice A N N)).setCell ⟨w.heap.size, 3, none⟩ (.string ⟨#[]⟩)).setCell ⟨w.heap.size, 4, none⟩ (.string ⟨#[]⟩)).setCell ⟨w.heap.size, 5, none⟩ (.int .i64 0)) := K3.trans (ho.below (fun b (hb : b = w.heap.size) => by omega) (by omega))
    have M4 := (M3.only ho (fun b h1 (h2 : b = w.heap.size) => by have := h1.1; omega)).wide (T := In w.heap.size (((((((w2.alloc (.cells #[.int .i64 0, false, .slice A N N] 32)).setCell ⟨w.heap.size, 0, none⟩ (.int .i64 0)).setCell ⟨w.heap.size, 1, none⟩ (.bool false)).setCell ⟨w.heap.size, 2, none⟩ (.slice A N N)).setCell ⟨w.heap.size, 3, none⟩ (.string ⟨#[]⟩)).setCell ⟨w.heap.size, 4, none⟩ (.string ⟨#[]⟩)).setCell ⟨w.heap.size, 5, none⟩ (.int .i64 0)).heap.size) (fun b hb => ⟨by have := hb.1; omega, by have := hb.2; omega⟩)
    clear ho R4 R3 K3 cr fr cb B3 M3 hz
    refine bodyPost_ret (v := .tuple #[.agg #[.int .i64 0, false, .slice A N N, .string ⟨#[]⟩, .string ⟨#[]⟩, .int .i64 0], .bool true]) (by simp [results, Tryz.results27, go_sem, cm]) rfl ?_
    clear cm
    generalize (((((((w2.alloc (.cells #[.int .i64 0, false, .slice A N N] 32)).setCell ⟨w.heap.size, 0, none⟩ (.int .i64 0)).setCell ⟨w.heap.size, 1, none⟩ (.bool false)).setCell ⟨w.heap.size, 2, none⟩ (.slice A N N)).setCell ⟨w.heap.size, 3, none⟩ (.string ⟨#[]⟩)).setCell ⟨w.heap.size, 4, none⟩ (.string ⟨#[]⟩)).setCell ⟨w.heap.size, 5, none⟩ (.int .i64 0)) = w4 at *
    exact ⟨A, rfl, M4, K4⟩
def jrk (r : RaceV) (l : Log) : List LogRecord → Nat
  | [] => 0
  | e :: es => if (exM r l e.command).reply = e.reply then jrk (exM r l e.command).race (exM r l e.command).log es + 1 else 0
def emptyL : Log := ⟨⟨#[]⟩, ⟨#[]⟩, 0⟩
def jsx (e0 : Int) : RaceV := ⟨0, false, List.replicate (jqz e0) jtb⟩
def jrd (e0 : Int) (l : Log) : Int × Bool := if inB e0 1 8 && ja9 l then ((jrk (jsx e0) emptyL (jq4 l).1 : Nat), true) else (0, false)
theorem jrm {e0 : Int} (h : inB e0 1 8 = true) : ja0 (jsx e0) = true := by
  have h1 := jaq h
  unfold jsx
  obtain ⟨n, hn⟩ : ∃ n : Nat, jqz e0 = n ∧ 1 ≤ n ∧ n ≤ 8 := ⟨_, rfl, by unfold jqz; rw [h]; simp only [↓reduceIte]; omega, ju5 e0⟩
  rw [hn.1]
  rcases (show n = 1 ∨ n = 2 ∨ n = 3 ∨ n = 4 ∨ n = 5 ∨ n = 6 ∨ n = 7 ∨ n = 8 by omega) with rfl | rfl | rfl | rfl | rfl | rfl | rfl | rfl <;> decide +kernel
theorem jtg {r : RaceV} {l : Log} {es : List LogRecord} {k : Nat} (hk : k < es.length) (h : (exM r l es[k].command).reply = es[k].reply) : jrk r l (es.drop k) = jrk (exM r l es[k].command).race (exM r l es[k].command).log (es.drop (k + 1)) + 1 := by
  rw [List.drop_eq_getElem_cons hk, jrk, if_pos h]
theorem jsz {r : RaceV} {l : Log} {es : List LogRecord} {k : Nat} (hk : k < es.length) (h : ¬ (exM r l es[k].command).reply = es[k].reply) : jrk r l (es.drop k) = 0 := by
  rw [List.drop_eq_getElem_cons hk, jrk, if_neg h]
end Go.Proofs.YtflpcdffmpfdpaaGreatDoor
