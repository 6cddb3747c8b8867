/- Joined texts of this proof: EntZ, ConZ, LawExecuteCommand, Script, ConN, NewCon, LogS, LogRs, ReplP. -/
import Derived.Test.YtflpcdffmpfdpaaGreatDoorB02
import Derived.Test.YtflpcdffmpfdpaaGreatDoorB31
import Derived.Test.YtflpcdffmpfdpaaGreatDoorB01
import Derived.Test.YtflpcdffmpfdpaaGreatDoorB11
import Derived.Test.YtflpcdffmpfdpaaGreatDoorB20
import Derived.Test.YtflpcdffmpfdpaaGreatDoorY01
set_option maxRecDepth 100000
set_option maxHeartbeats 8000000
namespace Go.Proofs.YtflpcdffmpfdpaaGreatDoor
open Go.RowKit
theorem jsf : ∀ xs : List Entrant, wtN Entrant.wt xs = 2 * wtN Entrant.cnt xs + 4 * xs.length
  | [] => rfl
  | x :: r => by
    show Entrant.wt x + wtN Entrant.wt r = 2 * (Entrant.cnt x + wtN Entrant.cnt r) + 4 * (r.length + 1)
    rw [jsf r]
    show x.punches.length * 2 + 4 + _ = 2 * (x.punches.length + _) + _
    omega
theorem jse : ∀ (m : Nat) (xs : List Entrant), (∀ x ∈ xs, x.cnt ≤ m) → wtN Entrant.cnt xs ≤ m * xs.length
  | _, [], _ => Nat.zero_le _
  | m, x :: r, h => by
    show Entrant.cnt x + wtN Entrant.cnt r ≤ m * (r.length + 1)
    have h1 := h x List.mem_cons_self
    have h2 := jse m r (fun y hy => h y (List.mem_cons_of_mem _ hy))
    rw [Nat.mul_add, Nat.mul_one]
    omega
theorem jqz {r : RaceV} (h : ja0 r = true) : r.field.length ≤ 1048576 ∧ (∀ x ∈ r.field, x.cnt ≤ 1048576) ∧ wtN Entrant.wt r.field ≤ 100000000 := by
  have h8 := (jfx h).2
  have hc := jse 12 r.field (fun x hx => (jco h x hx).1)
  have hw := jsf r.field
  have hm : 12 * r.field.length ≤ 12 * 8 := Nat.mul_le_mul_left 12 h8
  exact ⟨by omega, jb2 h, by omega⟩
theorem jsa {r : RaceV} {l : Log} {line : ByteArray} : (exM r l line).race = r ∨ ja0 (exM r l line).race = true := by
  unfold exM
  by_cases h1 : (ja0 r && ja9 l) = false
  · rw [if_pos h1]
    exact Or.inl rfl
  rw [if_neg h1]
  by_cases h2 : jgb ⟨line, ⟨#[]⟩⟩ = false
  · rw [if_pos h2]
    exact Or.inl rfl
  rw [if_neg h2]
  by_cases h3 : l.count = 60
  · rw [if_pos h3]
    exact Or.inl rfl
  rw [if_neg h3]
  refine Or.inr (jox ?_)
  cases hg : ja0 r with
  | true => rfl
  | false => exact absurd (by rw [hg]; rfl) h1
theorem jrz {r : RaceV} {l : Log} {line : ByteArray} (h : ja0 r = true) : ja0 (exM r l line).race = true := by
  rcases jsa (r := r) (l := l) (line := line) with h1 | h1
  · rw [h1]; exact h
  · exact h1
theorem jrj (k : Nat) (e : LogRecord) (hk : k < 100) (he : jgb e = true) : (jck k e).size ≤ 800 := by
  obtain ⟨⟨h0, h2⟩, h3, _⟩ := jdn he
  have hn := jcg k 2 (by omega) (by decide)
  have hs := jgr (jd9 k e)
  have hb : (jd9 k e).size ≤ 764 := by
    unfold jd9
    simp only [ByteArray.size_append]
    have z1 : (⟨#[32]⟩ : ByteArray).size = 1 := rfl
    have z2 : (⟨#[64]⟩ : ByteArray).size = 1 := rfl
    omega
  unfold jck
  rw [ByteArray.size_append]
  have z1 : (⟨#[10]⟩ : ByteArray).size = 1 := rfl
  omega
theorem jr4 {r : RaceV} {l : Log} {line : ByteArray} (h : l.upto 1048576) : (exM r l line).log.upto 1048576 := by
  unfold exM
  by_cases h1 : (ja0 r && ja9 l) = false
  · rw [if_pos h1]
    exact h
  rw [if_neg h1]
  by_cases h2 : jgb ⟨line, ⟨#[]⟩⟩ = false
  · rw [if_pos h2]
    exact h
  rw [if_neg h2]
  by_cases h3 : l.count = 60
  · rw [if_pos h3]
    exact h
  rw [if_neg h3]
  have hv : ja9 l = true := by
    cases hv : ja9 l with
    | true => rfl
    | false => exact absurd (by rw [hv, Bool.and_false]) h1
  have h9 := jg4 hv
  unfold jgg
  split
  · rename_i he
    · simp only [Bool.and_eq_true] at he
      have hl := jrj l.count.toNat _ (by omega) he.2
      refine ⟨by show l.durable.size ≤ 1048576; omega, ?_⟩
      show (l.pending ++ jck _ _).size ≤ 1048576
      rw [ByteArray.size_append]
      omega
  · exact h
def jrw : Entrant := ⟨0, 0, 0, 0, []⟩
def jqy (n : Nat) : List (Hd Entrant) := List.replicate n ⟨jrw, none, 0, 0⟩
theorem jrx (n : Nat) (hn : n ≤ 8) : madeCells (Value.cells (.agg #[.int .i64 0, .int .i64 0, .int .i64 0, .int .i64 0, .slice none 0 0])) (n * 5) = ((jqy n).flatMap entrantSh.enc).toArray := by
  have hc : Value.cells (.agg #[.int .i64 0, .int .i64 0, .int .i64 0, .int .i64 0, .slice none 0 0]) = #[.int .i64 0, .int .i64 0, .int .i64 0, .int .i64 0, .slice none 0 0] := by first | rfl | simp [Value.cells] | kernel_rfl
  rw [hc]
  refine Array.ext' ?_
  simp only [madeCells, Array.toList_map, Array.toList_range]
  have h : n = 0 ∨ n = 1 ∨ n = 2 ∨ n = 3 ∨ n = 4 ∨ n = 5 ∨ n = 6 ∨ n = 7 ∨ n = 8 := by omega
  rcases h with rfl | rfl | rfl | rfl | rfl | rfl | rfl | rfl | rfl <;> rfl
theorem jrm (n : Nat) (hn : n ≤ 8) (w : World) : (Instr.makeSlice 30 (.int .i64 (n : Int)) (.int .i64 (n : Int))).run Tryz.prog w = .ok (.slice (some ⟨w.heap.size, 0, none⟩) n n) (w.alloc (.cells ((jqy n).flatMap entrantSh.enc).toArray 108)) := by
  obtain ⟨i0, hi, hz0, hz1, hz2⟩ := info_parts jbd
  have h := run_make (P := Tryz.prog) w 30 108 i0 (.agg #[.int .i64 0, .int .i64 0, .int .i64 0, .int .i64 0, .slice none 0 0]) Tryz.underlying30 hi hz0 .i64 .i64 n n (by omega) (by omega) (by rw [hz2]; omega) (by omega)
  rw [hz1, Int.toNat_natCast, jrx n hn] at h
  exact h
theorem jrn (n : Nat) (hn : n ≤ 8) (w : World) : MineN entrantSh (w.alloc (.cells ((jqy n).flatMap entrantSh.enc).toArray 108)) (In w.heap.size (w.heap.size + 1)) 108 188 (some ⟨w.heap.size, 0, none⟩) n n (List.replicate n jrw) := by
  have hl : ((jqy n).flatMap entrantSh.enc).length = n * 5 := by rw [jpl]; simp [jqy, entrantSh]
  have hr : ∀ r ∈ jqy n, r = ⟨jrw, none, 0, 0⟩ := fun r h => (List.mem_replicate.1 h).2
  have hno : ∀ r ∈ jqy n, ∀ b, ¬ jaj r.A b := fun r h b hb => by rw [hr r h] at hb; simp [jaj, Value.ownBlock] at hb
  refine ⟨jqy n, by simp [jqy], ⟨⟨jci (Nat.zero_le _) (Blk.at_ rfl) hl (Nat.le_refl _) (by simp only [maxLen]; omega) (by show List.take (n * 5) _ = _; rw [← hl]; exact List.take_length), fun b hb => ?_⟩, ⟨fun r h => ?_, ?_⟩, fun r h b hb => absurd hb (hno r h b)⟩⟩
  · simp only [jaj, Value.ownBlock, Option.some.injEq] at hb
    exact ⟨by omega, by omega⟩
  · rw [hr r h]
    exact ⟨World.ownsRow_nil _ _ _ _, fun b hb => by simp [jaj, Value.ownBlock] at hb⟩
  · exact List.Pairwise.imp_of_mem (fun h _ _ b hb => absurd hb (hno _ h b)) (List.pairwise_of_forall (fun _ _ => trivial) (R := fun _ _ => True))
def jqw (e0 : Int) : Nat := if inB e0 1 8 then e0.toNat else 0
theorem jsg (e0 : Int) : jqw e0 ≤ 8 := by
  unfold jqw
  split
  · rename_i h
    have := jaq h
    omega
  · omega
def jrl (w : World) (e0 : Int) (e : Ending) (w' : World) : Prop := ∃ A, e = .returned (.tuple #[.agg #[.int .i64 0, false, .slice A (jqw e0) (jqw e0)], .bool (inB e0 1 8)]) ∧ MineN entrantSh w' (In w.heap.size w'.heap.size) 108 188 A (jqw e0) (jqw e0) (List.replicate (jqw e0) jrw) ∧ Below w.heap.size w w'
def jry (w : World) (B : Bool) (N : Nat) (e : Ending) (w' : World) : Prop := ∃ A, e = .returned (.tuple #[.agg #[.int .i64 0, false, .slice A N N, .string ⟨#[]⟩, .string ⟨#[]⟩, .int .i64 0], .bool B]) ∧ MineN entrantSh w' (In w.heap.size w'.heap.size) 108 188 A N N (List.replicate N jrw) ∧ Below w.heap.size w w'
theorem jq3 (w : World) (S : Nat → Prop) : MineN entrantSh w (S) 108 188 none 0 0 (List.replicate 0 jrw) := MineN.nil _ _ _ _
theorem jru (e0 : Int) (w : World) : Calls Tryz.prog 66 #[.int .i64 e0] w (jrl w e0) := by
  go_enter Tryz.func66, Tryz.ntmps66
  go_wp2_with fail
  have U := nB w (.cells #[.int .i64 0, false, .slice none 0 0] 32)
  have R := nP w [.int .i64 0, false, .slice none 0 0] 32
  refine (jaf e0 1 8 _).mono ?_
  rintro e w' ⟨rfl, rfl⟩
  by_cases h : inB e0 1 8 = true
  · have hb := jaq h
    obtain ⟨n, rfl⟩ := Int.eq_ofNat_of_zero_le (show 0 ≤ e0 by omega)
    have hn : n ≤ 8 := by omega
    have hmk := jrm n hn (w.alloc (.cells #[.int .i64 0, false, .slice none 0 0] 32))
    have hen : jqw (n : Int) = n := by unfold jqw; rw [if_pos h]; omega
    have M := jrn n hn (w.alloc (.cells #[.int .i64 0, false, .slice (some ⟨w.heap.size + 1, 0, none⟩) n n] 32))
    have hsz : (w.alloc (.cells #[.int .i64 0, false, .slice none 0 0] 32)).heap.size = w.heap.size + 1 := by simp
    have hsz6 : (w.alloc (.cells #[.int .i64 0, false, .slice (some ⟨w.heap.size + 1, 0, none⟩) n n] 32)).heap.size = w.heap.size + 1 := by simp
    rw [hsz6] at M
    rw [hsz] at hmk
    have K3 := nB2 w (.cells #[.int .i64 0, false, .slice (some ⟨w.heap.size + 1, 0, none⟩) n n] 32) (.cells ((jqy n).flatMap entrantSh.enc).toArray 108)
    have cm := (show Blk ((w.alloc (.cells #[.int .i64 0, false, .slice (some ⟨w.heap.size + 1, 0, none⟩) n n] 32)).alloc (.cells ((jqy n).flatMap entrantSh.enc).toArray 108)) w.heap.size 32 [.int .i64 0, .bool false, .slice (some ⟨w.heap.size + 1, 0, none⟩) n n] from (Blk.at_ rfl).alloc _).cell
    have hz2 := nZ2 w (.cells #[.int .i64 0, false, .slice (some ⟨w.heap.size + 1, 0, none⟩) n n] 32) (.cells ((jqy n).flatMap entrantSh.enc).toArray 108)
    have M4 := M.wide (T := In w.heap.size ((w.alloc (.cells #[.int .i64 0, false, .slice (some ⟨w.heap.size + 1, 0, none⟩) n n] 32)).alloc (.cells ((jqy n).flatMap entrantSh.enc).toArray 108)).heap.size) (fun b hb => ⟨by have := hb.1; omega, by have := hb.2; omega⟩)
    rw [h]
    clear hsz R hsz6 M hz2 U
    go_wp2_with fail
    refine bodyPost_ret (v := .tuple #[.agg #[.int .i64 0, false, .slice (some ⟨w.heap.size + 1, 0, none⟩) n n], .bool true]) (by simp [results, Tryz.results66, go_sem, cm]) rfl ?_
    clear cm hmk
    generalize (w.alloc _).alloc _ = w3 at *
    exact ⟨some ⟨w.heap.size + 1, 0, none⟩, by rw [hen, h], by rw [hen]; exact M4, K3⟩
  · have hb : inB e0 1 8 = false := by simpa using h
    have hen : jqw e0 = 0 := by unfold jqw; rw [if_neg h]
    have cr := R.cell
    have fr := R.frozen
    rw [hb]
    go_wp2_with fail
    have cm := R.cell
    refine bodyPost_ret (v := .tuple #[.agg #[.int .i64 0, false, .slice none 0 0], .bool false]) (by simp [results, Tryz.results66, go_sem, cm]) rfl ?_
    clear cm cr fr R
    generalize w.alloc _ = w3 at *
    exact ⟨none, by rw [hen, hb], by rw [hen]; exact jq3 _ _, U⟩
theorem jrc (e0 : Int) (w : World) : Calls Tryz.prog 67 #[.int .i64 e0] w (jrl w e0) := by
  go_enter Tryz.func67, Tryz.ntmps67
  go_wp2_with fail
  have U := nB w (.cells #[.int .i64 0, false, .slice none 0 0] 32)
  have R := nP w [.int .i64 0, false, .slice none 0 0] 32
  refine (jae e0 1 8 _).mono ?_
  rintro e w' ⟨rfl, rfl⟩
  by_cases h : inB e0 1 8 = true
  · have hb := jaq h
    obtain ⟨n, rfl⟩ := Int.eq_ofNat_of_zero_le (show 0 ≤ e0 by omega)
    have hn : n ≤ 8 := by omega
    have hmk := jrm n hn (w.alloc (.cells #[.int .i64 0, false, .slice none 0 0] 32))
    have hen : jqw (n : Int) = n := by unfold jqw; rw [if_pos h]; omega
    have M := jrn n hn (w.alloc (.cells #[.int .i64 0, false, .slice (some ⟨w.heap.size + 1, 0, none⟩) n n] 32))
    have hsz : (w.alloc (.cells #[.int .i64 0, false, .slice none 0 0] 32)).heap.size = w.heap.size + 1 := by simp
    have hsz6 : (w.alloc (.cells #[.int .i64 0, false, .slice (some ⟨w.heap.size + 1, 0, none⟩) n n] 32)).heap.size = w.heap.size + 1 := by simp
    rw [hsz6] at M
    rw [hsz] at hmk
    have K3 := nB2 w (.cells #[.int .i64 0, false, .slice (some ⟨w.heap.size + 1, 0, none⟩) n n] 32) (.cells ((jqy n).flatMap entrantSh.enc).toArray 108)
    have cm := (show Blk ((w.alloc (.cells #[.int .i64 0, false, .slice (some ⟨w.heap.size + 1, 0, none⟩) n n] 32)).alloc (.cells ((jqy n).flatMap entrantSh.enc).toArray 108)) w.heap.size 32 [.int .i64 0, .bool false, .slice (some ⟨w.heap.size + 1, 0, none⟩) n n] from (Blk.at_ rfl).alloc _).cell
    have hz2 := nZ2 w (.cells #[.int .i64 0, false, .slice (some ⟨w.heap.size + 1, 0, none⟩) n n] 32) (.cells ((jqy n).flatMap entrantSh.enc).toArray 108)
    have M4 := M.wide (T := In w.heap.size ((w.alloc (.cells #[.int .i64 0, false, .slice (some ⟨w.heap.size + 1, 0, none⟩) n n] 32)).alloc (.cells ((jqy n).flatMap entrantSh.enc).toArray 108)).heap.size) (fun b hb => ⟨by have := hb.1; omega, by have := hb.2; omega⟩)
    rw [h]
    clear hsz R hsz6 M hz2 U
    go_wp2_with fail
    refine bodyPost_ret (v := .tuple #[.agg #[.int .i64 0, false, .slice (some ⟨w.heap.size + 1, 0, none⟩) n n], .bool true]) (by simp [results, Tryz.results67, go_sem, cm]) rfl ?_
    clear cm hmk
    generalize (w.alloc _).alloc _ = w3 at *
    exact ⟨some ⟨w.heap.size + 1, 0, none⟩, by rw [hen, h], by rw [hen]; exact M4, K3⟩
  · have hb : inB e0 1 8 = false := by simpa using h
    have hen : jqw e0 = 0 := by unfold jqw; rw [if_neg h]
    have cr := R.cell
    have fr := R.frozen
    rw [hb]
    go_wp2_with fail
    have cm := R.cell
    refine bodyPost_ret (v := .tuple #[.agg #[.int .i64 0, false, .slice none 0 0], .bool false]) (by simp [results, Tryz.results67, go_sem, cm]) rfl ?_
    clear cm cr fr R
    generalize w.alloc _ = w3 at *
    exact ⟨none, by rw [hen, hb], by rw [hen]; exact jq3 _ _, U⟩
theorem jre (e0 : Int) (w : World) : Calls Tryz.prog 26 #[.int .i64 e0] w (jry w (inB e0 1 8) (jqw e0)) := by
  go_enter Tryz.func26, Tryz.ntmps26
  go_wp2_with fail
  have U := nB w (.cells #[.int .i64 0, false, .slice none 0 0, .string ⟨#[]⟩, .string ⟨#[]⟩, .int .i64 0] 35)
  have R := nP w [.int .i64 0, false, .slice none 0 0, .string ⟨#[]⟩, .string ⟨#[]⟩, .int .i64 0] 35
  have hzC : w.heap.size + 1 = (w.alloc (.cells #[.int .i64 0, false, .slice none 0 0, .string ⟨#[]⟩, .string ⟨#[]⟩, .int .i64 0] 35)).heap.size := by simp
  generalize w.alloc _ = w1 at *
  refine (jru e0 w1).mono ?_
  rintro e w2 ⟨A, rfl, M, b⟩
  replace R := R.next b
  have K := U.trans (b.mono (by omega))
  have hs2 := b.size
  clear U b
  have ru := jaq (n := e0) (lo := 1) (hi := 8)
  have hen : inB e0 1 8 = false → jqw e0 = 0 := fun h => by unfold jqw; rw [h]; rfl
  generalize jqw e0 = N at *
  generalize inB e0 1 8 = B at *
  clear ru
  have U3 := nB w2 (.cells #[.int .i64 0, false, .slice A N N] 32)
  have R3 := R.next U3
  have B3 := nP w2 [.int .i64 0, false, .slice A N N] 32
  have M3 := M.next U3
  have K3 := jaa K U3
  have hs3 := U3.size
  have cb := B3.cell
  have cr := R3.cell
  have fr := R3.frozen
  clear R M K U3
  cases B
  · obtain rfl := hen rfl
    go_wp2_with fail
    have R4 : Blk (((((((w2.alloc (.cells #[.int .i64 0, false, .slice A 0 0] 32)).setCell ⟨w.heap.size, 0, none⟩ (.int .i64 0)).setCell ⟨w.heap.size, 1, none⟩ (.bool false)).setCell ⟨w.heap.size, 2, none⟩ (.slice none 0 0)).setCell ⟨w.heap.size, 3, none⟩ (.string ⟨#[]⟩)).setCell ⟨w.heap.size, 4, none⟩ (.string ⟨#[]⟩)).setCell ⟨w.heap.size, 5, none⟩ (.int .i64 0)) w.heap.size 35 [.int .i64 0, .bool false, .slice none 0 0, .string ⟨#[]⟩, .string ⟨#[]⟩, .int .i64 0] := R3.many [.int .i64 0, .bool false, .slice none 0 0, .string ⟨#[]⟩, .string ⟨#[]⟩, .int .i64 0] 0
    have ho : Only (fun b => b = w.heap.size) (w2.alloc (.cells #[.int .i64 0, false, .slice A 0 0] 32)) (((((((w2.alloc (.cells #[.int .i64 0, false, .slice A 0 0] 32)).setCell ⟨w.heap.size, 0, none⟩ (.int .i64 0)).setCell ⟨w.heap.size, 1, none⟩ (.bool false)).setCell ⟨w.heap.size, 2, none⟩ (.slice none 0 0)).setCell ⟨w.heap.size, 3, none⟩ (.string ⟨#[]⟩)).setCell ⟨w.heap.size, 4, none⟩ (.string ⟨#[]⟩)).setCell ⟨w.heap.size, 5, none⟩ (.int .i64 0)) := Only.many (S := fun b => b = w.heap.size) rfl [.int .i64 0, .bool false, .slice none 0 0, .string ⟨#[]⟩, .string ⟨#[]⟩, .int .i64 0] (Only.refl _ _) 0
    have cm := R4.cell
    have K4 : Below w.heap.size w (((((((w2.alloc (.cells #[.int .i64 0, false, .slice A 0 0] 32)).setCell ⟨w.heap.size, 0, none⟩ (.int .i64 0)).setCell ⟨w.heap.size, 1, none⟩ (.bool false)).setCell ⟨w.heap.size, 2, none⟩ (.slice none 0 0)).setCell ⟨w.heap.size, 3, none⟩ (.string ⟨#[]⟩)).setCell ⟨w.heap.size, 4, none⟩ (.string ⟨#[]⟩)).setCell ⟨w.heap.size, 5, none⟩ (.int .i64 0)) := K3.trans (ho.below (fun b (hb : b = w.heap.size) => by omega) (by omega))
    clear ho R4 R3 K3 cr fr cb B3 M3
    refine bodyPost_ret (v := .tuple #[.agg #[.int .i64 0, false, .slice none 0 0, .string ⟨#[]⟩, .string ⟨#[]⟩, .int .i64 0], .bool false]) (by simp [results, Tryz.results26, go_sem, cm]) rfl ?_
    clear cm
    generalize (((((((w2.alloc (.cells #[.int .i64 0, false, .slice A 0 0] 32)).setCell ⟨w.heap.size, 0, none⟩ (.int .i64 0)).setCell ⟨w.heap.size, 1, none⟩ (.bool false)).setCell ⟨w.heap.size, 2, none⟩ (.slice none 0 0)).setCell ⟨w.heap.size, 3, none⟩ (.string ⟨#[]⟩)).setCell ⟨w.heap.size, 4, none⟩ (.string ⟨#[]⟩)).setCell ⟨w.heap.size, 5, none⟩ (.int .i64 0)) = w4 at *
    exact ⟨none, rfl, jq3 _ _, K4⟩
  · go_wp2_with fail
    have R4 : Blk (((((((w2.alloc (.cells #[.int .i64 0, false, .slice A N N] 32)).setCell ⟨w.heap.size, 0, none⟩ (.int .i64 0)).setCell ⟨w.heap.size, 1, none⟩ (.bool false)).setCell ⟨w.heap.size, 2, none⟩ (.slice A N N)).setCell ⟨w.heap.size, 3, none⟩ (.string ⟨#[]⟩)).setCell ⟨w.heap.size, 4, none⟩ (.string ⟨#[]⟩)).setCell ⟨w.heap.size, 5, none⟩ (.int .i64 0)) w.heap.size 35 [.int .i64 0, .bool false, .slice A N N, .string ⟨#[]⟩, .string ⟨#[]⟩, .int .i64 0] := R3.many [.int .i64 0, .bool false, .slice A N N, .string ⟨#[]⟩, .string ⟨#[]⟩, .int .i64 0] 0
    have ho : Only (fun b => b = w.heap.size) (w2.alloc (.cells #[.int .i64 0, false, .slice A N N] 32)) (((((((w2.alloc (.cells #[.int .i64 0, false, .slice A N N] 32)).setCell ⟨w.heap.size, 0, none⟩ (.int .i64 0)).setCell ⟨w.heap.size, 1, none⟩ (.bool false)).setCell ⟨w.heap.size, 2, none⟩ (.slice A N N)).setCell ⟨w.heap.size, 3, none⟩ (.string ⟨#[]⟩)).setCell ⟨w.heap.size, 4, none⟩ (.string ⟨#[]⟩)).setCell ⟨w.heap.size, 5, none⟩ (.int .i64 0)) := Only.many (S := fun b => b = w.heap.size) rfl [.int .i64 0, .bool false, .slice A N N, .string ⟨#[]⟩, .string ⟨#[]⟩, .int .i64 0] (Only.refl _ _) 0
    have cm := R4.cell
    have hz := ho.size
    have K4 : Below w.heap.size w (((((((w2.alloc (.cells #[.int .i64 0, false, .slice A N N] 32)).setCell ⟨w.heap.size, 0, none⟩ (.int .i64 0)).setCell ⟨w.heap.size, 1, none⟩ (.bool false)).setCell ⟨w.heap.size, 2, none⟩ (.slice A N N)).setCell ⟨w.heap.size, 3, none⟩ (.string ⟨#[]⟩)).setCell ⟨w.heap.size, 4, none⟩ (.string ⟨#[]⟩)).setCell ⟨w.heap.size, 5, none⟩ (.int .i64 0)) := K3.trans (ho.below (fun b (hb : b = w.heap.size) => by omega) (by omega))
    have M4 := (M3.only ho (fun b h1 (h2 : b = w.heap.size) => by have := h1.1; omega)).wide (T := In w.heap.size (((((((w2.alloc (.cells #[.int .i64 0, false, .slice A N N] 32)).setCell ⟨w.heap.size, 0, none⟩ (.int .i64 0)).setCell ⟨w.heap.size, 1, none⟩ (.bool false)).setCell ⟨w.heap.size, 2, none⟩ (.slice A N N)).setCell ⟨w.heap.size, 3, none⟩ (.string ⟨#[]⟩)).setCell ⟨w.heap.size, 4, none⟩ (.string ⟨#[]⟩)).setCell ⟨w.heap.size, 5, none⟩ (.int .i64 0)).heap.size) (fun b hb => ⟨by have := hb.1; omega, by have := hb.2; omega⟩)
    clear ho R4 R3 K3 cr fr cb B3 M3 hz
    refine bodyPost_ret (v := .tuple #[.agg #[.int .i64 0, false, .slice A N N, .string ⟨#[]⟩, .string ⟨#[]⟩, .int .i64 0], .bool true]) (by simp [results, Tryz.results26, go_sem, cm]) rfl ?_
    clear cm
    generalize (((((((w2.alloc (.cells #[.int .i64 0, false, .slice A N N] 32)).setCell ⟨w.heap.size, 0, none⟩ (.int .i64 0)).setCell ⟨w.heap.size, 1, none⟩ (.bool false)).setCell ⟨w.heap.size, 2, none⟩ (.slice A N N)).setCell ⟨w.heap.size, 3, none⟩ (.string ⟨#[]⟩)).setCell ⟨w.heap.size, 4, none⟩ (.string ⟨#[]⟩)).setCell ⟨w.heap.size, 5, none⟩ (.int .i64 0)) = w4 at *
    exact ⟨A, rfl, M4, K4⟩
theorem jq6 (e0 : Int) (w : World) : Calls Tryz.prog 27 #[.int .i64 e0] w (jry w (inB e0 1 8) (jqw e0)) := by
  go_enter Tryz.func27, Tryz.ntmps27
  go_wp2_with fail
  have U := nB w (.cells #[.int .i64 0, false, .slice none 0 0, .string ⟨#[]⟩, .string ⟨#[]⟩, .int .i64 0] 35)
  have R := nP w [.int .i64 0, false, .slice none 0 0, .string ⟨#[]⟩, .string ⟨#[]⟩, .int .i64 0] 35
  have hzC : w.heap.size + 1 = (w.alloc (.cells #[.int .i64 0, false, .slice none 0 0, .string ⟨#[]⟩, .string ⟨#[]⟩, .int .i64 0] 35)).heap.size := by simp
  generalize w.alloc _ = w1 at *
  refine (jrc e0 w1).mono ?_
  rintro e w2 ⟨A, rfl, M, b⟩
  replace R := R.next b
  have K := U.trans (b.mono (by omega))
  have hs2 := b.size
  clear U b
  have ru := jaq (n := e0) (lo := 1) (hi := 8)
  have hen : inB e0 1 8 = false → jqw e0 = 0 := fun h => by unfold jqw; rw [h]; rfl
  generalize jqw e0 = N at *
  generalize inB e0 1 8 = B at *
  clear ru
  have U3 := nB w2 (.cells #[.int .i64 0, false, .slice A N N] 32)
  have R3 := R.next U3
  have B3 := nP w2 [.int .i64 0, false, .slice A N N] 32
  have M3 := M.next U3
  have K3 := jaa K U3
  have hs3 := U3.size
  have cb := B3.cell
  have cr := R3.cell
  have fr := R3.frozen
  clear R M K U3
  cases B
  · obtain rfl := hen rfl
    go_wp2_with fail
    have R4 : Blk (((((((w2.alloc (.cells #[.int .i64 0, false, .slice A 0 0] 32)).setCell ⟨w.heap.size, 0, none⟩ (.int .i64 0)).setCell ⟨w.heap.size, 1, none⟩ (.bool false)).setCell ⟨w.heap.size, 2, none⟩ (.slice none 0 0)).setCell ⟨w.heap.size, 3, none⟩ (.string ⟨#[]⟩)).setCell ⟨w.heap.size, 4, none⟩ (.string ⟨#[]⟩)).setCell ⟨w.heap.size, 5, none⟩ (.int .i64 0)) w.heap.size 35 [.int .i64 0, .bool false, .slice none 0 0, .string ⟨#[]⟩, .string ⟨#[]⟩, .int .i64 0] := R3.many [.int .i64 0, .bool false, .slice none 0 0, .string ⟨#[]⟩, .string ⟨#[]⟩, .int .i64 0] 0
    have ho : Only (fun b => b = w.heap.size) (w2.alloc (.cells #[.int .i64 0, false, .slice A 0 0] 32)) (((((((w2.alloc (.cells #[.int .i64 0, false, .slice A 0 0] 32)).setCell ⟨w.heap.size, 0, none⟩ (.int .i64 0)).setCell ⟨w.heap.size, 1, none⟩ (.bool false)).setCell ⟨w.heap.size, 2, none⟩ (.slice none 0 0)).setCell ⟨w.heap.size, 3, none⟩ (.string ⟨#[]⟩)).setCell ⟨w.heap.size, 4, none⟩ (.string ⟨#[]⟩)).setCell ⟨w.heap.size, 5, none⟩ (.int .i64 0)) := Only.many (S := fun b => b = w.heap.size) rfl [.int .i64 0, .bool false, .slice none 0 0, .string ⟨#[]⟩, .string ⟨#[]⟩, .int .i64 0] (Only.refl _ _) 0
    have cm := R4.cell
    have K4 : Below w.heap.size w (((((((w2.alloc (.cells #[.int .i64 0, false, .slice A 0 0] 32)).setCell ⟨w.heap.size, 0, none⟩ (.int .i64 0)).setCell ⟨w.heap.size, 1, none⟩ (.bool false)).setCell ⟨w.heap.size, 2, none⟩ (.slice none 0 0)).setCell ⟨w.heap.size, 3, none⟩ (.string ⟨#[]⟩)).setCell ⟨w.heap.size, 4, none⟩ (.string ⟨#[]⟩)).setCell ⟨w.heap.size, 5, none⟩ (.int .i64 0)) := K3.trans (ho.below (fun b (hb : b = w.heap.size) => by omega) (by omega))
    clear ho R4 R3 K3 cr fr cb B3 M3
    refine bodyPost_ret (v := .tuple #[.agg #[.int .i64 0, false, .slice none 0 0, .string ⟨#[]⟩, .string ⟨#[]⟩, .int .i64 0], .bool false]) (by simp [results, Tryz.results27, go_sem, cm]) rfl ?_
    clear cm
    generalize (((((((w2.alloc (.cells #[.int .i64 0, false, .slice A 0 0] 32)).setCell ⟨w.heap.size, 0, none⟩ (.int .i64 0)).setCell ⟨w.heap.size, 1, none⟩ (.bool false)).setCell ⟨w.heap.size, 2, none⟩ (.slice none 0 0)).setCell ⟨w.heap.size, 3, none⟩ (.string ⟨#[]⟩)).setCell ⟨w.heap.size, 4, none⟩ (.string ⟨#[]⟩)).setCell ⟨w.heap.size, 5, none⟩ (.int .i64 0)) = w4 at *
    exact ⟨none, rfl, jq3 _ _, K4⟩
  · go_wp2_with fail
    have R4 : Blk (((((((w2.alloc (.cells #[.int .i64 0, false, .slice A N N] 32)).setCell ⟨w.heap.size, 0, none⟩ (.int .i64 0)).setCell ⟨w.heap.size, 1, none⟩ (.bool false)).setCell ⟨w.heap.size, 2, none⟩ (.slice A N N)).setCell ⟨w.heap.size, 3, none⟩ (.string ⟨#[]⟩)).setCell ⟨w.heap.size, 4, none⟩ (.string ⟨#[]⟩)).setCell ⟨w.heap.size, 5, none⟩ (.int .i64 0)) w.heap.size 35 [.int .i64 0, .bool false, .slice A N N, .string ⟨#[]⟩, .string ⟨#[]⟩, .int .i64 0] := R3.many [.int .i64 0, .bool false, .slice A N N, .string ⟨#[]⟩, .string ⟨#[]⟩, .int .i64 0] 0
    have ho : Only (fun b => b = w.heap.size) (w2.alloc (.cells #[.int .i64 0, false, .slice A N N] 32)) (((((((w2.alloc (.cells #[.int .i64 0, false, .slice A N N] 32)).setCell ⟨w.heap.size, 0, none⟩ (.int .i64 0)).setCell ⟨w.heap.size, 1, none⟩ (.bool false)).setCell ⟨w.heap.size, 2, none⟩ (.slice A N N)).setCell ⟨w.heap.size, 3, none⟩ (.string ⟨#[]⟩)).setCell ⟨w.heap.size, 4, none⟩ (.string ⟨#[]⟩)).setCell ⟨w.heap.size, 5, none⟩ (.int .i64 0)) := Only.many (S := fun b => b = w.heap.size) rfl [.int .i64 0, .bool false, .slice A N N, .string ⟨#[]⟩, .string ⟨#[]⟩, .int .i64 0] (Only.refl _ _) 0
    have cm := R4.cell
    have hz := ho.size
    have K4 : Below w.heap.size w (((((((w2.alloc (.cells #[.int .i64 0, false, .slice A N N] 32)).setCell ⟨w.heap.size, 0, none⟩ (.int .i64 0)).setCell ⟨w.heap.size, 1, none⟩ (.bool false)).setCell ⟨w.heap.size, 2, none⟩ (.slice A N N)).setCell ⟨w.heap.size, 3, none⟩ (.string ⟨#[]⟩)).setCell ⟨w.heap.size, 4, none⟩ (.string ⟨#[]⟩)).setCell ⟨w.heap.size, 5, none⟩ (.int .i64 0)) := K3.trans (ho.below (fun b (hb : b = w.heap.size) => by omega) (by omega))
    have M4 := (M3.only ho (fun b h1 (h2 : b = w.heap.size) => by have := h1.1; omega)).wide (T := In w.heap.size (((((((w2.alloc (.cells #[.int .i64 0, false, .slice A N N] 32)).setCell ⟨w.heap.size, 0, none⟩ (.int .i64 0)).setCell ⟨w.heap.size, 1, none⟩ (.bool false)).setCell ⟨w.heap.size, 2, none⟩ (.slice A N N)).setCell ⟨w.heap.size, 3, none⟩ (.string ⟨#[]⟩)).setCell ⟨w.heap.size, 4, none⟩ (.string ⟨#[]⟩)).setCell ⟨w.heap.size, 5, none⟩ (.int .i64 0)).heap.size) (fun b hb => ⟨by have := hb.1; omega, by have := hb.2; omega⟩)
    clear ho R4 R3 K3 cr fr cb B3 M3 hz
    refine bodyPost_ret (v := .tuple #[.agg #[.int .i64 0, false, .slice A N N, .string ⟨#[]⟩, .string ⟨#[]⟩, .int .i64 0], .bool true]) (by simp [results, Tryz.results27, go_sem, cm]) rfl ?_
    clear cm
    generalize (((((((w2.alloc (.cells #[.int .i64 0, false, .slice A N N] 32)).setCell ⟨w.heap.size, 0, none⟩ (.int .i64 0)).setCell ⟨w.heap.size, 1, none⟩ (.bool false)).setCell ⟨w.heap.size, 2, none⟩ (.slice A N N)).setCell ⟨w.heap.size, 3, none⟩ (.string ⟨#[]⟩)).setCell ⟨w.heap.size, 4, none⟩ (.string ⟨#[]⟩)).setCell ⟨w.heap.size, 5, none⟩ (.int .i64 0)) = w4 at *
    exact ⟨A, rfl, M4, K4⟩
def jqx (l : Log) : List LogRecord × Bool := if ja9 l then ((allR (l.durable ++ l.pending)).l, true) else ([], false)
theorem jrq (l : Log) : (jqx l).1.length ≤ 60 := by
  unfold jqx
  split
  · exact (jkd _).len
  · exact Nat.zero_le _
def jrh (w : World) (R : List LogRecord × Bool) (e : Ending) (w' : World) : Prop := ∃ (A : Option Addr) (c : Nat), e = .returned (.tuple #[.slice A R.1.length c, .bool R.2]) ∧ w'.ownsRow w.heap.size 69 2 (.slice A R.1.length c) R.1.length (R.1.flatMap LogRecord.enc) ∧ Below w.heap.size w w'
theorem jrd (l : Log) (w : World) (hs : l.upto 1048576) (hg : Gl w) :
    Calls Tryz.prog 37 #[.agg #[l.durable, l.pending, l.count]] w (jrh w (jqx l)) := by
  have ⟨h1, h2⟩ := hs
  have zs : (l.durable ++ l.pending).size = l.durable.size + l.pending.size := ByteArray.size_append
  have fs : ¬ 9223372036854775807 < l.durable.size + l.pending.size := by omega
  have K0 := nB w (.cells #[l.durable, l.pending, l.count] 33)
  have B0 := nP w [l.durable, l.pending, l.count] 33
  cases hv : ja9 l
  · have HR := Lib.hid (show jqx l = ([], false) by simp [jqx, hv])
    have HV := Lib.hid hv
    clear hv
    go_enter Tryz.func37, Tryz.ntmps37
    go_wp2_with fail
    refine (jch l _ hs (hg.next K0)).mono ?_
    rintro e w1 ⟨rfl, b1⟩
    rw [HV.out]
    have K1 := jaa K0 b1
    go_wp2_with fail
    go_ret2
    rw [HR.out]
    exact ⟨none, 0, rfl, World.ownsRow_nil _ _ _ _, K1⟩
  · have HR := Lib.hid (show jqx l = ((allR (l.durable ++ l.pending)).l, true) by simp [jqx, hv])
    have HV := Lib.hid hv
    clear hv
    go_enter Tryz.func37, Tryz.ntmps37
    go_wp2_with fail
    refine (jch l _ hs (hg.next K0)).mono ?_
    rintro e w1 ⟨rfl, b1⟩
    rw [HV.out]
    have K1 := jaa K0 b1
    have B1 := B0.next b1
    have c1 := B1.cell
    go_wp2_with fail
    refine (jhz (l.durable ++ l.pending) _ (by omega) (hg.next K1)).mono ?_
    rintro e w2 ⟨A, B, c, d, rfl, hA, hB, b2⟩
    have K2 := jaa K1 b2
    go_wp2_with fail
    go_ret2
    rw [HR.out]
    exact ⟨_, _, rfl, jax hA K1.size, K2⟩
theorem jq5 (l : Log) (w : World) (hs : l.upto 1048576) :
    Calls Tryz.prog 64 #[.agg #[l.durable, l.pending, l.count]] w (jrh w (jqx l)) := by
  have ⟨h1, h2⟩ := hs
  have zs : (l.durable ++ l.pending).size = l.durable.size + l.pending.size := ByteArray.size_append
  have fs : ¬ 9223372036854775807 < l.durable.size + l.pending.size := by omega
  have K0 := nB w (.cells #[l.durable, l.pending, l.count] 33)
  have B0 := nP w [l.durable, l.pending, l.count] 33
  cases hv : ja9 l
  · have HR := Lib.hid (show jqx l = ([], false) by simp [jqx, hv])
    have HV := Lib.hid hv
    clear hv
    go_enter Tryz.func64, Tryz.ntmps64
    go_wp2_with fail
    refine (jed l _ hs).mono ?_
    rintro e w1 ⟨rfl, b1⟩
    rw [HV.out]
    have K1 := jaa K0 b1
    go_wp2_with fail
    go_ret2
    rw [HR.out]
    exact ⟨_, 0, rfl, jax (ja4 w1 _ _) K1.size, jaa K1 ((Below.refl _ _).alloc (Nat.le_refl _) _)⟩
  · have HR := Lib.hid (show jqx l = ((allR (l.durable ++ l.pending)).l, true) by simp [jqx, hv])
    have HV := Lib.hid hv
    clear hv
    go_enter Tryz.func64, Tryz.ntmps64
    go_wp2_with fail
    refine (jed l _ hs).mono ?_
    rintro e w1 ⟨rfl, b1⟩
    rw [HV.out]
    have K1 := jaa K0 b1
    have B1 := B0.next b1
    have c1 := B1.cell
    go_wp2_with fail
    refine (jiq (l.durable ++ l.pending) _ (by omega)).mono ?_
    rintro e w2 ⟨A, c, rfl, hA, b2⟩
    have K2 := jaa K1 b2
    go_wp2_with fail
    go_ret2
    rw [HR.out]
    exact ⟨_, _, rfl, jax hA K1.size, K2⟩
def jq1 (r : RaceV) (l : Log) : List LogRecord → Nat
  | [] => 0
  | e :: es => if (exM r l e.command).reply = e.reply then jq1 (exM r l e.command).race (exM r l e.command).log es + 1 else 0
def emptyL : Log := ⟨⟨#[]⟩, ⟨#[]⟩, 0⟩
def jr1 (e0 : Int) : RaceV := ⟨0, false, List.replicate (jqw e0) jrw⟩
def jq2 (e0 : Int) (l : Log) : Int × Bool := if inB e0 1 8 && ja9 l then ((jq1 (jr1 e0) emptyL (jqx l).1 : Nat), true) else (0, false)
theorem jro {e0 : Int} (h : inB e0 1 8 = true) : ja0 (jr1 e0) = true := by
  have h1 := jaq h
  unfold jr1
  obtain ⟨n, hn⟩ : ∃ n : Nat, jqw e0 = n ∧ 1 ≤ n ∧ n ≤ 8 := ⟨_, rfl, by unfold jqw; rw [h]; simp only [↓reduceIte]; omega, jsg e0⟩
  rw [hn.1]
  rcases (show n = 1 ∨ n = 2 ∨ n = 3 ∨ n = 4 ∨ n = 5 ∨ n = 6 ∨ n = 7 ∨ n = 8 by omega) with rfl | rfl | rfl | rfl | rfl | rfl | rfl | rfl <;> decide +kernel
theorem jrs {r : RaceV} {l : Log} {es : List LogRecord} {k : Nat} (hk : k < es.length) (h : (exM r l es[k].command).reply = es[k].reply) : jq1 r l (es.drop k) = jq1 (exM r l es[k].command).race (exM r l es[k].command).log (es.drop (k + 1)) + 1 := by
  rw [List.drop_eq_getElem_cons hk, jq1, if_pos h]
theorem jrg {r : RaceV} {l : Log} {es : List LogRecord} {k : Nat} (hk : k < es.length) (h : ¬ (exM r l es[k].command).reply = es[k].reply) : jq1 r l (es.drop k) = 0 := by
  rw [List.drop_eq_getElem_cons hk, jq1, if_neg h]
end Go.Proofs.YtflpcdffmpfdpaaGreatDoor
