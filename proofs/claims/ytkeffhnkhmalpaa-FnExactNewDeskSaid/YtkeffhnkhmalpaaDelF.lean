/- slices.DeleteFunc at []int. -/
import Derived.Test.YtkeffhnkhmalpaaSortP
import Derived.Test.YtkeffhnkhmalpaaLib1
import Derived.Test.YtkeffhnkhmalpaaOwn
namespace Go.Proofs.Ytkeffhnkhmalpaa
open Go.RowKit

theorem own_row {w : World} {base t s n c : Nat} {A : Option Addr} {cs : List Value} (h : w.ownsRow base t s (.slice A n c) n cs) : (A = none ∧ n = 0 ∧ c = 0 ∧ cs = []) ∨ ∃ (g : Nat) (rest : List Value), A = some ⟨g, 0, none⟩ ∧ base ≤ g ∧ Blk w g t (cs ++ rest) ∧ (cs ++ rest).length = c * s ∧ n ≤ c ∧ c ≤ maxLen := by
  rcases own_open h with h1 | ⟨g, cur, h1, h2, h3, h4, h5, h6, h7⟩
  · exact .inl h1
  · refine .inr ⟨g, cur.drop (n * s), h1, h2, ?_, ?_, h5, h6⟩
    · rw [← h7, List.take_append_drop]; exact h3
    · rw [← h7, List.take_append_drop]; exact h4
theorem own_row_mk {w : World} {base t s n c g : Nat} {cs rest : List Value} (hg : base ≤ g) (hB : Blk w g t (cs ++ rest)) (hl : (cs ++ rest).length = c * s) (hn : n ≤ c) (hm : c ≤ maxLen) (hc : cs.length = n * s) : w.ownsRow base t s (.slice (some ⟨g, 0, none⟩) n c) n cs :=
  own_shut hg hB hl hn hm (by rw [← hc, List.take_left'] ; rfl)
set_option maxRecDepth 100000 in
set_option maxHeartbeats 1000000 in
theorem setCells_many (g : Nat) : ∀ (vs : List Value) (i : Nat) (w : World), w.setCells g i vs = setManyW w g i vs
  | [], _, _ => rfl
  | v :: vs, i, w => by
    rw [World.setCells, setManyW, setCells_many g vs (i + 1)]
theorem run_clear {P : Program} (w : World) (t e : TypeId) (z : Value) (s : Nat) (ht : P.underlying t = some (.slice e)) (hv : ∀ w, (zeroValue e).run P w = .ok z w) (hz : z.cells.size = s) (h1 : ∀ v ∈ z.cells, v.oneCell' = true) (b o n c : Nat) (hn : 0 < n) (cs : List Value) (tt : TypeId) (hB : Blk w b tt cs) (hr : o + n * s ≤ cs.length) :
    ∃ zs : List Value, zs.length = n * s ∧ ∀ ty, (Builtin.clear_ #[t] ty #[.slice (some ⟨b, o, none⟩) n c]).run P w = .ok (.tuple #[]) (setManyW w b o zs) := by
  refine ⟨(Builtin.zeroCells z.cells n).toList, by simp [Builtin.zeroCells, hz], fun ty => ?_⟩
  have hlen : (Builtin.zeroCells z.cells n).toList.length = n * s := by simp [Builtin.zeroCells, hz]
  have hst := run_storeCells_cells (P := P) b o (Builtin.zeroCells z.cells n).toList 0 w (fun j hj => by rw [Nat.add_zero, hB.cell, List.getElem?_eq_getElem (by omega)]; rfl) (fun j _ => hB.frozen _) (fun v hv' => by
    simp only [Builtin.zeroCells, Array.toList_map, Array.toList_range, List.mem_map, List.mem_range] at hv'
    obtain ⟨i, hi, rfl⟩ := hv'
    have hp : 0 < z.cells.size := by rcases Nat.eq_zero_or_pos z.cells.size with h | h; · rw [h] at hi; omega
                                     · exact h
    have hm := Nat.mod_lt i hp
    rw [getElem!_pos z.cells _ hm]
    exact h1 _ (Array.getElem_mem hm))
  simp only [Nat.add_zero] at hst
  rw [setCells_many] at hst
  obtain ⟨m, rfl⟩ : ∃ m, n = m + 1 := ⟨n - 1, by omega⟩
  simp [Builtin.clear_, run_underlying ht, hv, hst]
/-- The function value answers p at each element, in every world in which blocks of S alone have changed. -/
structure AnswersO {α : Type} (g : Nat) (lb : Array Value) (enc : α → Value) (p : α → Bool) (xs : List α) (S : Nat → Prop) (w : World) : Prop where
  enters : ∀ args w, (callFunc g args).run Try.prog w = .ok (.enter g args) w
  at' : ∀ (x : α), x ∈ xs → ∀ W : World, Only S w W → Calls Try.prog g (#[enc x] ++ lb) W fun e W' => e = .returned (.bool (p x)) ∧ Below W.heap.size W W'
theorem AnswersO.plain {α : Type} {g : Nat} {lb : Array Value} {enc : α → Value} {p : α → Bool} {xs : List α} {S : Nat → Prop} {w : World} (h : AnswersO g lb enc p xs S w) : Answers g lb enc p xs w :=
  ⟨h.enters, fun i hi W hb => h.at' xs[i] (List.getElem_mem hi) W (Only.of_below hb)⟩
theorem setMany_before {α : Type} (vs cs : List α) (k : Nat) (h : k + vs.length ≤ cs.length) : (setMany cs k vs).take k = cs.take k := by
  refine List.ext_getElem? fun j => ?_
  rw [List.getElem?_take, List.getElem?_take]
  by_cases hj : j < k
  · rw [if_pos hj, if_pos hj, setMany_get _ _ _ _ h, if_neg (by omega)]
  · rw [if_neg hj, if_neg hj]
theorem row_take {α : Type} {enc : α → List Value} {s : Nat} (henc : ∀ x, (enc x).length = s) (ys : List α) (rest : List Value) (i : Nat) (hi : i ≤ ys.length) : (ys.flatMap enc ++ rest).take (i * s) = (ys.take i).flatMap enc := by
  have e1 : ys.flatMap enc ++ rest = (ys.take i).flatMap enc ++ ((ys.drop i).flatMap enc ++ rest) := by rw [← List.append_assoc, ← List.flatMap_append, List.take_append_drop]
  rw [e1, List.take_left' (by rw [flatMap_len _ (fun x _ => henc x), List.length_take, show min i ys.length = i by omega])]
theorem filter_next {α : Type} {p : α → Bool} {xs : List α} {k : Nat} (hk : k < xs.length) : (xs.take (k + 1)).filter p = if p xs[k] then (xs.take k).filter p ++ [xs[k]] else (xs.take k).filter p := by
  rw [List.take_succ_eq_append_getElem hk, List.filter_append]
  by_cases h : p xs[k] <;> simp [h]
theorem take_set_snoc {α : Type} {ys : List α} {i : Nat} (v : α) (hi : i < ys.length) : (ys.set i v).take (i + 1) = ys.take i ++ [v] := by
  rw [List.take_succ_eq_append_getElem (by simpa using hi), List.take_set_of_le (Nat.le_refl i)]
  simp
def intC (x : Int) : List Value := [.int .i64 x]
theorem flatMap_intC (xs : List Int) : xs.flatMap intC = ints xs := by
  induction xs with
  | nil => rfl
  | cons x l ih => rw [List.flatMap_cons, ih]; rfl
set_option maxRecDepth 100000 in
set_option maxHeartbeats 4000000 in
theorem DeleteFunc_intC (g : Nat) (lb : Array Value) (p : Int → Bool) (base t n c : Nat) (A : Option Addr) (xs : List Int) (w : World) (hO : w.ownsRow base t 1 (.slice A n c) n (xs.flatMap intC)) (hn1 : n ≤ 1000)
    (hp : AnswersO g lb (Value.int .i64) p xs (OwnB A) w) :
    Calls Try.prog 52 #[.slice A n c, .func (.func g) #[] lb] w fun e w' => e = .returned (.slice A (xs.filter fun x => !p x).length c) ∧ w'.ownsRow base t 1 (.slice A (xs.filter fun x => !p x).length c) (xs.filter fun x => !p x).length ((xs.filter fun x => !p x).flatMap intC) ∧ Only (OwnB A) w w' := by
  have hlen : xs.length = n := (Sees.of_own hO).count (by decide) (fun _ => rfl)
  have eg := hp.enters
  have HL := Lib.hid hlen
  go_enter Try.func52, Try.ntmps52
  go_wp2_with fail
  refine (IndexFunc_int g lb p A n c xs w (by rw [← flatMap_intC]; exact (Sees.of_own hO).less (Nat.zero_le _)) (by omega) hp.plain).mono ?_
  rintro e w1 ⟨r, rfl, hr, b1⟩
  have O1 := own_below hO b1
  have h1 := Only.of_below (S := OwnB A) b1
  clear b1 hlen
  rcases hr with ⟨rfl, hno⟩ | ⟨k, rfl, hk, hpk, hbefore⟩
  · have hf : (xs.filter fun x => !p x) = xs := by
      rw [List.filter_eq_self]
      intro x hx
      have := List.any_eq_false.1 hno x hx
      simpa using this
    have HF := Lib.hid hf
    clear hf hno hO
    go_wp2_with fail
    go_ret
    rw [HF.out, HL.out]
    exact ⟨rfl, O1, h1⟩
  · have hkn : k < n := by rw [← HL.out]; exact hk
    have hF0 := Lib.hid (show (xs.take (k + 1)).filter (fun x => !p x) = xs.take k by
      rw [filter_next hk, if_neg (by simp [hpk]), List.filter_eq_self]
      intro x hx
      have := List.any_eq_false.1 hbefore x hx
      simpa using this)
    rcases own_row O1 with ⟨_, h, _⟩ | ⟨blk, rest, rfl, hg, hB, hl, hnc, hm⟩
    · omega
    have hS : ∀ b, b = blk → OwnB (some ⟨blk, 0, none⟩) b := fun b h => by subst h; rfl
    have HLL := Lib.hid hl
    have hk3 : ((k : Int) == -1) = false := beq_eq_false_iff_ne.2 (by omega)
    clear hO O1 hpk hbefore hl
    go_wp2_with fail
    go_loopw [5, 6] (fun iv jv wr => ∃ (i j : Nat) (ys : List Int), iv = .int .i64 (i : Int) ∧ jv = .int .i64 (j : Int) ∧ i < j ∧ j ≤ n ∧ Hid (ys.length = n ∧ ys.take i = (xs.take j).filter (fun x => !p x) ∧ ys.drop j = xs.drop j) ∧ Blk wr blk t (ys.flatMap intC ++ rest) ∧ Only (OwnB (some ⟨blk, 0, none⟩)) w wr) (fun _ jv _ => n - (intOf jv).toNat)
    case atStart => exact ⟨k, k + 1, xs, rfl, by go_num, by omega, by omega, Lib.hid ⟨HL.out, hF0.out.symm, rfl⟩, hB, h1⟩
    case round =>
      obtain ⟨i, j, ys, rfl, rfl, hij, hj, HY, B, o⟩ := hrel
      clear hB h1
      by_cases hlt : j < n
      · have hjx : j < xs.length := by rw [HL.out]; exact hlt
        have HX := Lib.hid (filter_next (p := fun x => !p x) hjx)
        have gx0 : ys[j]? = some xs[j] := by
          have e1 := congrArg (fun l => l[0]?) HY.out.2.2
          simp only [List.getElem?_drop, Nat.add_zero] at e1
          rw [e1, List.getElem?_eq_getElem hjx]
        have HIN := Lib.hid (List.getElem_mem hjx)
        obtain ⟨x, hx⟩ : ∃ x, xs[j] = x := ⟨_, rfl⟩
        rw [hx] at gx0
        have gx := gx0
        clear gx0
        have x0 : wr.cell? ⟨blk, j, none⟩ = some (.int .i64 x) := by have h := row_cell? (enc := intC) (s := 1) (k := j) (fun _ => rfl) B gx 0 _ rfl; rwa [show j * 1 + 0 = j from Nat.mul_one j] at h
        have hblt := B.lt
        clear gx
        have B2 := B
        have o2 := o
        have HXX := Lib.hid hx
        clear B o hx
        go_wp2_with fail
        refine (hp.at' x (by rw [← HXX.out]; exact HIN.out) _ o2).mono ?_
        rintro e w3 ⟨rfl, b3⟩
        have B3 := B2.next b3
        have o3 := o2.then_ b3
        clear B2 o2 b3 x0
        cases hpx : p x
        · have hil : i < ys.length := by rw [HY.out.1]; omega
          have gz := List.getElem?_eq_getElem hil
          obtain ⟨z, hz⟩ : ∃ z, ys[i] = z := ⟨_, rfl⟩
          rw [hz] at gz
          have z0 : w3.cell? ⟨blk, i, none⟩ = some (.int .i64 z) := by have h := row_cell? (enc := intC) (s := 1) (k := i) (fun _ => rfl) B3 gz 0 _ rfl; rwa [show i * 1 + 0 = i from Nat.mul_one i] at h
          have f0 := B3.frozen i
          have HFX := Lib.hid (show (ys.set i x).length = n ∧ (ys.set i x).take (i + 1) = (xs.take (j + 1)).filter (fun x => !p x) ∧ (ys.set i x).drop (j + 1) = xs.drop (j + 1) from ⟨by rw [List.length_set]; exact HY.out.1, by rw [take_set_snoc x hil, HX.out, HXX.out, if_pos (by rw [hpx]; rfl), HY.out.2.1], by
            rw [List.drop_set_of_lt (by omega)]
            have e1 := congrArg (List.drop 1) HY.out.2.2
            simpa [List.drop_drop] using e1⟩)
          have HIL := Lib.hid hil
          have hin : i < n := by omega
          clear gz hz hil hpx
          go_wp2_with fail
          go_roundw
          case rel =>
            have B5 := Blk.many (intC x) B3 (i * 1)
            rw [row_set (enc := intC) (s := 1) (fun _ => rfl) _ _ i x HIL.out, Nat.mul_one] at B5
            exact ⟨i + 1, j + 1, ys.set i x, by go_num, by go_num, by omega, by omega, HFX, B5, Only.many (S := OwnB (some ⟨blk, 0, none⟩)) rfl (intC x) o3 i⟩
          case measure => simp [intOf]; omega
        · have HFX := Lib.hid (show ys.length = n ∧ ys.take i = (xs.take (j + 1)).filter (fun x => !p x) ∧ ys.drop (j + 1) = xs.drop (j + 1) from ⟨HY.out.1, by rw [HX.out, HXX.out, if_neg (by rw [hpx]; simp), HY.out.2.1], by
            have e1 := congrArg (List.drop 1) HY.out.2.2
            simpa [List.drop_drop] using e1⟩)
          clear hpx
          go_wp2_with fail
          go_roundw
          case rel => exact ⟨i, j + 1, ys, rfl, by go_num, by omega, by omega, HFX, B3, o3⟩
          case measure => simp [intOf]; omega
      · have hjn : j = n := by omega
        have hF : (ys.take i) = xs.filter (fun x => !p x) := by rw [HY.out.2.1, List.take_of_length_le (by rw [HL.out]; omega)]
        have hyl := HY.out.1
        have hil : (xs.filter fun x => !p x).length = i := by rw [← hF, List.length_take]; omega
        have hfl := flatMap_len (f := intC) (s := 1) ys (fun _ _ => rfl)
        have hlt2 : i * 1 + (n - i) * 1 ≤ (ys.flatMap intC ++ rest).length := by rw [List.length_append, hfl, hyl]; omega
        obtain ⟨zs, hzs, hcl⟩ := run_clear wr 22 3 _ 1 Try.underlying22 Try.zeroValue3 rfl (by decide) blk (i * 1) (n - i) (c - i) (by omega) _ t B hlt2
        rw [Nat.mul_one] at hcl
        have HF := Lib.hid hF
        have HIL := Lib.hid hil
        have hl2 := HLL.out
        rw [List.length_append, flatMap_len (f := intC) (s := 1) xs (fun _ _ => rfl), HL.out] at hl2
        have hl3 : (ys.flatMap intC ++ rest).length = c * 1 := by rw [List.length_append, hfl, hyl]; exact hl2
        have HC := Lib.hid (show (setMany (ys.flatMap intC ++ rest) i zs).length = c * 1 ∧ (setMany (ys.flatMap intC ++ rest) i zs).take (i * 1) = (ys.take i).flatMap intC from
          ⟨by rw [setMany_length]; exact hl3, by rw [Nat.mul_one, setMany_before _ _ _ (by rw [hzs]; omega)]; have h := row_take (enc := intC) (s := 1) (fun _ => rfl) ys rest i (by omega); rwa [Nat.mul_one] at h⟩)
        have hic : i ≤ c := by omega
        have hic2 : ¬ c = i := by omega
        have hin : i ≤ n := by omega
        have HM := Lib.hid hm
        clear hzs hfl hl2 hl3 hlt2 hF hyl hil hm hjn
        go_wp2_with fail
        go_ret
        rw [HIL.out, ← HF.out]
        exact ⟨rfl, own_shut hg (Blk.many zs B i) HC.out.1 hic HM.out HC.out.2, Only.many (S := OwnB (some ⟨blk, 0, none⟩)) rfl zs o i⟩

theorem DeleteFunc_int (g : Nat) (lb : Array Value) (p : Int → Bool) (base t n c : Nat) (A : Option Addr) (xs : List Int) (w : World) (hO : w.ownsRow base t 1 (.slice A n c) n (ints xs)) (hn1 : n ≤ 1000)
    (hp : AnswersO g lb (Value.int .i64) p xs (OwnB A) w) :
    Calls Try.prog 52 #[.slice A n c, .func (.func g) #[] lb] w fun e w' => e = .returned (.slice A (xs.filter fun x => !p x).length c) ∧ w'.ownsRow base t 1 (.slice A (xs.filter fun x => !p x).length c) (xs.filter fun x => !p x).length (ints (xs.filter fun x => !p x)) ∧ Only (OwnB A) w w' := by
  rw [← flatMap_intC] at hO
  have h := DeleteFunc_intC g lb p base t n c A xs w hO hn1 hp
  rw [flatMap_intC] at h
  exact h

end Go.Proofs.Ytkeffhnkhmalpaa
