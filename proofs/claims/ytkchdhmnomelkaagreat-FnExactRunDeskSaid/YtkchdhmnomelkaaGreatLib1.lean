/- slices.IndexFunc, ContainsFunc, Index, Contains at []int. -/
import Derived.Test.YtkchdhmnomelkaaGreatHelp1
namespace Go.Proofs.YtkchdhmnomelkaaGreat
open Go.RowKit

/-- The function value answers p at each element, in every later world. -/
structure Answers {α : Type} (g : Nat) (lb : Array Value) (enc : α → Value) (p : α → Bool) (xs : List α) (w : World) : Prop where
  enters : ∀ args w, (callFunc g args).run Tryz.prog w = .ok (.enter g args) w
  at' : ∀ (i : Nat) (hi : i < xs.length) (W : World), Below w.heap.size w W → Calls Tryz.prog g (#[enc xs[i]] ++ lb) W fun e W' => e = .returned (.bool (p xs[i])) ∧ Below W.heap.size W W'
/-- The first place at which p holds, or -1. -/
def FirstAt {α : Type} (p : α → Bool) (xs : List α) (r : Int) : Prop :=
  (r = -1 ∧ xs.any p = false) ∨ ∃ k : Nat, r = k ∧ ∃ hk : k < xs.length, p xs[k] = true ∧ (xs.take k).any p = false
theorem any_take_succ {α : Type} {p : α → Bool} {xs : List α} {k : Nat} (hk : k < xs.length) (h : (xs.take k).any p = false) (hp : p xs[k] = false) : (xs.take (k + 1)).any p = false := by
  rw [List.take_succ_eq_append_getElem hk, List.any_append, h]
  simp [hp]
theorem FirstAt.any {α : Type} {p : α → Bool} {xs : List α} {r : Int} (h : FirstAt p xs r) : decide (0 ≤ r) = xs.any p := by
  rcases h with ⟨rfl, h⟩ | ⟨k, rfl, hk, hp, _⟩
  · rw [h]; rfl
  · rw [decide_eq_true (by omega), eq_comm, List.any_eq_true]
    exact ⟨_, List.getElem_mem hk, hp⟩

set_option maxRecDepth 100000 in
theorem IndexFunc_int (g : Nat) (lb : Array Value) (p : Int → Bool) (A : Option Addr) (n c : Nat) (xs : List Int) (w : World) (hx : Sees w 0 1 A n (ints xs)) (hn : n ≤ 140737488355328) (hp : Answers g lb (.int .i64) p xs w) :
    Calls Tryz.prog 101 #[.slice A n c, .func (.func g) #[] lb] w fun e w' => ∃ r, e = .returned (.int .i64 r) ∧ FirstAt p xs r ∧ Below w.heap.size w w' := by
  have hl := hx.icount
  have eg := hp.enters
  go_enter Tryz.func101, Tryz.ntmps101
  go_wp2_with fail
  go_loopw [8] (fun v wr => ∃ k : Nat, k ≤ n ∧ v = .int .i64 k ∧ Hid ((xs.take k).any p = false) ∧ Below w.heap.size w wr) (fun v _ => n - (intOf v).toNat)
  case atStart => exact ⟨0, Nat.zero_le _, rfl, by simp [Hid], Below.refl _ _⟩
  case round =>
    obtain ⟨k, hk, rfl, ht, hb⟩ := hrel
    by_cases hlt : k < n
    · obtain ⟨b, off, rfl, hkx, hcx⟩ := (hx.next hb).int hlt
      go_wp2_with fail
      refine (hp.at' k hkx _ hb).mono ?_
      cases hpk : p xs[k]
      · rintro e w1 ⟨rfl, b1⟩
        go_wp2_with fail
        go_roundw
        case rel => exact ⟨k + 1, by omega, by go_num, any_take_succ hkx ht.out hpk, bel_then hb b1⟩
        case measure => simp [intOf]; omega
      · rintro e w1 ⟨rfl, b1⟩
        go_wp2_with fail
        go_ret
        exact ⟨_, rfl, .inr ⟨k, rfl, hkx, hpk, ht.out⟩, bel_then hb b1⟩
    · go_wp2_with fail
      go_ret
      have h := ht.out
      rw [List.take_of_length_le (by omega)] at h
      exact ⟨_, rfl, .inl ⟨rfl, h⟩, hb⟩

theorem ContainsFunc_int (g : Nat) (lb : Array Value) (p : Int → Bool) (A : Option Addr) (n c : Nat) (xs : List Int) (w : World) (hx : Sees w 0 1 A n (ints xs)) (hn : n ≤ 140737488355328) (hp : Answers g lb (.int .i64) p xs w) :
    Calls Tryz.prog 87 #[.slice A n c, .func (.func g) #[] lb] w fun e w' => e = .returned (.bool (xs.any p)) ∧ Below w.heap.size w w' := by
  go_enter Tryz.func87, Tryz.ntmps87
  go_wp2_with fail
  refine (IndexFunc_int g lb p A n c xs w hx hn hp).mono ?_
  rintro e w1 ⟨r, rfl, hr, b1⟩
  have hany := Lib.hid hr.any
  go_wp2_with fail
  all_goals go_ret
  all_goals exact ⟨ret_bool hany.out, b1⟩

/-- Go's slices.Contains at []int, by its own Index. -/
theorem Index_int (A : Option Addr) (n c : Nat) (xs : List Int) (v0 : Int) (w : World) (hx : Sees w 0 1 A n (ints xs)) (hn : n ≤ 140737488355328) :
    Calls Tryz.prog 93 #[.slice A n c, .int .i64 v0] w fun e w' => ∃ r, e = .returned (.int .i64 r) ∧ FirstAt (fun x => decide (v0 = x)) xs r ∧ Quiet w w' := by
  have hl := hx.icount
  go_enter Tryz.func93, Tryz.ntmps93
  go_wp2_with fail
  go_loopw [8] (fun v wr => ∃ k : Nat, k ≤ n ∧ v = .int .i64 k ∧ Hid ((xs.take k).any (fun x => decide (v0 = x)) = false) ∧ Quiet w wr) (fun v _ => n - (intOf v).toNat)
  case atStart => exact ⟨0, Nat.zero_le _, rfl, by simp [Hid], Quiet.refl _⟩
  case round =>
    obtain ⟨k, hk, rfl, ht, hq⟩ := hrel
    by_cases hlt : k < n
    · obtain ⟨b, off, rfl, hkx, hcx⟩ := (hx.quiet hq).int hlt
      by_cases hv : v0 = xs[k]
      · have hv' : (v0 == xs[k]) = true := by simp [hv]
        have HV := Lib.hid hv
        clear hv
        go_wp2_with fail
        go_ret
        exact ⟨_, rfl, .inr ⟨k, rfl, hkx, by simp [HV.out], ht.out⟩, hq⟩
      · have hv' : (v0 == xs[k]) = false := by simp [hv]
        go_wp2_with fail
        go_roundw
        case rel => exact ⟨k + 1, by omega, by go_num, any_take_succ hkx ht.out (by simp [hv]), hq⟩
        case measure => simp [intOf]; omega
    · go_wp2_with fail
      go_ret
      have h := ht.out
      rw [List.take_of_length_le (by omega)] at h
      exact ⟨_, rfl, .inl ⟨rfl, h⟩, hq⟩
theorem Contains_int (A : Option Addr) (n c : Nat) (xs : List Int) (v : Int) (w : World) (hx : Sees w 0 1 A n (ints xs)) (hn : n ≤ 140737488355328) :
    Calls Tryz.prog 68 #[.slice A n c, .int .i64 v] w fun e w' => e = .returned (.bool (xs.any fun x => decide (v = x))) ∧ Quiet w w' := by
  go_enter Tryz.func68, Tryz.ntmps68
  go_wp2_with fail
  refine (Index_int A n c xs v w hx hn).mono ?_
  rintro e w1 ⟨r, rfl, hr, q1⟩
  have hany := Lib.hid hr.any
  go_wp2_with fail
  all_goals go_ret
  all_goals exact ⟨ret_bool hany.out, q1⟩

end Go.Proofs.YtkchdhmnomelkaaGreat
