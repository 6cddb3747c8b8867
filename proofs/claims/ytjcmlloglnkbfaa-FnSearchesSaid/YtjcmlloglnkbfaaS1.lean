/- Searches: LongMissing, as the program and as the reference have it. -/
import Derived.Test.YtjcmlloglnkbfaaS0
import Derived.Test.YtjcmlloglnkbfaaHelp2
namespace Go.Proofs.Ytjcmlloglnkbfaa
open Go.RowKit

def isMissingB (r s n p : Int) : Bool := inB r 1 999 && inB s 0 36000 && inB n s 36000 && decide (0 ≤ p)

theorem isMissing'_any (r s n p : Int) (w : World) : Calls Try.prog 61 #[.agg #[.int .i64 r, .int .i64 s, .int .i64 n, .int .i64 p]] w fun e w' => e = .returned (.bool (isMissingB r s n p)) ∧ Below w.heap.size w w' := by
  go_enter Try.func61, Try.ntmps61
  go_wp2_with (first
    | (go_at_call 67; refine (inside_any _ _ _ _).mono ?_; rintro e w' ⟨rfl, rfl⟩)
    | (go_at_call 73; refine (isTime_any _ _).mono ?_; rintro e w' ⟨rfl, rfl⟩)
    | (go_at_call 102; refine (isRunnerNumber_any _ _).mono ?_; rintro e w' ⟨rfl, rfl⟩))
  all_goals go_ret
  all_goals exact ⟨ret_bool (by simp [isMissingB, *]), (Below.refl _ _).alloc (Nat.le_refl _) _⟩
theorem l23Who_any (r s n p : Int) (w : World) : Calls Try.prog 72 #[.agg #[.int .i64 r, .int .i64 s, .int .i64 n, .int .i64 p]] w fun e w' => e = .returned (.bool (isMissingB r s n p)) ∧ Below w.heap.size w w' := by
  go_enter Try.func72, Try.ntmps72
  go_wp2_with (first
    | (go_at_call 64; refine (l1In_any _ _ _ _).mono ?_; rintro e w' ⟨rfl, rfl⟩)
    | (go_at_call 71; refine (l12Time_any _ _).mono ?_; rintro e w' ⟨rfl, rfl⟩))
  all_goals go_ret
  all_goals exact ⟨ret_bool (by rw [Bool.eq_iff_iff]; simp [isMissingB, inB] at * <;> omega), (Below.refl _ _).alloc (Nat.le_refl _) _⟩

/-- Both LongMissings, from what is left of the list on. -/
def longGo (time limit : Int) : List Missing → List Int → Option (List Int)
  | [], out => some out
  | x :: l, out => if isMissingB x.runner x.start x.seen x.place && decide (x.seen ≤ time) then longGo time limit l (if limit < time - x.start then out ++ [x.runner] else out) else none
def longMissing (time limit : Int) (l : List Missing) : Option (List Int) :=
  if decide (l.length ≤ 20) && inB time 0 36000 && inB limit 600 36000 then longGo time limit l [] else none
theorem longGo_len (time limit : Int) : ∀ (l : List Missing) (out r : List Int), longGo time limit l out = some r → r.length ≤ out.length + l.length
  | [], out, r, h => by injection h with h; subst h; simp
  | x :: l, out, r, h => by
    rw [longGo] at h
    split at h
    · have := longGo_len time limit l _ _ h
      split at this <;> simp at this ⊢ <;> omega
    · cases h

set_option maxRecDepth 100000 in
theorem LongMissing_any (A : Option Addr) (n c : Nat) (xs : List Missing) (time limit : Int) (w : World) (hx : Sees w 0 4 A n (xs.flatMap Missing.enc)) (hn : n ≤ 1048576) :
    Calls Try.prog 29 #[.slice A n c, .int .i64 time, .int .i64 limit] w (GivesInts w (longMissing time limit xs)) := by
  have hl := hx.count (by decide) (fun _ => rfl)
  by_cases h1 : n ≤ 20
  · cases h2 : inB time 0 36000
    · rw [show longMissing time limit xs = none by simp [longMissing, h2]]
      go_enter Try.func29, Try.ntmps29
      go_wp2_with (first | (go_at_call 67; refine (inside_any _ _ _ _).mono ?_; rintro e w' ⟨rfl, rfl⟩) | (go_at_call 73; refine (isTime_any _ _).mono ?_; rintro e w' ⟨rfl, rfl⟩))
      go_ret2
      exact gives_nil (Below.refl _ _)
    · cases h3 : inB limit 600 36000
      · rw [show longMissing time limit xs = none by simp [longMissing, h3]]
        go_enter Try.func29, Try.ntmps29
        go_wp2_with (first | (go_at_call 67; refine (inside_any _ _ _ _).mono ?_; rintro e w' ⟨rfl, rfl⟩) | (go_at_call 73; refine (isTime_any _ _).mono ?_; rintro e w' ⟨rfl, rfl⟩))
        go_ret2
        exact gives_nil (Below.refl _ _)
      · have hR : longMissing time limit xs = longGo time limit xs [] := by simp [longMissing, h2, h3, hl, h1]
        rw [hR]
        generalize hG : longGo time limit xs [] = R
        have HG := Lib.hid hG
        clear hR hG
        have ht := inB_true h2
        have hli := inB_true h3
        go_enter Try.func29, Try.ntmps29
        go_wp2_with (first | (go_at_call 67; refine (inside_any _ _ _ _).mono ?_; rintro e w' ⟨rfl, rfl⟩) | (go_at_call 73; refine (isTime_any _ _).mono ?_; rintro e w' ⟨rfl, rfl⟩))
        have hown0 := own_empty w 3 1
        have hb0 : Below w.heap.size w (w.alloc (.cells #[] 3)) := (Below.refl _ _).alloc (Nat.le_refl _) _
        go_loopw [8, 27] (fun v i wr => ∃ (k : Nat) (out : List Int) (A' : Option Addr) (c' : Nat), k ≤ n ∧ i = .int .i64 k ∧ v = .slice A' out.length c' ∧ wr.ownsRow w.heap.size 3 1 (.slice A' out.length c') out.length (ints out) ∧ out.length ≤ k ∧ Hid (longGo time limit (xs.drop k) out = R) ∧ Below w.heap.size w wr) (fun _ i _ => n - (intOf i).toNat)
        case atStart => exact ⟨0, [], _, _, Nat.zero_le _, rfl, rfl, hown0, Nat.le_refl _, HG, hb0⟩
        case round =>
          obtain ⟨k, out, A', c', hk, rfl, rfl, hown, hlo, HGk, hb⟩ := hrel
          by_cases hlt : k < n
          · obtain ⟨b, off, rfl, hkx, x0, x1, x2, x3⟩ := (hx.next hb).elem4 (fun _ => rfl) hlt
            have HG' : Hid (longGo time limit (xs[k] :: xs.drop (k + 1)) out = R) := by
              have h := HGk.out
              rw [List.drop_eq_getElem_cons hkx] at h
              exact h
            clear HG HGk
            cases hm : isMissingB xs[k].runner xs[k].start xs[k].seen xs[k].place
            · go_wp2_with (go_at_call 61; refine (isMissing'_any _ _ _ _ _).mono ?_; rintro e w1 ⟨rfl, hb1⟩; obtain ⟨hc1, hf1⟩ := bcell hb1; have hz1 := hb1.size; simp only [World.size_alloc] at hz1)
              go_ret2
              have hR := HG'.out
              rw [longGo, hm] at hR
              simp only [Bool.false_and, Bool.false_eq_true, if_false] at hR
              subst hR
              exact gives_nil (bel_then (hb.alloc hb.size _) hb1)
            · have hs : inB xs[k].start 0 36000 = true := by simp [isMissingB] at hm; exact hm.1.1.2
              have hs2 := inB_true hs
              by_cases hts : time < xs[k].seen
              · go_wp2_with (go_at_call 61; refine (isMissing'_any _ _ _ _ _).mono ?_; rintro e w1 ⟨rfl, hb1⟩; obtain ⟨hc1, hf1⟩ := bcell hb1; have hz1 := hb1.size; simp only [World.size_alloc] at hz1)
                go_ret2
                have hR := HG'.out
                rw [longGo, hm, decide_eq_false (by omega)] at hR
                simp only [Bool.and_false, Bool.false_eq_true, if_false] at hR
                subst hR
                exact gives_nil (bel_then (hb.alloc hb.size _) hb1)
              · have HG2 : Hid (longGo time limit (xs.drop (k + 1)) (if limit < time - xs[k].start then out ++ [xs[k].runner] else out) = R) := by
                  have h := HG'.out
                  rw [longGo, hm, decide_eq_true (by omega)] at h
                  exact h
                clear HG'
                by_cases hlim : limit < time - xs[k].start
                · rw [if_pos hlim] at HG2
                  go_wp2_with (first | (go_at_call 61; refine (isMissing'_any _ _ _ _ _).mono ?_; rintro e w1 ⟨rfl, hb1⟩; obtain ⟨hc1, hf1⟩ := bcell hb1; have hz1 := hb1.size; simp only [World.size_alloc] at hz1) | (at_builtin; go_loud (refine wpList_push rfl _ _ _ rfl Try.underlying22 info_int rfl (by decide) rfl (own_alloc (own_below (own_alloc hown _) hb1) _) rfl (heap_alloc_new _ _) rfl rfl (by omega) (by decide) (by have := hb.size; simp; omega) ?_); intro A2 c2 w2 hown2 hg2 hbb2))
                  go_roundw
                  case rel => exact ⟨k + 1, out ++ [xs[k].runner], A2, c2, by omega, by go_num, by simp, by simpa [ints] using hown2, by simp; omega, HG2, ((bel_then (hb.alloc hb.size _) hb1).alloc (bel_then (hb.alloc hb.size _) hb1).size _).trans hbb2⟩
                  case measure => simp [intOf]; omega
                · rw [if_neg hlim] at HG2
                  go_wp2_with (go_at_call 61; refine (isMissing'_any _ _ _ _ _).mono ?_; rintro e w1 ⟨rfl, hb1⟩; obtain ⟨hc1, hf1⟩ := bcell hb1; have hz1 := hb1.size; simp only [World.size_alloc] at hz1)
                  go_roundw
                  case rel => exact ⟨k + 1, out, _, _, by omega, by go_num, rfl, own_below (own_alloc hown _) hb1, by omega, HG2, bel_then (hb.alloc hb.size _) hb1⟩
                  case measure => simp [intOf]; omega
          · go_wp2
            go_ret2
            have hR := HGk.out
            rw [List.drop_of_length_le (by omega), longGo] at hR
            subst hR
            exact ⟨_, _, rfl, hown, hb⟩
  · rw [show longMissing time limit xs = none by simp [longMissing, hl, h1]]
    go_enter Try.func29, Try.ntmps29
    go_wp2_with (first | (go_at_call 67; refine (inside_any _ _ _ _).mono ?_; rintro e w' ⟨rfl, rfl⟩) | (go_at_call 73; refine (isTime_any _ _).mono ?_; rintro e w' ⟨rfl, rfl⟩))
    go_ret2
    exact gives_nil (Below.refl _ _)

set_option maxRecDepth 100000 in
theorem specLongMissing_any (A : Option Addr) (n c : Nat) (xs : List Missing) (time limit : Int) (w : World) (hx : Sees w 0 4 A n (xs.flatMap Missing.enc)) (hn : n ≤ 1048576) :
    Calls Try.prog 27 #[.slice A n c, .int .i64 time, .int .i64 limit] w (GivesInts w (longMissing time limit xs)) := by
  have hl := hx.count (by decide) (fun _ => rfl)
  by_cases h1 : n ≤ 20
  · cases h2 : inB time 0 36000
    · rw [show longMissing time limit xs = none by simp [longMissing, h2]]
      go_enter Try.func27, Try.ntmps27
      go_wp2_with (first | (go_at_call 64; refine (l1In_any _ _ _ _).mono ?_; rintro e w' ⟨rfl, rfl⟩) | (go_at_call 71; refine (l12Time_any _ _).mono ?_; rintro e w' ⟨rfl, rfl⟩))
      go_ret2
      exact gives_empty w (Below.refl _ _)
    · cases h3 : inB limit 600 36000
      · rw [show longMissing time limit xs = none by simp [longMissing, h3]]
        go_enter Try.func27, Try.ntmps27
        go_wp2_with (first | (go_at_call 64; refine (l1In_any _ _ _ _).mono ?_; rintro e w' ⟨rfl, rfl⟩) | (go_at_call 71; refine (l12Time_any _ _).mono ?_; rintro e w' ⟨rfl, rfl⟩))
        go_ret2
        exact gives_empty w (Below.refl _ _)
      · have hR : longMissing time limit xs = longGo time limit xs [] := by simp [longMissing, h2, h3, hl, h1]
        rw [hR]
        generalize hG : longGo time limit xs [] = R
        have HG := Lib.hid hG
        clear hR hG
        have ht := inB_true h2
        have hli := inB_true h3
        go_enter Try.func27, Try.ntmps27
        go_wp2_with (first | (go_at_call 64; refine (l1In_any _ _ _ _).mono ?_; rintro e w' ⟨rfl, rfl⟩) | (go_at_call 71; refine (l12Time_any _ _).mono ?_; rintro e w' ⟨rfl, rfl⟩))
        have hown0 := own_empty w 3 1
        have hb0 : Below w.heap.size w (w.alloc (.cells #[] 3)) := (Below.refl _ _).alloc (Nat.le_refl _) _
        go_loopw [8, 9] (fun v i wr => ∃ (k : Nat) (out : List Int) (A' : Option Addr) (c' : Nat), k ≤ n ∧ i = .int .i64 k ∧ v = .slice A' out.length c' ∧ wr.ownsRow w.heap.size 3 1 (.slice A' out.length c') out.length (ints out) ∧ out.length ≤ k ∧ Hid (longGo time limit (xs.drop k) out = R) ∧ Below w.heap.size w wr) (fun _ i _ => n - (intOf i).toNat)
        case atStart => exact ⟨0, [], _, _, Nat.zero_le _, rfl, rfl, hown0, Nat.le_refl _, HG, hb0⟩
        case round =>
          obtain ⟨k, out, A', c', hk, rfl, rfl, hown, hlo, HGk, hb⟩ := hrel
          by_cases hlt : k < n
          · obtain ⟨b, off, rfl, hkx, x0, x1, x2, x3⟩ := (hx.next hb).elem4 (fun _ => rfl) hlt
            have hblt : b < wr.heap.size := World.block_lt_of_cell? wr _ x0
            have HG' : Hid (longGo time limit (xs[k] :: xs.drop (k + 1)) out = R) := by
              have h := HGk.out
              rw [List.drop_eq_getElem_cons hkx] at h
              exact h
            clear HG HGk
            cases hm : isMissingB xs[k].runner xs[k].start xs[k].seen xs[k].place
            · go_wp2_with (go_at_call 72; refine (l23Who_any _ _ _ _ _).mono ?_; rintro e w1 ⟨rfl, hb1⟩; obtain ⟨hc1, hf1⟩ := bcell hb1; have hz1 := hb1.size)
              go_ret2
              have hR := HG'.out
              rw [longGo, hm] at hR
              simp only [Bool.false_and, Bool.false_eq_true, if_false] at hR
              subst hR
              exact gives_empty _ (bel_then hb hb1)
            · have hs : inB xs[k].start 0 36000 = true := by simp [isMissingB] at hm; exact hm.1.1.2
              have hs2 := inB_true hs
              by_cases hts : time < xs[k].seen
              · go_wp2_with (go_at_call 72; refine (l23Who_any _ _ _ _ _).mono ?_; rintro e w1 ⟨rfl, hb1⟩; obtain ⟨hc1, hf1⟩ := bcell hb1; have hz1 := hb1.size)
                go_ret2
                have hR := HG'.out
                rw [longGo, hm, decide_eq_false (by omega)] at hR
                simp only [Bool.and_false, Bool.false_eq_true, if_false] at hR
                subst hR
                exact gives_empty _ (bel_then hb hb1)
              · have HG2 : Hid (longGo time limit (xs.drop (k + 1)) (if limit < time - xs[k].start then out ++ [xs[k].runner] else out) = R) := by
                  have h := HG'.out
                  rw [longGo, hm, decide_eq_true (by omega)] at h
                  exact h
                clear HG'
                by_cases hlim : limit < time - xs[k].start
                · rw [if_pos hlim] at HG2
                  go_wp2_with (first | (go_at_call 72; refine (l23Who_any _ _ _ _ _).mono ?_; rintro e w1 ⟨rfl, hb1⟩; obtain ⟨hc1, hf1⟩ := bcell hb1; have hz1 := hb1.size) | (at_builtin; refine wpList_push rfl _ _ _ rfl Try.underlying22 info_int rfl (by decide) rfl (own_alloc (own_below hown hb1) _) rfl (heap_alloc_new _ _) rfl rfl (by omega) (by decide) (by have := hb.size; simp; omega) ?_; intro A2 c2 w2 hown2 hg2 hbb2))
                  go_roundw
                  case rel => exact ⟨k + 1, out ++ [xs[k].runner], A2, c2, by omega, by go_num, by simp, by simpa [ints] using hown2, by simp; omega, HG2, ((bel_then hb hb1).alloc (bel_then hb hb1).size _).trans hbb2⟩
                  case measure => simp [intOf]; omega
                · rw [if_neg hlim] at HG2
                  go_wp2_with (go_at_call 72; refine (l23Who_any _ _ _ _ _).mono ?_; rintro e w1 ⟨rfl, hb1⟩; obtain ⟨hc1, hf1⟩ := bcell hb1; have hz1 := hb1.size)
                  go_roundw
                  case rel => exact ⟨k + 1, out, _, _, by omega, by go_num, rfl, own_below hown hb1, by omega, HG2, bel_then hb hb1⟩
                  case measure => simp [intOf]; omega
          · go_wp2
            go_ret2
            have hR := HGk.out
            rw [List.drop_of_length_le (by omega), longGo] at hR
            subst hR
            exact ⟨_, _, rfl, hown, hb⟩
  · rw [show longMissing time limit xs = none by simp [longMissing, hl, h1]]
    go_enter Try.func27, Try.ntmps27
    go_wp2_with (first | (go_at_call 64; refine (l1In_any _ _ _ _).mono ?_; rintro e w' ⟨rfl, rfl⟩) | (go_at_call 71; refine (l12Time_any _ _).mono ?_; rintro e w' ⟨rfl, rfl⟩))
    go_ret2
    exact gives_empty w (Below.refl _ _)

end Go.Proofs.Ytjcmlloglnkbfaa
