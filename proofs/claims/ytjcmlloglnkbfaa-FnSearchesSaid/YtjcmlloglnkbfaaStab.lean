/- The library's stable sort, at sectors. -/
import Derived.Test.YtjcmlloglnkbfaaStabM
import Derived.Lib.SliceRun
namespace Go.Proofs.Ytjcmlloglnkbfaa
open Go.RowKit

section
variable {α : Type} {R C : α → α → Prop}
theorem sortedIn_app {l r : List α} {n : Nat} (hl : l.Pairwise R) (hr : r.Pairwise R) (hc : ∀ x ∈ l, ∀ y ∈ r, C x y) (hn : (l ++ r).length = n) : Ready R C (l ++ r) 0 l.length n := by
  rw [List.length_append] at hn
  have gl : ∀ {i : Nat} {x : α}, i < l.length → (l ++ r)[i]? = some x → l[i]? = some x := fun h hx => by rwa [List.getElem?_append_left h] at hx
  have gr : ∀ {i : Nat} {x : α}, l.length ≤ i → (l ++ r)[i]? = some x → r[i - l.length]? = some x := fun h hx => by rwa [List.getElem?_append_right h] at hx
  have pw : ∀ {z : List α} (_ : z.Pairwise R) {i j : Nat} {x y : α}, i < j → z[i]? = some x → z[j]? = some y → R x y := fun hz i j x y hij hx hy => by
    obtain ⟨h1, rfl⟩ := List.getElem?_eq_some_iff.1 hx
    obtain ⟨h2, rfl⟩ := List.getElem?_eq_some_iff.1 hy
    exact List.pairwise_iff_getElem.1 hz _ _ h1 h2 hij
  refine ⟨fun i j x y _ c2 c3 hx hy => pw hl c2 (gl (by omega) hx) (gl c3 hy), fun i j x y c1 c2 c3 hx hy => pw hr (by omega) (gr c1 hx) (gr (by omega) hy), fun i j x y _ c2 c3 _ hx hy => ?_⟩
  exact hc x (List.mem_of_getElem? (gl c2 hx)) y (List.mem_of_getElem? (gr c3 hy))
end
/-- Two sorted pieces, as the library's first step leaves them. -/
theorem two_pieces (lt : Sector → Sector → Bool) (xs : List Sector) (n : Nat) (hn : xs.length = n) (h : 20 ≤ n) : rowISector lt (rowISector lt xs 0 20) 20 n = sortR lt (xs.take 20) ++ sortR lt (xs.drop 20) := by
  have e1 : rowISector lt xs 0 20 = sortR lt (xs.take 20) ++ xs.drop 20 := by unfold rowISector; simp
  have hl : (sortR lt (xs.take 20)).length = 20 := by rw [sortR_length, List.length_take]; omega
  rw [e1]
  unfold rowISector
  have e2 : (xs.drop 20).take (n - 20) = xs.drop 20 := List.take_of_length_le (by rw [List.length_drop]; omega)
  have e3 : (sortR lt (xs.take 20) ++ xs.drop 20).drop n = [] := List.drop_of_length_le (by rw [List.length_append, hl, List.length_drop]; omega)
  rw [List.take_left' hl, List.drop_left' hl, e2, e3, List.append_nil]
theorem one_piece (lt : Sector → Sector → Bool) (xs : List Sector) (n : Nat) (hn : xs.length = n) : rowISector lt xs 0 n = sortR lt xs := by
  unfold rowISector
  rw [List.take_zero, List.nil_append, List.drop_zero, Nat.sub_zero, List.take_of_length_le (by omega), List.drop_of_length_le (by omega), List.append_nil]

set_option maxRecDepth 100000 in
set_option maxHeartbeats 8000000 in
theorem stable_Sector (g : Nat) (lb : Array Value) (cf : Sector → Sector → Int) (D : Sector → Prop) (R C : Sector → Sector → Prop) (hc : Compares g lb (fun x : Sector => .agg x.enc.toArray) cf D) (ht : ∀ x y z, R x y → R y z → R x z) (hR : ∀ x y, R x y → ¬ R y x) (hRC : ∀ x y, C x y → (ltOf' cf y x = true → R y x) ∧ (ltOf' cf y x = false → R x y)) (blk c n : Nat) (t : TypeId) (xs : List Sector) (rest : List Value) (w : World) (hB : Blk w blk t (xs.flatMap Sector.enc ++ rest)) (hn : xs.length = n) (hn2 : n ≤ 36) (hD : ∀ x ∈ xs, D x) (hC : xs.Pairwise C) :
    Calls Try.prog 110 #[.slice (some ⟨blk, 0, none⟩) n c, .int .i64 (n : Int), .func (.func g) #[] lb] w (GivesRow w blk t rest fun ys => ys = sortR (ltOf' cf) xs) := by
  have HN := Lib.hid hn
  have HD := Lib.hid hD
  have HC := Lib.hid hC
  have hs : ∀ l : List Sector, l.Pairwise C → (sortR (ltOf' cf) l).Pairwise R := fun l hl => sortR_sorted ht hRC _ l rfl hl
  have HS := Lib.hid hs
  clear hn hD hC hs
  by_cases h20 : n < 20
  · have hk1 : ¬ (20 : Int) ≤ (n : Int) := by omega
    have hk2 : ¬ (20 : Int) < (n : Int) := by omega
    go_enter Try.func110, Try.ntmps110
    go_wp2_with fail
    refine wp_loop_rounds 1 ?_
    rw [rounds_succ]
    go_wp2_with fail
    refine (insertionSort_Sector g lb cf D blk c n t xs rest 0 n w hB HN.out (by omega) (Nat.zero_le _) (Nat.le_refl _) hc HD.out).mono ?_
    rintro e w1 ⟨rfl, B1, o1⟩
    rw [one_piece _ _ _ HN.out] at B1
    go_wp2_with fail
    refine wp_loop_rounds 1 ?_
    rw [rounds_succ]
    go_wp2_with fail
    go_end0
    exact ⟨rfl, _, B1, rfl, o1⟩
  · have hk1 : (20 : Int) ≤ (n : Int) := by omega
    have hk3 : ¬ (40 : Int) ≤ (n : Int) := by omega
    have hk4 : ¬ (40 : Int) < (n : Int) := by omega
    have h20' : 20 ≤ n := by omega
    go_enter Try.func110, Try.ntmps110
    go_wp2_with fail
    refine wp_loop_rounds 2 ?_
    rw [rounds_succ]
    go_wp2_with fail
    refine (insertionSort_Sector g lb cf D blk c n t xs rest 0 20 w hB HN.out (by omega) (Nat.zero_le _) h20' hc HD.out).mono ?_
    rintro e w1 ⟨rfl, B1, o1⟩
    have hl1 : (rowISector (ltOf' cf) xs 0 20).length = n := by unfold rowISector; simp [sortR_length]; have := HN.out; omega
    have hd1 : ∀ x ∈ rowISector (ltOf' cf) xs 0 20, D x := fun x hx => HD.out x (by
      unfold rowISector at hx
      rcases List.mem_append.1 hx with hx | hx
      · rcases List.mem_append.1 hx with hx | hx
        · exact List.mem_of_mem_take hx
        · exact List.mem_of_mem_drop (List.mem_of_mem_take ((sortR_mem _).1 hx))
      · exact List.mem_of_mem_drop hx)
    have HL1 := Lib.hid hl1
    have HD1 := Lib.hid hd1
    clear hl1 hd1
    go_wp2_with fail
    rw [rounds_succ]
    go_wp2_with fail
    refine (insertionSort_Sector g lb cf D blk c n t (rowISector (ltOf' cf) xs 0 20) rest 20 n w1 B1 HL1.out (by omega) h20' (Nat.le_refl _) hc HD1.out).mono ?_
    rintro e w2 ⟨rfl, B2, o2⟩
    rw [two_pieces _ _ _ HN.out h20'] at B2
    have HP := Lib.hid (show (sortR (ltOf' cf) (xs.take 20) ++ sortR (ltOf' cf) (xs.drop 20)).Perm xs by
      refine ((sortR_perm _ _).append (sortR_perm _ _)).trans ?_
      rw [List.take_append_drop])
    have HRD := Lib.hid (show Ready R C (sortR (ltOf' cf) (xs.take 20) ++ sortR (ltOf' cf) (xs.drop 20)) 0 20 n by
      have hl : (sortR (ltOf' cf) (xs.take 20)).length = 20 := by rw [sortR_length, List.length_take]; have := HN.out; omega
      have h1 := sortedIn_app (C := C) (HS.out _ (HC.out.sublist (List.take_sublist 20 _))) (HS.out _ (HC.out.sublist (List.drop_sublist 20 _))) (fun x hx y hy => by
        have h2 := HC.out
        rw [← List.take_append_drop 20 xs, List.pairwise_append] at h2
        exact h2.2.2 x ((sortR_mem _).1 hx) y ((sortR_mem _).1 hy)) (HP.out.length_eq.trans HN.out)
      rw [hl] at h1
      exact h1)
    have HFIN := Lib.hid (fun (ys : List Sector) (hp : ys.Perm xs) (hs : SortedIn R ys 0 n) => (sorted_unique (R := R) (hp.trans (sortR_perm (ltOf' cf) xs).symm) hR (pairwise_of (by rw [hp.length_eq.trans HN.out]; exact hs)) (HS.out xs HC.out) : ys = sortR (ltOf' cf) xs))
    have o12 := o1.trans o2
    clear B1 o1 o2
    by_cases h21 : 20 < n
    · have hk5 : (20 : Int) < (n : Int) := by omega
      go_wp2_with fail
      refine wp_loop_rounds 2 ?_
      rw [rounds_succ]
      go_wp2_with fail
      refine wp_loop_rounds 1 ?_
      rw [rounds_succ]
      go_wp2_with fail
      refine (symMerge_Sector g lb cf D R C hc ht hRC blk c n t rest (by omega) n 0 20 n _ w2 (by omega) B2 (HP.out.length_eq.trans HN.out) (by decide) h21 (Nat.le_refl _) HRD.out (fun x hx => HD.out x (HP.out.mem_iff.1 hx))).mono ?_
      rintro e w3 ⟨rfl, ys, B3, hM, o3⟩
      have HY := Lib.hid (HFIN.out ys (hM.perm.trans HP.out) hM.sorted)
      clear hM
      go_wp2_with fail
      rw [rounds_succ]
      go_wp2_with fail
      go_end0
      exact ⟨rfl, ys, B3, HY.out, o12.trans o3⟩
    · have hk5 : ¬ (20 : Int) < (n : Int) := by omega
      have HY := Lib.hid (HFIN.out _ HP.out (HRD.out.empty_right (by omega)))
      go_wp2_with fail
      refine wp_loop_rounds 1 ?_
      rw [rounds_succ]
      go_wp2_with fail
      go_end0
      exact ⟨rfl, _, B2, HY.out, o12⟩

set_option maxRecDepth 100000 in
theorem SortStable_Sector (g : Nat) (lb : Array Value) (cf : Sector → Sector → Int) (D : Sector → Prop) (R C : Sector → Sector → Prop) (hc : Compares g lb (fun x : Sector => .agg x.enc.toArray) cf D) (ht : ∀ x y z, R x y → R y z → R x z) (hR : ∀ x y, R x y → ¬ R y x) (hRC : ∀ x y, C x y → (ltOf' cf y x = true → R y x) ∧ (ltOf' cf y x = false → R x y)) (blk c n : Nat) (t : TypeId) (xs : List Sector) (rest : List Value) (w : World) (hB : Blk w blk t (xs.flatMap Sector.enc ++ rest)) (hn : xs.length = n) (hn2 : n ≤ 36) (hD : ∀ x ∈ xs, D x) (hC : xs.Pairwise C) :
    Calls Try.prog 89 #[.slice (some ⟨blk, 0, none⟩) n c, .func (.func g) #[] lb] w (GivesRow w blk t rest fun ys => ys = sortR (ltOf' cf) xs) := by
  have CC := Lib.hid (stable_Sector g lb cf D R C hc ht hR hRC blk c n t xs rest w hB hn hn2 hD hC)
  have hlen := hn2
  clear hc ht hR hRC hB hn hD hC hn2
  go_enter Try.func89, Try.ntmps89
  go_wp2_with fail
  refine CC.out.mono ?_
  rintro e w1 ⟨rfl, h1⟩
  go_wp2_with fail
  go_end0
  exact ⟨rfl, h1⟩

theorem sec_all (xs : List Sector) : (xs.flatMap Sector.enc).all Value.oneCell' = true := by
  rw [List.all_eq_true]
  intro u hu
  obtain ⟨x, _, hx⟩ := List.mem_flatMap.1 hu
  simp only [Sector.enc, List.mem_cons, List.not_mem_nil, or_false] at hx
  rcases hx with rfl | rfl <;> rfl
set_option maxRecDepth 100000 in
theorem Clone_Sector (A : Option Addr) (n c : Nat) (xs : List Sector) (w : World) (hx : Sees w 0 2 A n (xs.flatMap Sector.enc)) (h0 : 0 < n) (hn : n ≤ 1000) :
    Calls Try.prog 88 #[.slice A n c] w fun e w' => ∃ A' c', e = .returned (.slice A' n c') ∧ w'.ownsRow w.heap.size 77 2 (.slice A' n c') n (xs.flatMap Sector.enc) ∧ Below w.heap.size w w' := by
  obtain ⟨b, off, rfl, _, _, _⟩ := hx.at' h0
  have U : Below w.heap.size w (w.alloc (.cells #[] 77)) := (Below.refl _ _).alloc (Nat.le_refl _) _
  have O0 := own_empty w 77 2
  have hs := hx.next U
  have hnil : ∀ (w : World) (a : Option Addr) (n c n' c' : Nat), (binOp .eql 37 (.slice a n c) (.slice none n' c')).run Try.prog w = .ok (.bool a.isNone) w := fun w a n c n' c' => Lib.run_eql_slice_nil w _ _ a n c n' c' Try.underlying37
  go_enter Try.func88, Try.ntmps88
  go_wp2_with (at_builtin; go_loud (refine wpList_cat rfl _ _ _ rfl Try.underlying37 info_impl_Sector rfl (by decide) rfl O0 rfl hs (sec_all _) (by omega) (by omega) (by decide) (by simp) ?_); intro A1 c1 w1 o1 h1 b1 q1)
  simp only [Nat.zero_add, List.nil_append] at o1 ⊢
  go_wp2_with fail
  go_ret
  exact ⟨A1, c1, rfl, o1, U.trans b1⟩

end Go.Proofs.Ytjcmlloglnkbfaa
