/- AddArea, as the reference has it. -/
import Derived.Test.YtljiflbaknakaaaAddA
namespace Go.Proofs.Ytljiflbaknakaaa
open Go.RowKit

theorem areas_all (rs : List (Hd Area)) : (rs.flatMap areaSh.enc).all Value.oneCell' = true := List.all_eq_true.2 (areas_one rs)
theorem Sees.takeA {w : World} {lo n : Nat} {A : Option Addr} {rs : List (Hd Area)} (h : Sees w lo 4 A n (rs.flatMap areaSh.enc)) (k : Nat) (hk : k ≤ n) : Sees w lo 4 A k ((rs.take k).flatMap areaSh.enc) := by
  have hc := h.count (by decide) areaSh.len
  refine ⟨by rw [flatMap_len _ (fun x _ => areaSh.len x), List.length_take]; congr 1; omega, fun hk0 => ?_⟩
  obtain ⟨b, off, e, h1, h2, h3⟩ := h.at' (by omega)
  refine ⟨b, off, e, h1, h2, fun j u hu => h3 j u ?_⟩
  have hj := (List.getElem?_eq_some_iff.1 hu).1
  conv => lhs; rw [← List.take_append_drop k rs, List.flatMap_append, List.getElem?_append_left hj]
  exact hu
theorem Sees.dropA {w : World} {lo n b : Nat} {rs : List (Hd Area)} (h : Sees w lo 4 (some ⟨b, 0, none⟩) n (rs.flatMap areaSh.enc)) (k : Nat) (hk : k ≤ n) : Sees w lo 4 (some ⟨b, k * 4, none⟩) (n - k) ((rs.drop k).flatMap areaSh.enc) := by
  have hl := h.count (by decide) areaSh.len
  refine ⟨by rw [flatMap_len _ (fun x _ => areaSh.len x), List.length_drop, hl]; rfl, fun h0 => ?_⟩
  obtain ⟨b', off', e, h1, h2, h3⟩ := h.at' (by omega)
  obtain ⟨rfl, rfl⟩ : b = b' ∧ 0 = off' := by simpa using e
  refine ⟨b, k * 4, rfl, h1, h2, fun j u hu => ?_⟩
  have h4 := h3 (k * 4 + j) u (by
    rw [← flat_drop (f := areaSh.enc) (s := 4) areaSh.len (by omega), List.getElem?_drop] at hu
    exact hu)
  rwa [Nat.zero_add] at h4
/-- Where a slice of a call's own begins, and that it is no longer than its row. -/
theorem MineN.shape {α : Type} {sh : Sh α} {w : World} {S : Nat → Prop} {t ti n c : Nat} {A : Option Addr} {xs : List α} (h : MineN sh w S t ti A n c xs) : (A = none ∧ n = 0 ∧ c = 0) ∨ ∃ g, A = some ⟨g, 0, none⟩ ∧ n ≤ c := by
  obtain ⟨rs, _, h⟩ := h
  rcases own_open h.outer.own with ⟨h1, h2, h3, _⟩ | ⟨g, cur, h1, _, _, _, h2, _⟩
  · exact .inl ⟨h1, h2, h3⟩
  · exact .inr ⟨g, h1, h2⟩

set_option maxRecDepth 100000 in
set_option maxHeartbeats 8000000 in
theorem specAddArea_any (A1 A2 : Option Addr) (n1 n2 c1 c2 : Nat) (m : MapV) (A : Option Addr) (n c : Nat) (xs : List Area) (Aa : Option Addr) (na ca0 : Nat) (a : Area) (w : World) (hm : SeesMap w A1 n1 A2 n2 m) (hn' : n1 ≤ 1048576 ∧ n2 ≤ 1048576) (hx : SeesN areaSh w 0 A n xs) (hn : n ≤ 1048576) (hi : ∀ x ∈ xs, x.cnt ≤ 1048576) (ha : Sees w 0 1 Aa na (ints a.cells)) (hna : na ≤ 1048576) (hsh : (A = none ∧ n = 0 ∧ c = 0) ∨ ∃ g, A = some ⟨g, 0, none⟩ ∧ n ≤ c) :
    Calls Try.prog 45 #[.agg #[.int .i64 m.width, .int .i64 m.height, .slice A1 n1 c1, .slice A2 n2 c2], .slice A n c, .agg #[.int .i64 a.id, .slice Aa na ca0, .int .i64 a.first, .int .i64 a.last]] w (GivesAreasO w (addArea m xs a)) := by
  have HL := Lib.hid hx.count
  have HNA := Lib.hid (show a.cnt ≤ 1048576 by have := ha.icount; unfold Area.cnt; omega)
  have HIN := Lib.hid (show ∀ x ∈ insA a xs, x.cnt ≤ 1048576 from fun x hx => (insA_mem hx).elim (hi x) fun h => h ▸ HNA.out)
  go_enter Try.func45, Try.ntmps45
  go_wp2_with fail
  have K0 : Below w.heap.size w ((w.alloc (.cells #[.int .i64 m.width, .int .i64 m.height, .slice A1 n1 c1, .slice A2 n2 c2] 29)).alloc (.cells #[.int .i64 a.id, .slice Aa na ca0, .int .i64 a.first, .int .i64 a.last] 62)) := ((Below.refl _ _).alloc (Nat.le_refl _) _).alloc (by simp) _
  have Bm0 : Blk ((w.alloc (.cells #[.int .i64 m.width, .int .i64 m.height, .slice A1 n1 c1, .slice A2 n2 c2] 29)).alloc (.cells #[.int .i64 a.id, .slice Aa na ca0, .int .i64 a.first, .int .i64 a.last] 62)) w.heap.size 29 [.int .i64 m.width, .int .i64 m.height, .slice A1 n1 c1, .slice A2 n2 c2] := (Blk.at_ rfl).alloc _
  have Ba0 : Blk ((w.alloc (.cells #[.int .i64 m.width, .int .i64 m.height, .slice A1 n1 c1, .slice A2 n2 c2] 29)).alloc (.cells #[.int .i64 a.id, .slice Aa na ca0, .int .i64 a.first, .int .i64 a.last] 62)) (w.heap.size + 1) 62 [.int .i64 a.id, .slice Aa na ca0, .int .i64 a.first, .int .i64 a.last] := Blk.at_ (by simp)
  refine (l24Good_any _ _ _ _ _ _ m _ _ _ xs _ (hm.next K0) hn' (hx.next K0) hn hi).mono ?_
  cases g1 : areasB m xs
  · rintro e w1 ⟨rfl, b1⟩
    go_wp2_with fail
    go_ret2
    rw [show addArea m xs a = none by simp [addArea, g1]]
    exact givesA_empty w1 (bel_then K0 b1)
  · rintro e w1 ⟨rfl, b1⟩
    have G1 := Lib.hid g1
    have K1 := bel_then K0 b1
    have Bm1 := Bm0.next b1
    have Ba1 := Ba0.next b1
    have hn6 : n ≤ 6 := by have := (areasB_at g1).2.1; have := HL.out; omega
    clear K0 Bm0 Ba0 b1 g1
    go_wp2_with fail
    go_loopw [8] (fun kv wr => ∃ k : Nat, k ≤ n ∧ kv = .int .i64 (k : Int) ∧ Hid (∀ (j : Nat) (hj : j < xs.length), j < k → xs[j].id < a.id) ∧ Blk wr w.heap.size 29 [.int .i64 m.width, .int .i64 m.height, .slice A1 n1 c1, .slice A2 n2 c2] ∧ Blk wr (w.heap.size + 1) 62 [.int .i64 a.id, .slice Aa na ca0, .int .i64 a.first, .int .i64 a.last] ∧ Below w.heap.size w wr) (fun kv _ => n - (intOf kv).toNat)
    case atStart => exact ⟨0, Nat.zero_le _, rfl, Lib.hid (fun j _ h => absurd h (by omega)), Bm1, Ba1, K1⟩
    case round =>
      obtain ⟨k, hk, rfl, HB, Bm, Ba, K⟩ := hrel
      clear Bm1 Ba1 K1
      have ca := Ba.cell
      have hk6 : k ≤ 1048576 := by omega
      by_cases hlt : k < n
      · obtain ⟨b, off, B0, mc, d0, hA, hkx, x0, x1, x2, x3, hxi⟩ := SeesArea.elem (hx.next K) hlt
        have HB2 := Lib.hid (fun (h : xs[k].id < a.id) (j : Nat) (hj : j < xs.length) (hjk : j < k + 1) => show xs[j].id < a.id by
          rcases Nat.lt_or_ge j k with h1 | h1
          · exact HB.out j hj h1
          · obtain rfl : j = k := by omega
            exact h)
        have HP := Lib.hid (fun (h : ¬ xs[k].id < a.id) => insA_at (a := a) (xs := xs) (k := k) (by omega) HB.out (fun _ => h))
        obtain ⟨y, hy⟩ : ∃ y, xs[k].id = y := ⟨_, rfl⟩
        rw [hy] at x0 HB2 HP
        clear x1 x2 x3 hxi
        by_cases hlt2 : y < a.id
        · have HB3 := Lib.hid (HB2.out hlt2)
          clear HB HB2 HP hy
          subst hA
          go_wp2_with fail
          go_quiet (fail)
          go_wp2_with fail
          go_roundw
          case rel => exact ⟨k + 1, by omega, by go_num, HB3, Bm.next ((Quiet.mk _ _).below _), Ba.next ((Quiet.mk _ _).below _), bel_drewN K _⟩
          case measure => simp [intOf]; omega
        · have HPE := Lib.hid (HP.out hlt2)
          clear HB HB2 HP hy
          subst hA
          go_wp2_with fail
          go_quiet (fail)
          clear x0
          have bq := (Quiet.mk wr nq).below wr.heap.size
          replace Bm := Bm.next bq
          replace Ba := Ba.next bq
          replace K := bel_then K bq
          clear ca bq
          generalize wr.drewN nq = wv at *
          have ca := Ba.cell
          obtain ⟨hs, hrs, hsee, hin⟩ := hx
          have HRS := Lib.hid hrs
          have HIS := Lib.hid hin
          clear hrs hin
          obtain ⟨rfl, hnc⟩ : off = 0 ∧ n ≤ c := by
            rcases hsh with ⟨h, _⟩ | ⟨g, h, h2⟩
            · cases h
            · injection h with h
              injection h with _ h _
              exact ⟨h, h2⟩
          have hpre := (hsee.below K (Nat.le_refl _)).takeA k hk
          have hsuf0 := (hsee.below K (Nat.le_refl _)).dropA k hk
          have hsuf := hsuf0
          have hk1 : ¬ c = k := by omega
          have hk2 : k ≤ c := by omega
          go_wp2_with fail
          have J1 := (Quiet.one wv).below wv.heap.size
          refine wp_region_held_drew (S := fun w' => w'.cell? ⟨w.heap.size + 1, 0, none⟩ = some (.int .i64 a.id) ∧ w'.cell? ⟨w.heap.size + 1, 1, none⟩ = some (.slice Aa na ca0) ∧ w'.cell? ⟨w.heap.size + 1, 2, none⟩ = some (.int .i64 a.first) ∧ w'.cell? ⟨w.heap.size + 1, 3, none⟩ = some (.int .i64 a.last)) (by kernel_rfl) (⟨(Ba.next J1).cell 0, (Ba.next J1).cell 1, (Ba.next J1).cell 2, (Ba.next J1).cell 3⟩) (fun hHeld => ?_)
          generalize wv.drew = wi1 at *
          refine wpAnyH_take (i := 1) (v := ?_) rfl (by kernel_rfl) (by kernel_rfl) (by kernel_rfl) (fun _ _ _ h => h) (Or.inl ⟨by rfl, ?_⟩) (by assumption) ?_
          rotate_left 1
          · (intro w hSw; (try dsimp only at hSw); go_simp; try with_reducible rfl)
          (try simp only [Act.put, List.setIfInBounds_toArray, List.set_cons_zero, List.set_cons_succ, List.getElem_toArray, List.getElem_cons_zero, List.getElem_cons_succ])
          refine wpAnyH_take (i := 2) (v := ?_) rfl (by kernel_rfl) (by kernel_rfl) (by kernel_rfl) (fun _ _ _ h => h) (Or.inl ⟨by rfl, ?_⟩) (by assumption) ?_
          rotate_left 1
          · (intro w hSw; (try dsimp only at hSw); go_simp; try with_reducible rfl)
          (try simp only [Act.put, List.setIfInBounds_toArray, List.set_cons_zero, List.set_cons_succ, List.getElem_toArray, List.getElem_cons_zero, List.getElem_cons_succ])
          refine wpAnyH_take (i := 3) (v := ?_) rfl (by kernel_rfl) (by kernel_rfl) (by kernel_rfl) (fun _ _ _ h => h) (Or.inl ⟨by rfl, ?_⟩) (by assumption) ?_
          rotate_left 1
          · (intro w hSw; (try dsimp only at hSw); go_simp; try with_reducible rfl)
          (try simp only [Act.put, List.setIfInBounds_toArray, List.set_cons_zero, List.set_cons_succ, List.getElem_toArray, List.getElem_cons_zero, List.getElem_cons_succ])
          refine wpAnyH_take (i := 5) (v := ?_) rfl (by kernel_rfl) (by kernel_rfl) (by kernel_rfl) (fun _ _ _ h => h) (Or.inl ⟨by rfl, ?_⟩) (by assumption) ?_
          rotate_left 1
          · (intro w hSw; (try dsimp only at hSw); go_simp; try with_reducible rfl)
          (try simp only [Act.put, List.setIfInBounds_toArray, List.set_cons_zero, List.set_cons_succ, List.getElem_toArray, List.getElem_cons_zero, List.getElem_cons_succ])
          refine wpAnyH_take (i := 8) (v := ?_) rfl (by kernel_rfl) (by kernel_rfl) (by kernel_rfl) (fun _ _ _ h => h) (Or.inl ⟨by rfl, ?_⟩) (by assumption) ?_
          rotate_left 1
          · (intro w hSw; (try dsimp only at hSw); go_simp; try with_reducible rfl)
          (try simp only [Act.put, List.setIfInBounds_toArray, List.set_cons_zero, List.set_cons_succ, List.getElem_toArray, List.getElem_cons_zero, List.getElem_cons_succ])
          refine wpAnyH_take (i := 9) (v := ?_) rfl (by kernel_rfl) (by kernel_rfl) (by kernel_rfl) (fun _ _ _ h => h) (Or.inl ⟨by rfl, ?_⟩) (by assumption) ?_
          rotate_left 1
          · (intro w hSw; (try dsimp only at hSw); go_simp; try with_reducible rfl)
          (try simp only [Act.put, List.setIfInBounds_toArray, List.set_cons_zero, List.set_cons_succ, List.getElem_toArray, List.getElem_cons_zero, List.getElem_cons_succ])
          refine wpAnyH_take (i := 10) (v := ?_) rfl (by kernel_rfl) (by kernel_rfl) (by kernel_rfl) (fun _ _ _ h => h) (Or.inl ⟨by rfl, ?_⟩) (by assumption) ?_
          rotate_left 1
          · (intro w hSw; (try dsimp only at hSw); go_simp; try with_reducible rfl)
          (try simp only [Act.put, List.setIfInBounds_toArray, List.set_cons_zero, List.set_cons_succ, List.getElem_toArray, List.getElem_cons_zero, List.getElem_cons_succ])
          refine wpAnyH_ready (rs := [0, 6]) (by kernel_rfl) (by simp) ?_
          refine AllReadyH.cons rfl (fun K hK => ?_) ?_
          · go_simp
            have U2 : Below wi1.heap.size wi1 (wi1.alloc (.cells #[] 62)) := (Below.refl _ _).alloc (Nat.le_refl _) _
            have J2 := bel_then J1 U2
            refine hK.out _ _ (⟨(Ba.next J2).cell 0, (Ba.next J2).cell 1, (Ba.next J2).cell 2, (Ba.next J2).cell 3⟩) (fun hHeld => ?_)
            clear hK K
            (try simp only [Act.put, List.setIfInBounds_toArray, List.set_cons_zero, List.set_cons_succ, List.getElem_toArray, List.getElem_cons_zero])
            have own := own_base (own_empty wi1 62 4) (show wv.heap.size ≤ wi1.heap.size from J1.size)
            generalize (wi1.alloc (.cells #[] 62)) = wi2 at *
            have ownP := own
            refine wpAnyH_ready (rs := [4, 6]) (by kernel_rfl) (by simp) ?_
            refine AllReadyH.cons rfl (fun K hK => ?_) ?_
            · refine step_cat rfl _ _ _ (by rfl) Try.underlying31 info_impl_Area rfl (by decide) (by rfl) own (by rfl) (m := k) (hpre.next J2) (areas_all _) (by omega) (by omega) (by decide) (by have := J2.size; omega) ?_
              intro A3 c3 wi3 own3 o3 b3 q3
              have J3 := J2.trans b3
              refine hK.out _ _ (⟨(Ba.next J3).cell 0, (Ba.next J3).cell 1, (Ba.next J3).cell 2, (Ba.next J3).cell 3⟩) (fun hHeld => ?_)
              clear hK K
              (try simp only [Act.put, List.setIfInBounds_toArray, List.set_cons_zero, List.set_cons_succ, List.getElem_toArray, List.getElem_cons_zero, List.getElem_cons_succ])
              (try simp only [Nat.zero_add])
              simp only [Nat.zero_add, List.nil_append] at own3
              replace own := own3
              clear own3
              replace ownP := own
              refine wpAnyH_ready (rs := [6]) (by kernel_rfl) (by simp) ?_
              refine AllReadyH.cons rfl (fun K hK => ?_) AllReadyH.nil
              go_simp
              have U4 : Below wi3.heap.size wi3 (wi3.alloc (.cells #[.int .i64 a.id, .slice Aa na ca0, .int .i64 a.first, .int .i64 a.last] 62)) := (Below.refl _ _).alloc (Nat.le_refl _) _
              have J4 := bel_then J3 U4
              refine hK.out _ _ (⟨(Ba.next J4).cell 0, (Ba.next J4).cell 1, (Ba.next J4).cell 2, (Ba.next J4).cell 3⟩) (fun hHeld => ?_)
              clear hK K
              (try simp only [Act.put, List.setIfInBounds_toArray, List.set_cons_zero, List.set_cons_succ, List.getElem_toArray, List.getElem_cons_zero, List.getElem_cons_succ])
              replace own := own_below own U4
              have box : Blk (wi3.alloc (.cells #[.int .i64 a.id, .slice Aa na ca0, .int .i64 a.first, .int .i64 a.last] 62)) wi3.heap.size 62 [.int .i64 a.id, .slice Aa na ca0, .int .i64 a.first, .int .i64 a.last] := Blk.at_ rfl
              have lb := box.lt
              have hne : ∀ b, OwnB A3 b → b ≠ wi3.heap.size := fun b hb => by have := (own_top ownP hb).2; omega
              generalize (wi3.alloc (.cells #[.int .i64 a.id, .slice Aa na ca0, .int .i64 a.first, .int .i64 a.last] 62)) = wi4 at *
              replace ownP := own
              refine wpAnyH_ready (rs := [7]) (by kernel_rfl) (by simp) ?_
              refine AllReadyH.cons rfl (fun K hK => ?_) AllReadyH.nil
              refine step_cat rfl _ _ _ (by rfl) Try.underlying31 info_impl_Area rfl (by decide) (by rfl) own (by rfl) (m := 1) (box.sees (s := 4) (Nat.zero_le _) rfl) (by simp [Value.oneCell']) (by omega) (by omega) (by decide) (by have := J4.size; omega) ?_
              intro A5 c5 wi5 own5 o5 b5 q5
              have J5 := J4.trans b5
              refine hK.out _ _ (⟨(Ba.next J5).cell 0, (Ba.next J5).cell 1, (Ba.next J5).cell 2, (Ba.next J5).cell 3⟩) (fun hHeld => ?_)
              clear hK K
              (try simp only [Act.put, List.setIfInBounds_toArray, List.set_cons_zero, List.set_cons_succ, List.getElem_toArray, List.getElem_cons_zero, List.getElem_cons_succ])
              replace own := own5
              clear own5
              refine wpAnyH_ready (rs := [11]) (by kernel_rfl) (by simp) ?_
              refine AllReadyH.cons rfl (fun K hK => ?_) AllReadyH.nil
              refine step_cat rfl _ _ _ (by rfl) Try.underlying31 info_impl_Area rfl (by decide) (by rfl) own (by rfl) (m := (n - k)) (hsuf.next J5) (areas_all _) (by omega) (by omega) (by decide) (by have := J5.size; omega) ?_
              intro A6 c6 wi6 own6 o6 b6 q6
              have J6 := J5.trans b6
              refine hK.out _ _ (⟨(Ba.next J6).cell 0, (Ba.next J6).cell 1, (Ba.next J6).cell 2, (Ba.next J6).cell 3⟩) (fun hHeld => ?_)
              clear hK K
              (try simp only [Act.put, List.setIfInBounds_toArray, List.set_cons_zero, List.set_cons_succ, List.getElem_toArray, List.getElem_cons_zero, List.getElem_cons_succ])
              replace own := own6
              clear own6
              refine wpAnyH_take (i := 12) (v := ?_) rfl (by kernel_rfl) (by kernel_rfl) (by kernel_rfl) (fun _ _ _ h => h) (Or.inl ⟨by rfl, ?_⟩) (by assumption) ?_
              rotate_left 1
              · (intro w hSw; (try dsimp only at hSw); go_simp; try with_reducible rfl)
              (try simp only [Act.put, List.setIfInBounds_toArray, List.set_cons_zero, List.set_cons_succ, List.getElem_toArray, List.getElem_cons_zero, List.getElem_cons_succ])
              refine wpAnyH_done (by kernel_rfl) ?_ _
              have KJ := bel_then K J6
              have Bm2 := Bm.next J6
              have SG : SeesN areaSh wi6 0 A6 (n + 1) (insA a xs) := ⟨hs.take k ++ (⟨a, Aa, na, ca0⟩ : Hd Area) :: hs.drop k, by rw [HPE.out, List.map_append, List.map_cons, List.map_take, List.map_drop, HRS.out], by
                have h := (Sees.of_own own).less (Nat.zero_le _)
                rw [show k + 1 + (n - k) = n + 1 by omega] at h
                rw [List.flatMap_append, List.flatMap_cons]
                simpa [areaSh, List.append_assoc] using h, fun r hr => by
                rcases List.mem_append.1 hr with h1 | h1
                · exact (HIS.out r (List.mem_of_mem_take h1)).below KJ (Nat.le_refl _)
                · rcases List.mem_cons.1 h1 with rfl | h1
                  · exact ha.below KJ (Nat.le_refl _)
                  · exact (HIS.out r (List.mem_of_mem_drop h1)).below KJ (Nat.le_refl _)⟩
              have hln : k + 1 + (n - k) = n + 1 := by omega
              clear own
              have cm := Bm2.cell
              go_wp2_with fail
              refine (l24Good_any _ _ _ _ _ _ m _ _ _ (insA a xs) _ (hm.next KJ) hn' (by first | exact SG | (rw [hln]; exact SG)) (by omega) HIN.out).mono ?_
              cases g2 : areasB m (insA a xs)
              · rintro e w7 ⟨rfl, b7⟩
                go_wp2_with fail
                go_ret2
                rw [show addArea m xs a = none by simp [addArea, g2]]
                exact givesA_empty w7 (bel_then KJ b7)
              · rintro e w7 ⟨rfl, b7⟩
                have K7 := bel_then KJ b7
                have SG7 := SG.next b7
                clear cm
                go_wp2_with fail
                refine (l24Copy_any _ _ _ (insA a xs) _ (by first | exact SG7 | (rw [hln]; exact SG7)) (by omega) HIN.out).mono ?_
                rintro e w8 ⟨A8, c8, rfl, N8, b8⟩
                go_wp2_with fail
                go_ret2
                rw [show addArea m xs a = some (insA a xs) by simp [addArea, g2, G1.out]]
                exact givesA_some (N8.wide fun b hb => ⟨Nat.le_trans K7.size hb.1, hb.2⟩) (bel_then K7 b8)
            refine AllReadyH.cons rfl (fun K hK => ?_) AllReadyH.nil
            · go_simp
              have U3 : Below wi2.heap.size wi2 (wi2.alloc (.cells #[.int .i64 a.id, .slice Aa na ca0, .int .i64 a.first, .int .i64 a.last] 62)) := (Below.refl _ _).alloc (Nat.le_refl _) _
              have J3 := bel_then J2 U3
              refine hK.out _ _ (⟨(Ba.next J3).cell 0, (Ba.next J3).cell 1, (Ba.next J3).cell 2, (Ba.next J3).cell 3⟩) (fun hHeld => ?_)
              clear hK K
              (try simp only [Act.put, List.setIfInBounds_toArray, List.set_cons_zero, List.set_cons_succ, List.getElem_toArray, List.getElem_cons_zero, List.getElem_cons_succ])
              replace own := own_below own U3
              have box : Blk (wi2.alloc (.cells #[.int .i64 a.id, .slice Aa na ca0, .int .i64 a.first, .int .i64 a.last] 62)) wi2.heap.size 62 [.int .i64 a.id, .slice Aa na ca0, .int .i64 a.first, .int .i64 a.last] := Blk.at_ rfl
              have lb := box.lt
              have hne : ∀ b, OwnB (some ⟨wi1.heap.size, 0, none⟩) b → b ≠ wi2.heap.size := fun b hb => by have := (own_top ownP hb).2; omega
              generalize (wi2.alloc (.cells #[.int .i64 a.id, .slice Aa na ca0, .int .i64 a.first, .int .i64 a.last] 62)) = wi3 at *
              replace ownP := own
              refine wpAnyH_ready (rs := [4]) (by kernel_rfl) (by simp) ?_
              refine AllReadyH.cons rfl (fun K hK => ?_) AllReadyH.nil
              refine step_cat rfl _ _ _ (by rfl) Try.underlying31 info_impl_Area rfl (by decide) (by rfl) own (by rfl) (m := k) (hpre.next J3) (areas_all _) (by omega) (by omega) (by decide) (by have := J3.size; omega) ?_
              intro A4 c4 wi4 own4 o4 b4 q4
              have J4 := J3.trans b4
              refine hK.out _ _ (⟨(Ba.next J4).cell 0, (Ba.next J4).cell 1, (Ba.next J4).cell 2, (Ba.next J4).cell 3⟩) (fun hHeld => ?_)
              clear hK K
              (try simp only [Act.put, List.setIfInBounds_toArray, List.set_cons_zero, List.set_cons_succ, List.getElem_toArray, List.getElem_cons_zero, List.getElem_cons_succ])
              (try simp only [Nat.zero_add])
              replace box := box.only o4 (fun h => hne _ h rfl)
              simp only [Nat.zero_add, List.nil_append] at own4
              replace own := own4
              clear own4
              replace ownP := own
              refine wpAnyH_ready (rs := [7]) (by kernel_rfl) (by simp) ?_
              refine AllReadyH.cons rfl (fun K hK => ?_) AllReadyH.nil
              refine step_cat rfl _ _ _ (by rfl) Try.underlying31 info_impl_Area rfl (by decide) (by rfl) own (by rfl) (m := 1) (box.sees (s := 4) (Nat.zero_le _) rfl) (by simp [Value.oneCell']) (by omega) (by omega) (by decide) (by have := J4.size; omega) ?_
              intro A5 c5 wi5 own5 o5 b5 q5
              have J5 := J4.trans b5
              refine hK.out _ _ (⟨(Ba.next J5).cell 0, (Ba.next J5).cell 1, (Ba.next J5).cell 2, (Ba.next J5).cell 3⟩) (fun hHeld => ?_)
              clear hK K
              (try simp only [Act.put, List.setIfInBounds_toArray, List.set_cons_zero, List.set_cons_succ, List.getElem_toArray, List.getElem_cons_zero, List.getElem_cons_succ])
              replace own := own5
              clear own5
              refine wpAnyH_ready (rs := [11]) (by kernel_rfl) (by simp) ?_
              refine AllReadyH.cons rfl (fun K hK => ?_) AllReadyH.nil
              refine step_cat rfl _ _ _ (by rfl) Try.underlying31 info_impl_Area rfl (by decide) (by rfl) own (by rfl) (m := (n - k)) (hsuf.next J5) (areas_all _) (by omega) (by omega) (by decide) (by have := J5.size; omega) ?_
              intro A6 c6 wi6 own6 o6 b6 q6
              have J6 := J5.trans b6
              refine hK.out _ _ (⟨(Ba.next J6).cell 0, (Ba.next J6).cell 1, (Ba.next J6).cell 2, (Ba.next J6).cell 3⟩) (fun hHeld => ?_)
              clear hK K
              (try simp only [Act.put, List.setIfInBounds_toArray, List.set_cons_zero, List.set_cons_succ, List.getElem_toArray, List.getElem_cons_zero, List.getElem_cons_succ])
              replace own := own6
              clear own6
              refine wpAnyH_take (i := 12) (v := ?_) rfl (by kernel_rfl) (by kernel_rfl) (by kernel_rfl) (fun _ _ _ h => h) (Or.inl ⟨by rfl, ?_⟩) (by assumption) ?_
              rotate_left 1
              · (intro w hSw; (try dsimp only at hSw); go_simp; try with_reducible rfl)
              (try simp only [Act.put, List.setIfInBounds_toArray, List.set_cons_zero, List.set_cons_succ, List.getElem_toArray, List.getElem_cons_zero, List.getElem_cons_succ])
              refine wpAnyH_done (by kernel_rfl) ?_ _
              have KJ := bel_then K J6
              have Bm2 := Bm.next J6
              have SG : SeesN areaSh wi6 0 A6 (n + 1) (insA a xs) := ⟨hs.take k ++ (⟨a, Aa, na, ca0⟩ : Hd Area) :: hs.drop k, by rw [HPE.out, List.map_append, List.map_cons, List.map_take, List.map_drop, HRS.out], by
                have h := (Sees.of_own own).less (Nat.zero_le _)
                rw [show k + 1 + (n - k) = n + 1 by omega] at h
                rw [List.flatMap_append, List.flatMap_cons]
                simpa [areaSh, List.append_assoc] using h, fun r hr => by
                rcases List.mem_append.1 hr with h1 | h1
                · exact (HIS.out r (List.mem_of_mem_take h1)).below KJ (Nat.le_refl _)
                · rcases List.mem_cons.1 h1 with rfl | h1
                  · exact ha.below KJ (Nat.le_refl _)
                  · exact (HIS.out r (List.mem_of_mem_drop h1)).below KJ (Nat.le_refl _)⟩
              have hln : k + 1 + (n - k) = n + 1 := by omega
              clear own
              have cm := Bm2.cell
              go_wp2_with fail
              refine (l24Good_any _ _ _ _ _ _ m _ _ _ (insA a xs) _ (hm.next KJ) hn' (by first | exact SG | (rw [hln]; exact SG)) (by omega) HIN.out).mono ?_
              cases g2 : areasB m (insA a xs)
              · rintro e w7 ⟨rfl, b7⟩
                go_wp2_with fail
                go_ret2
                rw [show addArea m xs a = none by simp [addArea, g2]]
                exact givesA_empty w7 (bel_then KJ b7)
              · rintro e w7 ⟨rfl, b7⟩
                have K7 := bel_then KJ b7
                have SG7 := SG.next b7
                clear cm
                go_wp2_with fail
                refine (l24Copy_any _ _ _ (insA a xs) _ (by first | exact SG7 | (rw [hln]; exact SG7)) (by omega) HIN.out).mono ?_
                rintro e w8 ⟨A8, c8, rfl, N8, b8⟩
                go_wp2_with fail
                go_ret2
                rw [show addArea m xs a = some (insA a xs) by simp [addArea, g2, G1.out]]
                exact givesA_some (N8.wide fun b hb => ⟨Nat.le_trans K7.size hb.1, hb.2⟩) (bel_then K7 b8)
          refine AllReadyH.cons rfl (fun K hK => ?_) AllReadyH.nil
          · go_simp
            have U2 : Below wi1.heap.size wi1 (wi1.alloc (.cells #[.int .i64 a.id, .slice Aa na ca0, .int .i64 a.first, .int .i64 a.last] 62)) := (Below.refl _ _).alloc (Nat.le_refl _) _
            have J2 := bel_then J1 U2
            refine hK.out _ _ (⟨(Ba.next J2).cell 0, (Ba.next J2).cell 1, (Ba.next J2).cell 2, (Ba.next J2).cell 3⟩) (fun hHeld => ?_)
            clear hK K
            (try simp only [Act.put, List.setIfInBounds_toArray, List.set_cons_zero, List.set_cons_succ, List.getElem_toArray, List.getElem_cons_zero, List.getElem_cons_succ])
            have box : Blk (wi1.alloc (.cells #[.int .i64 a.id, .slice Aa na ca0, .int .i64 a.first, .int .i64 a.last] 62)) wi1.heap.size 62 [.int .i64 a.id, .slice Aa na ca0, .int .i64 a.first, .int .i64 a.last] := Blk.at_ rfl
            have lb := box.lt
            generalize (wi1.alloc (.cells #[.int .i64 a.id, .slice Aa na ca0, .int .i64 a.first, .int .i64 a.last] 62)) = wi2 at *
            refine wpAnyH_ready (rs := [0]) (by kernel_rfl) (by simp) ?_
            refine AllReadyH.cons rfl (fun K hK => ?_) AllReadyH.nil
            go_simp
            have U3 : Below wi2.heap.size wi2 (wi2.alloc (.cells #[] 62)) := (Below.refl _ _).alloc (Nat.le_refl _) _
            have J3 := bel_then J2 U3
            refine hK.out _ _ (⟨(Ba.next J3).cell 0, (Ba.next J3).cell 1, (Ba.next J3).cell 2, (Ba.next J3).cell 3⟩) (fun hHeld => ?_)
            clear hK K
            (try simp only [Act.put, List.setIfInBounds_toArray, List.set_cons_zero, List.set_cons_succ, List.getElem_toArray, List.getElem_cons_zero])
            replace box := box.next U3
            have own := own_base (own_empty wi2 62 4) (show wv.heap.size ≤ wi2.heap.size from J2.size)
            have hne : ∀ b, OwnB (some ⟨wi2.heap.size, 0, none⟩) b → b ≠ wi1.heap.size := fun b hb => by have h4 : wi2.heap.size = b := (by simpa [OwnB, Value.ownBlock] using hb); have h5 := lb; omega
            generalize (wi2.alloc (.cells #[] 62)) = wi3 at *
            have ownP := own
            refine wpAnyH_ready (rs := [4]) (by kernel_rfl) (by simp) ?_
            refine AllReadyH.cons rfl (fun K hK => ?_) AllReadyH.nil
            refine step_cat rfl _ _ _ (by rfl) Try.underlying31 info_impl_Area rfl (by decide) (by rfl) own (by rfl) (m := k) (hpre.next J3) (areas_all _) (by omega) (by omega) (by decide) (by have := J3.size; omega) ?_
            intro A4 c4 wi4 own4 o4 b4 q4
            have J4 := J3.trans b4
            refine hK.out _ _ (⟨(Ba.next J4).cell 0, (Ba.next J4).cell 1, (Ba.next J4).cell 2, (Ba.next J4).cell 3⟩) (fun hHeld => ?_)
            clear hK K
            (try simp only [Act.put, List.setIfInBounds_toArray, List.set_cons_zero, List.set_cons_succ, List.getElem_toArray, List.getElem_cons_zero, List.getElem_cons_succ])
            (try simp only [Nat.zero_add])
            replace box := box.only o4 (fun h => hne _ h rfl)
            simp only [Nat.zero_add, List.nil_append] at own4
            replace own := own4
            clear own4
            replace ownP := own
            refine wpAnyH_ready (rs := [7]) (by kernel_rfl) (by simp) ?_
            refine AllReadyH.cons rfl (fun K hK => ?_) AllReadyH.nil
            refine step_cat rfl _ _ _ (by rfl) Try.underlying31 info_impl_Area rfl (by decide) (by rfl) own (by rfl) (m := 1) (box.sees (s := 4) (Nat.zero_le _) rfl) (by simp [Value.oneCell']) (by omega) (by omega) (by decide) (by have := J4.size; omega) ?_
            intro A5 c5 wi5 own5 o5 b5 q5
            have J5 := J4.trans b5
            refine hK.out _ _ (⟨(Ba.next J5).cell 0, (Ba.next J5).cell 1, (Ba.next J5).cell 2, (Ba.next J5).cell 3⟩) (fun hHeld => ?_)
            clear hK K
            (try simp only [Act.put, List.setIfInBounds_toArray, List.set_cons_zero, List.set_cons_succ, List.getElem_toArray, List.getElem_cons_zero, List.getElem_cons_succ])
            replace own := own5
            clear own5
            refine wpAnyH_ready (rs := [11]) (by kernel_rfl) (by simp) ?_
            refine AllReadyH.cons rfl (fun K hK => ?_) AllReadyH.nil
            refine step_cat rfl _ _ _ (by rfl) Try.underlying31 info_impl_Area rfl (by decide) (by rfl) own (by rfl) (m := (n - k)) (hsuf.next J5) (areas_all _) (by omega) (by omega) (by decide) (by have := J5.size; omega) ?_
            intro A6 c6 wi6 own6 o6 b6 q6
            have J6 := J5.trans b6
            refine hK.out _ _ (⟨(Ba.next J6).cell 0, (Ba.next J6).cell 1, (Ba.next J6).cell 2, (Ba.next J6).cell 3⟩) (fun hHeld => ?_)
            clear hK K
            (try simp only [Act.put, List.setIfInBounds_toArray, List.set_cons_zero, List.set_cons_succ, List.getElem_toArray, List.getElem_cons_zero, List.getElem_cons_succ])
            replace own := own6
            clear own6
            refine wpAnyH_take (i := 12) (v := ?_) rfl (by kernel_rfl) (by kernel_rfl) (by kernel_rfl) (fun _ _ _ h => h) (Or.inl ⟨by rfl, ?_⟩) (by assumption) ?_
            rotate_left 1
            · (intro w hSw; (try dsimp only at hSw); go_simp; try with_reducible rfl)
            (try simp only [Act.put, List.setIfInBounds_toArray, List.set_cons_zero, List.set_cons_succ, List.getElem_toArray, List.getElem_cons_zero, List.getElem_cons_succ])
            refine wpAnyH_done (by kernel_rfl) ?_ _
            have KJ := bel_then K J6
            have Bm2 := Bm.next J6
            have SG : SeesN areaSh wi6 0 A6 (n + 1) (insA a xs) := ⟨hs.take k ++ (⟨a, Aa, na, ca0⟩ : Hd Area) :: hs.drop k, by rw [HPE.out, List.map_append, List.map_cons, List.map_take, List.map_drop, HRS.out], by
              have h := (Sees.of_own own).less (Nat.zero_le _)
              rw [show k + 1 + (n - k) = n + 1 by omega] at h
              rw [List.flatMap_append, List.flatMap_cons]
              simpa [areaSh, List.append_assoc] using h, fun r hr => by
              rcases List.mem_append.1 hr with h1 | h1
              · exact (HIS.out r (List.mem_of_mem_take h1)).below KJ (Nat.le_refl _)
              · rcases List.mem_cons.1 h1 with rfl | h1
                · exact ha.below KJ (Nat.le_refl _)
                · exact (HIS.out r (List.mem_of_mem_drop h1)).below KJ (Nat.le_refl _)⟩
            have hln : k + 1 + (n - k) = n + 1 := by omega
            clear own
            have cm := Bm2.cell
            go_wp2_with fail
            refine (l24Good_any _ _ _ _ _ _ m _ _ _ (insA a xs) _ (hm.next KJ) hn' (by first | exact SG | (rw [hln]; exact SG)) (by omega) HIN.out).mono ?_
            cases g2 : areasB m (insA a xs)
            · rintro e w7 ⟨rfl, b7⟩
              go_wp2_with fail
              go_ret2
              rw [show addArea m xs a = none by simp [addArea, g2]]
              exact givesA_empty w7 (bel_then KJ b7)
            · rintro e w7 ⟨rfl, b7⟩
              have K7 := bel_then KJ b7
              have SG7 := SG.next b7
              clear cm
              go_wp2_with fail
              refine (l24Copy_any _ _ _ (insA a xs) _ (by first | exact SG7 | (rw [hln]; exact SG7)) (by omega) HIN.out).mono ?_
              rintro e w8 ⟨A8, c8, rfl, N8, b8⟩
              go_wp2_with fail
              go_ret2
              rw [show addArea m xs a = some (insA a xs) by simp [addArea, g2, G1.out]]
              exact givesA_some (N8.wide fun b hb => ⟨Nat.le_trans K7.size hb.1, hb.2⟩) (bel_then K7 b8)
      · have HPE := Lib.hid (insA_at (a := a) (xs := xs) (k := k) (by have := HL.out; omega) HB.out (fun h => absurd h (by have := HL.out; omega)))
        clear HB
        go_wp2_with fail
        go_quiet (fail)
        have bq := (Quiet.mk wr nq).below wr.heap.size
        replace Bm := Bm.next bq
        replace Ba := Ba.next bq
        replace K := bel_then K bq
        clear ca bq
        generalize wr.drewN nq = wv at *
        have ca := Ba.cell
        obtain ⟨hs, hrs, hsee, hin⟩ := hx
        have HRS := Lib.hid hrs
        have HIS := Lib.hid hin
        clear hrs hin
        rcases hsh with ⟨rfl, rfl, rfl⟩ | ⟨g, rfl, hnc⟩
        · obtain rfl : k = 0 := by omega
          have hs0 : hs = [] := List.eq_nil_of_length_eq_zero (by have := hsee.count (by decide) areaSh.len; omega)
          have hpre : Sees wv 0 4 none 0 ((hs.take 0).flatMap areaSh.enc) := by rw [hs0]; exact Sees.nil _ _ _ _
          have hsuf : Sees wv 0 4 none 0 ((hs.drop 0).flatMap areaSh.enc) := by rw [hs0]; exact Sees.nil _ _ _ _
          go_wp2_with fail
          have J1 := (Quiet.one wv).below wv.heap.size
          refine wp_region_held_drew (S := fun w' => w'.cell? ⟨w.heap.size + 1, 0, none⟩ = some (.int .i64 a.id) ∧ w'.cell? ⟨w.heap.size + 1, 1, none⟩ = some (.slice Aa na ca0) ∧ w'.cell? ⟨w.heap.size + 1, 2, none⟩ = some (.int .i64 a.first) ∧ w'.cell? ⟨w.heap.size + 1, 3, none⟩ = some (.int .i64 a.last)) (by kernel_rfl) (⟨(Ba.next J1).cell 0, (Ba.next J1).cell 1, (Ba.next J1).cell 2, (Ba.next J1).cell 3⟩) (fun hHeld => ?_)
          generalize wv.drew = wi1 at *
          refine wpAnyH_take (i := 1) (v := ?_) rfl (by kernel_rfl) (by kernel_rfl) (by kernel_rfl) (fun _ _ _ h => h) (Or.inl ⟨by rfl, ?_⟩) (by assumption) ?_
          rotate_left 1
          · (intro w hSw; (try dsimp only at hSw); go_simp; try with_reducible rfl)
          (try simp only [Act.put, List.setIfInBounds_toArray, List.set_cons_zero, List.set_cons_succ, List.getElem_toArray, List.getElem_cons_zero, List.getElem_cons_succ])
          refine wpAnyH_take (i := 2) (v := ?_) rfl (by kernel_rfl) (by kernel_rfl) (by kernel_rfl) (fun _ _ _ h => h) (Or.inl ⟨by rfl, ?_⟩) (by assumption) ?_
          rotate_left 1
          · (intro w hSw; (try dsimp only at hSw); go_simp; try with_reducible rfl)
          (try simp only [Act.put, List.setIfInBounds_toArray, List.set_cons_zero, List.set_cons_succ, List.getElem_toArray, List.getElem_cons_zero, List.getElem_cons_succ])
          refine wpAnyH_take (i := 3) (v := ?_) rfl (by kernel_rfl) (by kernel_rfl) (by kernel_rfl) (fun _ _ _ h => h) (Or.inl ⟨by rfl, ?_⟩) (by assumption) ?_
          rotate_left 1
          · (intro w hSw; (try dsimp only at hSw); go_simp; try with_reducible rfl)
          (try simp only [Act.put, List.setIfInBounds_toArray, List.set_cons_zero, List.set_cons_succ, List.getElem_toArray, List.getElem_cons_zero, List.getElem_cons_succ])
          refine wpAnyH_take (i := 5) (v := ?_) rfl (by kernel_rfl) (by kernel_rfl) (by kernel_rfl) (fun _ _ _ h => h) (Or.inl ⟨by rfl, ?_⟩) (by assumption) ?_
          rotate_left 1
          · (intro w hSw; (try dsimp only at hSw); go_simp; try with_reducible rfl)
          (try simp only [Act.put, List.setIfInBounds_toArray, List.set_cons_zero, List.set_cons_succ, List.getElem_toArray, List.getElem_cons_zero, List.getElem_cons_succ])
          refine wpAnyH_take (i := 8) (v := ?_) rfl (by kernel_rfl) (by kernel_rfl) (by kernel_rfl) (fun _ _ _ h => h) (Or.inl ⟨by rfl, ?_⟩) (by assumption) ?_
          rotate_left 1
          · (intro w hSw; (try dsimp only at hSw); go_simp; try with_reducible rfl)
          (try simp only [Act.put, List.setIfInBounds_toArray, List.set_cons_zero, List.set_cons_succ, List.getElem_toArray, List.getElem_cons_zero, List.getElem_cons_succ])
          refine wpAnyH_take (i := 9) (v := ?_) rfl (by kernel_rfl) (by kernel_rfl) (by kernel_rfl) (fun _ _ _ h => h) (Or.inl ⟨by rfl, ?_⟩) (by assumption) ?_
          rotate_left 1
          · (intro w hSw; (try dsimp only at hSw); go_simp; try with_reducible rfl)
          (try simp only [Act.put, List.setIfInBounds_toArray, List.set_cons_zero, List.set_cons_succ, List.getElem_toArray, List.getElem_cons_zero, List.getElem_cons_succ])
          refine wpAnyH_take (i := 10) (v := ?_) rfl (by kernel_rfl) (by kernel_rfl) (by kernel_rfl) (fun _ _ _ h => h) (Or.inl ⟨by rfl, ?_⟩) (by assumption) ?_
          rotate_left 1
          · (intro w hSw; (try dsimp only at hSw); go_simp; try with_reducible rfl)
          (try simp only [Act.put, List.setIfInBounds_toArray, List.set_cons_zero, List.set_cons_succ, List.getElem_toArray, List.getElem_cons_zero, List.getElem_cons_succ])
          refine wpAnyH_ready (rs := [0, 6]) (by kernel_rfl) (by simp) ?_
          refine AllReadyH.cons rfl (fun K hK => ?_) ?_
          · go_simp
            have U2 : Below wi1.heap.size wi1 (wi1.alloc (.cells #[] 62)) := (Below.refl _ _).alloc (Nat.le_refl _) _
            have J2 := bel_then J1 U2
            refine hK.out _ _ (⟨(Ba.next J2).cell 0, (Ba.next J2).cell 1, (Ba.next J2).cell 2, (Ba.next J2).cell 3⟩) (fun hHeld => ?_)
            clear hK K
            (try simp only [Act.put, List.setIfInBounds_toArray, List.set_cons_zero, List.set_cons_succ, List.getElem_toArray, List.getElem_cons_zero])
            have own := own_base (own_empty wi1 62 4) (show wv.heap.size ≤ wi1.heap.size from J1.size)
            generalize (wi1.alloc (.cells #[] 62)) = wi2 at *
            have ownP := own
            refine wpAnyH_ready (rs := [4, 6]) (by kernel_rfl) (by simp) ?_
            refine AllReadyH.cons rfl (fun K hK => ?_) ?_
            · refine step_cat rfl _ _ _ (by rfl) Try.underlying31 info_impl_Area rfl (by decide) (by rfl) own (by rfl) (m := 0) (hpre.next J2) (areas_all _) (by omega) (by omega) (by decide) (by have := J2.size; omega) ?_
              intro A3 c3 wi3 own3 o3 b3 q3
              have J3 := J2.trans b3
              refine hK.out _ _ (⟨(Ba.next J3).cell 0, (Ba.next J3).cell 1, (Ba.next J3).cell 2, (Ba.next J3).cell 3⟩) (fun hHeld => ?_)
              clear hK K
              (try simp only [Act.put, List.setIfInBounds_toArray, List.set_cons_zero, List.set_cons_succ, List.getElem_toArray, List.getElem_cons_zero, List.getElem_cons_succ])
              (try simp only [Nat.zero_add])
              simp only [Nat.zero_add, List.nil_append] at own3
              replace own := own3
              clear own3
              replace ownP := own
              refine wpAnyH_ready (rs := [6]) (by kernel_rfl) (by simp) ?_
              refine AllReadyH.cons rfl (fun K hK => ?_) AllReadyH.nil
              go_simp
              have U4 : Below wi3.heap.size wi3 (wi3.alloc (.cells #[.int .i64 a.id, .slice Aa na ca0, .int .i64 a.first, .int .i64 a.last] 62)) := (Below.refl _ _).alloc (Nat.le_refl _) _
              have J4 := bel_then J3 U4
              refine hK.out _ _ (⟨(Ba.next J4).cell 0, (Ba.next J4).cell 1, (Ba.next J4).cell 2, (Ba.next J4).cell 3⟩) (fun hHeld => ?_)
              clear hK K
              (try simp only [Act.put, List.setIfInBounds_toArray, List.set_cons_zero, List.set_cons_succ, List.getElem_toArray, List.getElem_cons_zero, List.getElem_cons_succ])
              replace own := own_below own U4
              have box : Blk (wi3.alloc (.cells #[.int .i64 a.id, .slice Aa na ca0, .int .i64 a.first, .int .i64 a.last] 62)) wi3.heap.size 62 [.int .i64 a.id, .slice Aa na ca0, .int .i64 a.first, .int .i64 a.last] := Blk.at_ rfl
              have lb := box.lt
              have hne : ∀ b, OwnB A3 b → b ≠ wi3.heap.size := fun b hb => by have := (own_top ownP hb).2; omega
              generalize (wi3.alloc (.cells #[.int .i64 a.id, .slice Aa na ca0, .int .i64 a.first, .int .i64 a.last] 62)) = wi4 at *
              replace ownP := own
              refine wpAnyH_ready (rs := [7]) (by kernel_rfl) (by simp) ?_
              refine AllReadyH.cons rfl (fun K hK => ?_) AllReadyH.nil
              refine step_cat rfl _ _ _ (by rfl) Try.underlying31 info_impl_Area rfl (by decide) (by rfl) own (by rfl) (m := 1) (box.sees (s := 4) (Nat.zero_le _) rfl) (by simp [Value.oneCell']) (by omega) (by omega) (by decide) (by have := J4.size; omega) ?_
              intro A5 c5 wi5 own5 o5 b5 q5
              have J5 := J4.trans b5
              refine hK.out _ _ (⟨(Ba.next J5).cell 0, (Ba.next J5).cell 1, (Ba.next J5).cell 2, (Ba.next J5).cell 3⟩) (fun hHeld => ?_)
              clear hK K
              (try simp only [Act.put, List.setIfInBounds_toArray, List.set_cons_zero, List.set_cons_succ, List.getElem_toArray, List.getElem_cons_zero, List.getElem_cons_succ])
              replace own := own5
              clear own5
              refine wpAnyH_ready (rs := [11]) (by kernel_rfl) (by simp) ?_
              refine AllReadyH.cons rfl (fun K hK => ?_) AllReadyH.nil
              refine step_cat rfl _ _ _ (by rfl) Try.underlying31 info_impl_Area rfl (by decide) (by rfl) own (by rfl) (m := 0) (hsuf.next J5) (areas_all _) (by omega) (by omega) (by decide) (by have := J5.size; omega) ?_
              intro A6 c6 wi6 own6 o6 b6 q6
              have J6 := J5.trans b6
              refine hK.out _ _ (⟨(Ba.next J6).cell 0, (Ba.next J6).cell 1, (Ba.next J6).cell 2, (Ba.next J6).cell 3⟩) (fun hHeld => ?_)
              clear hK K
              (try simp only [Act.put, List.setIfInBounds_toArray, List.set_cons_zero, List.set_cons_succ, List.getElem_toArray, List.getElem_cons_zero, List.getElem_cons_succ])
              replace own := own6
              clear own6
              refine wpAnyH_take (i := 12) (v := ?_) rfl (by kernel_rfl) (by kernel_rfl) (by kernel_rfl) (fun _ _ _ h => h) (Or.inl ⟨by rfl, ?_⟩) (by assumption) ?_
              rotate_left 1
              · (intro w hSw; (try dsimp only at hSw); go_simp; try with_reducible rfl)
              (try simp only [Act.put, List.setIfInBounds_toArray, List.set_cons_zero, List.set_cons_succ, List.getElem_toArray, List.getElem_cons_zero, List.getElem_cons_succ])
              refine wpAnyH_done (by kernel_rfl) ?_ _
              have KJ := bel_then K J6
              have Bm2 := Bm.next J6
              have SG : SeesN areaSh wi6 0 A6 (0 + 1) (insA a xs) := ⟨hs.take 0 ++ (⟨a, Aa, na, ca0⟩ : Hd Area) :: hs.drop 0, by rw [HPE.out, List.map_append, List.map_cons, List.map_take, List.map_drop, HRS.out], by
                have h := (Sees.of_own own).less (Nat.zero_le _)
                rw [show 0 + 1 + 0 = 0 + 1 by omega] at h
                rw [List.flatMap_append, List.flatMap_cons]
                simpa [areaSh, List.append_assoc] using h, fun r hr => by
                rcases List.mem_append.1 hr with h1 | h1
                · exact (HIS.out r (List.mem_of_mem_take h1)).below KJ (Nat.le_refl _)
                · rcases List.mem_cons.1 h1 with rfl | h1
                  · exact ha.below KJ (Nat.le_refl _)
                  · exact (HIS.out r (List.mem_of_mem_drop h1)).below KJ (Nat.le_refl _)⟩
              have hln : 0 + 1 + 0 = 0 + 1 := by omega
              clear own
              have cm := Bm2.cell
              go_wp2_with fail
              refine (l24Good_any _ _ _ _ _ _ m _ _ _ (insA a xs) _ (hm.next KJ) hn' (by first | exact SG | (rw [hln]; exact SG)) (by omega) HIN.out).mono ?_
              cases g2 : areasB m (insA a xs)
              · rintro e w7 ⟨rfl, b7⟩
                go_wp2_with fail
                go_ret2
                rw [show addArea m xs a = none by simp [addArea, g2]]
                exact givesA_empty w7 (bel_then KJ b7)
              · rintro e w7 ⟨rfl, b7⟩
                have K7 := bel_then KJ b7
                have SG7 := SG.next b7
                clear cm
                go_wp2_with fail
                refine (l24Copy_any _ _ _ (insA a xs) _ (by first | exact SG7 | (rw [hln]; exact SG7)) (by omega) HIN.out).mono ?_
                rintro e w8 ⟨A8, c8, rfl, N8, b8⟩
                go_wp2_with fail
                go_ret2
                rw [show addArea m xs a = some (insA a xs) by simp [addArea, g2, G1.out]]
                exact givesA_some (N8.wide fun b hb => ⟨Nat.le_trans K7.size hb.1, hb.2⟩) (bel_then K7 b8)
            refine AllReadyH.cons rfl (fun K hK => ?_) AllReadyH.nil
            · go_simp
              have U3 : Below wi2.heap.size wi2 (wi2.alloc (.cells #[.int .i64 a.id, .slice Aa na ca0, .int .i64 a.first, .int .i64 a.last] 62)) := (Below.refl _ _).alloc (Nat.le_refl _) _
              have J3 := bel_then J2 U3
              refine hK.out _ _ (⟨(Ba.next J3).cell 0, (Ba.next J3).cell 1, (Ba.next J3).cell 2, (Ba.next J3).cell 3⟩) (fun hHeld => ?_)
              clear hK K
              (try simp only [Act.put, List.setIfInBounds_toArray, List.set_cons_zero, List.set_cons_succ, List.getElem_toArray, List.getElem_cons_zero, List.getElem_cons_succ])
              replace own := own_below own U3
              have box : Blk (wi2.alloc (.cells #[.int .i64 a.id, .slice Aa na ca0, .int .i64 a.first, .int .i64 a.last] 62)) wi2.heap.size 62 [.int .i64 a.id, .slice Aa na ca0, .int .i64 a.first, .int .i64 a.last] := Blk.at_ rfl
              have lb := box.lt
              have hne : ∀ b, OwnB (some ⟨wi1.heap.size, 0, none⟩) b → b ≠ wi2.heap.size := fun b hb => by have := (own_top ownP hb).2; omega
              generalize (wi2.alloc (.cells #[.int .i64 a.id, .slice Aa na ca0, .int .i64 a.first, .int .i64 a.last] 62)) = wi3 at *
              replace ownP := own
              refine wpAnyH_ready (rs := [4]) (by kernel_rfl) (by simp) ?_
              refine AllReadyH.cons rfl (fun K hK => ?_) AllReadyH.nil
              refine step_cat rfl _ _ _ (by rfl) Try.underlying31 info_impl_Area rfl (by decide) (by rfl) own (by rfl) (m := 0) (hpre.next J3) (areas_all _) (by omega) (by omega) (by decide) (by have := J3.size; omega) ?_
              intro A4 c4 wi4 own4 o4 b4 q4
              have J4 := J3.trans b4
              refine hK.out _ _ (⟨(Ba.next J4).cell 0, (Ba.next J4).cell 1, (Ba.next J4).cell 2, (Ba.next J4).cell 3⟩) (fun hHeld => ?_)
              clear hK K
              (try simp only [Act.put, List.setIfInBounds_toArray, List.set_cons_zero, List.set_cons_succ, List.getElem_toArray, List.getElem_cons_zero, List.getElem_cons_succ])
              (try simp only [Nat.zero_add])
              replace box := box.only o4 (fun h => hne _ h rfl)
              simp only [Nat.zero_add, List.nil_append] at own4
              replace own := own4
              clear own4
              replace ownP := own
              refine wpAnyH_ready (rs := [7]) (by kernel_rfl) (by simp) ?_
              refine AllReadyH.cons rfl (fun K hK => ?_) AllReadyH.nil
              refine step_cat rfl _ _ _ (by rfl) Try.underlying31 info_impl_Area rfl (by decide) (by rfl) own (by rfl) (m := 1) (box.sees (s := 4) (Nat.zero_le _) rfl) (by simp [Value.oneCell']) (by omega) (by omega) (by decide) (by have := J4.size; omega) ?_
              intro A5 c5 wi5 own5 o5 b5 q5
              have J5 := J4.trans b5
              refine hK.out _ _ (⟨(Ba.next J5).cell 0, (Ba.next J5).cell 1, (Ba.next J5).cell 2, (Ba.next J5).cell 3⟩) (fun hHeld => ?_)
              clear hK K
              (try simp only [Act.put, List.setIfInBounds_toArray, List.set_cons_zero, List.set_cons_succ, List.getElem_toArray, List.getElem_cons_zero, List.getElem_cons_succ])
              replace own := own5
              clear own5
              refine wpAnyH_ready (rs := [11]) (by kernel_rfl) (by simp) ?_
              refine AllReadyH.cons rfl (fun K hK => ?_) AllReadyH.nil
              refine step_cat rfl _ _ _ (by rfl) Try.underlying31 info_impl_Area rfl (by decide) (by rfl) own (by rfl) (m := 0) (hsuf.next J5) (areas_all _) (by omega) (by omega) (by decide) (by have := J5.size; omega) ?_
              intro A6 c6 wi6 own6 o6 b6 q6
              have J6 := J5.trans b6
              refine hK.out _ _ (⟨(Ba.next J6).cell 0, (Ba.next J6).cell 1, (Ba.next J6).cell 2, (Ba.next J6).cell 3⟩) (fun hHeld => ?_)
              clear hK K
              (try simp only [Act.put, List.setIfInBounds_toArray, List.set_cons_zero, List.set_cons_succ, List.getElem_toArray, List.getElem_cons_zero, List.getElem_cons_succ])
              replace own := own6
              clear own6
              refine wpAnyH_take (i := 12) (v := ?_) rfl (by kernel_rfl) (by kernel_rfl) (by kernel_rfl) (fun _ _ _ h => h) (Or.inl ⟨by rfl, ?_⟩) (by assumption) ?_
              rotate_left 1
              · (intro w hSw; (try dsimp only at hSw); go_simp; try with_reducible rfl)
              (try simp only [Act.put, List.setIfInBounds_toArray, List.set_cons_zero, List.set_cons_succ, List.getElem_toArray, List.getElem_cons_zero, List.getElem_cons_succ])
              refine wpAnyH_done (by kernel_rfl) ?_ _
              have KJ := bel_then K J6
              have Bm2 := Bm.next J6
              have SG : SeesN areaSh wi6 0 A6 (0 + 1) (insA a xs) := ⟨hs.take 0 ++ (⟨a, Aa, na, ca0⟩ : Hd Area) :: hs.drop 0, by rw [HPE.out, List.map_append, List.map_cons, List.map_take, List.map_drop, HRS.out], by
                have h := (Sees.of_own own).less (Nat.zero_le _)
                rw [show 0 + 1 + 0 = 0 + 1 by omega] at h
                rw [List.flatMap_append, List.flatMap_cons]
                simpa [areaSh, List.append_assoc] using h, fun r hr => by
                rcases List.mem_append.1 hr with h1 | h1
                · exact (HIS.out r (List.mem_of_mem_take h1)).below KJ (Nat.le_refl _)
                · rcases List.mem_cons.1 h1 with rfl | h1
                  · exact ha.below KJ (Nat.le_refl _)
                  · exact (HIS.out r (List.mem_of_mem_drop h1)).below KJ (Nat.le_refl _)⟩
              have hln : 0 + 1 + 0 = 0 + 1 := by omega
              clear own
              have cm := Bm2.cell
              go_wp2_with fail
              refine (l24Good_any _ _ _ _ _ _ m _ _ _ (insA a xs) _ (hm.next KJ) hn' (by first | exact SG | (rw [hln]; exact SG)) (by omega) HIN.out).mono ?_
              cases g2 : areasB m (insA a xs)
              · rintro e w7 ⟨rfl, b7⟩
                go_wp2_with fail
                go_ret2
                rw [show addArea m xs a = none by simp [addArea, g2]]
                exact givesA_empty w7 (bel_then KJ b7)
              · rintro e w7 ⟨rfl, b7⟩
                have K7 := bel_then KJ b7
                have SG7 := SG.next b7
                clear cm
                go_wp2_with fail
                refine (l24Copy_any _ _ _ (insA a xs) _ (by first | exact SG7 | (rw [hln]; exact SG7)) (by omega) HIN.out).mono ?_
                rintro e w8 ⟨A8, c8, rfl, N8, b8⟩
                go_wp2_with fail
                go_ret2
                rw [show addArea m xs a = some (insA a xs) by simp [addArea, g2, G1.out]]
                exact givesA_some (N8.wide fun b hb => ⟨Nat.le_trans K7.size hb.1, hb.2⟩) (bel_then K7 b8)
          refine AllReadyH.cons rfl (fun K hK => ?_) AllReadyH.nil
          · go_simp
            have U2 : Below wi1.heap.size wi1 (wi1.alloc (.cells #[.int .i64 a.id, .slice Aa na ca0, .int .i64 a.first, .int .i64 a.last] 62)) := (Below.refl _ _).alloc (Nat.le_refl _) _
            have J2 := bel_then J1 U2
            refine hK.out _ _ (⟨(Ba.next J2).cell 0, (Ba.next J2).cell 1, (Ba.next J2).cell 2, (Ba.next J2).cell 3⟩) (fun hHeld => ?_)
            clear hK K
            (try simp only [Act.put, List.setIfInBounds_toArray, List.set_cons_zero, List.set_cons_succ, List.getElem_toArray, List.getElem_cons_zero, List.getElem_cons_succ])
            have box : Blk (wi1.alloc (.cells #[.int .i64 a.id, .slice Aa na ca0, .int .i64 a.first, .int .i64 a.last] 62)) wi1.heap.size 62 [.int .i64 a.id, .slice Aa na ca0, .int .i64 a.first, .int .i64 a.last] := Blk.at_ rfl
            have lb := box.lt
            generalize (wi1.alloc (.cells #[.int .i64 a.id, .slice Aa na ca0, .int .i64 a.first, .int .i64 a.last] 62)) = wi2 at *
            refine wpAnyH_ready (rs := [0]) (by kernel_rfl) (by simp) ?_
            refine AllReadyH.cons rfl (fun K hK => ?_) AllReadyH.nil
            go_simp
            have U3 : Below wi2.heap.size wi2 (wi2.alloc (.cells #[] 62)) := (Below.refl _ _).alloc (Nat.le_refl _) _
            have J3 := bel_then J2 U3
            refine hK.out _ _ (⟨(Ba.next J3).cell 0, (Ba.next J3).cell 1, (Ba.next J3).cell 2, (Ba.next J3).cell 3⟩) (fun hHeld => ?_)
            clear hK K
            (try simp only [Act.put, List.setIfInBounds_toArray, List.set_cons_zero, List.set_cons_succ, List.getElem_toArray, List.getElem_cons_zero])
            replace box := box.next U3
            have own := own_base (own_empty wi2 62 4) (show wv.heap.size ≤ wi2.heap.size from J2.size)
            have hne : ∀ b, OwnB (some ⟨wi2.heap.size, 0, none⟩) b → b ≠ wi1.heap.size := fun b hb => by have h4 : wi2.heap.size = b := (by simpa [OwnB, Value.ownBlock] using hb); have h5 := lb; omega
            generalize (wi2.alloc (.cells #[] 62)) = wi3 at *
            have ownP := own
            refine wpAnyH_ready (rs := [4]) (by kernel_rfl) (by simp) ?_
            refine AllReadyH.cons rfl (fun K hK => ?_) AllReadyH.nil
            refine step_cat rfl _ _ _ (by rfl) Try.underlying31 info_impl_Area rfl (by decide) (by rfl) own (by rfl) (m := 0) (hpre.next J3) (areas_all _) (by omega) (by omega) (by decide) (by have := J3.size; omega) ?_
            intro A4 c4 wi4 own4 o4 b4 q4
            have J4 := J3.trans b4
            refine hK.out _ _ (⟨(Ba.next J4).cell 0, (Ba.next J4).cell 1, (Ba.next J4).cell 2, (Ba.next J4).cell 3⟩) (fun hHeld => ?_)
            clear hK K
            (try simp only [Act.put, List.setIfInBounds_toArray, List.set_cons_zero, List.set_cons_succ, List.getElem_toArray, List.getElem_cons_zero, List.getElem_cons_succ])
            (try simp only [Nat.zero_add])
            replace box := box.only o4 (fun h => hne _ h rfl)
            simp only [Nat.zero_add, List.nil_append] at own4
            replace own := own4
            clear own4
            replace ownP := own
            refine wpAnyH_ready (rs := [7]) (by kernel_rfl) (by simp) ?_
            refine AllReadyH.cons rfl (fun K hK => ?_) AllReadyH.nil
            refine step_cat rfl _ _ _ (by rfl) Try.underlying31 info_impl_Area rfl (by decide) (by rfl) own (by rfl) (m := 1) (box.sees (s := 4) (Nat.zero_le _) rfl) (by simp [Value.oneCell']) (by omega) (by omega) (by decide) (by have := J4.size; omega) ?_
            intro A5 c5 wi5 own5 o5 b5 q5
            have J5 := J4.trans b5
            refine hK.out _ _ (⟨(Ba.next J5).cell 0, (Ba.next J5).cell 1, (Ba.next J5).cell 2, (Ba.next J5).cell 3⟩) (fun hHeld => ?_)
            clear hK K
            (try simp only [Act.put, List.setIfInBounds_toArray, List.set_cons_zero, List.set_cons_succ, List.getElem_toArray, List.getElem_cons_zero, List.getElem_cons_succ])
            replace own := own5
            clear own5
            refine wpAnyH_ready (rs := [11]) (by kernel_rfl) (by simp) ?_
            refine AllReadyH.cons rfl (fun K hK => ?_) AllReadyH.nil
            refine step_cat rfl _ _ _ (by rfl) Try.underlying31 info_impl_Area rfl (by decide) (by rfl) own (by rfl) (m := 0) (hsuf.next J5) (areas_all _) (by omega) (by omega) (by decide) (by have := J5.size; omega) ?_
            intro A6 c6 wi6 own6 o6 b6 q6
            have J6 := J5.trans b6
            refine hK.out _ _ (⟨(Ba.next J6).cell 0, (Ba.next J6).cell 1, (Ba.next J6).cell 2, (Ba.next J6).cell 3⟩) (fun hHeld => ?_)
            clear hK K
            (try simp only [Act.put, List.setIfInBounds_toArray, List.set_cons_zero, List.set_cons_succ, List.getElem_toArray, List.getElem_cons_zero, List.getElem_cons_succ])
            replace own := own6
            clear own6
            refine wpAnyH_take (i := 12) (v := ?_) rfl (by kernel_rfl) (by kernel_rfl) (by kernel_rfl) (fun _ _ _ h => h) (Or.inl ⟨by rfl, ?_⟩) (by assumption) ?_
            rotate_left 1
            · (intro w hSw; (try dsimp only at hSw); go_simp; try with_reducible rfl)
            (try simp only [Act.put, List.setIfInBounds_toArray, List.set_cons_zero, List.set_cons_succ, List.getElem_toArray, List.getElem_cons_zero, List.getElem_cons_succ])
            refine wpAnyH_done (by kernel_rfl) ?_ _
            have KJ := bel_then K J6
            have Bm2 := Bm.next J6
            have SG : SeesN areaSh wi6 0 A6 (0 + 1) (insA a xs) := ⟨hs.take 0 ++ (⟨a, Aa, na, ca0⟩ : Hd Area) :: hs.drop 0, by rw [HPE.out, List.map_append, List.map_cons, List.map_take, List.map_drop, HRS.out], by
              have h := (Sees.of_own own).less (Nat.zero_le _)
              rw [show 0 + 1 + 0 = 0 + 1 by omega] at h
              rw [List.flatMap_append, List.flatMap_cons]
              simpa [areaSh, List.append_assoc] using h, fun r hr => by
              rcases List.mem_append.1 hr with h1 | h1
              · exact (HIS.out r (List.mem_of_mem_take h1)).below KJ (Nat.le_refl _)
              · rcases List.mem_cons.1 h1 with rfl | h1
                · exact ha.below KJ (Nat.le_refl _)
                · exact (HIS.out r (List.mem_of_mem_drop h1)).below KJ (Nat.le_refl _)⟩
            have hln : 0 + 1 + 0 = 0 + 1 := by omega
            clear own
            have cm := Bm2.cell
            go_wp2_with fail
            refine (l24Good_any _ _ _ _ _ _ m _ _ _ (insA a xs) _ (hm.next KJ) hn' (by first | exact SG | (rw [hln]; exact SG)) (by omega) HIN.out).mono ?_
            cases g2 : areasB m (insA a xs)
            · rintro e w7 ⟨rfl, b7⟩
              go_wp2_with fail
              go_ret2
              rw [show addArea m xs a = none by simp [addArea, g2]]
              exact givesA_empty w7 (bel_then KJ b7)
            · rintro e w7 ⟨rfl, b7⟩
              have K7 := bel_then KJ b7
              have SG7 := SG.next b7
              clear cm
              go_wp2_with fail
              refine (l24Copy_any _ _ _ (insA a xs) _ (by first | exact SG7 | (rw [hln]; exact SG7)) (by omega) HIN.out).mono ?_
              rintro e w8 ⟨A8, c8, rfl, N8, b8⟩
              go_wp2_with fail
              go_ret2
              rw [show addArea m xs a = some (insA a xs) by simp [addArea, g2, G1.out]]
              exact givesA_some (N8.wide fun b hb => ⟨Nat.le_trans K7.size hb.1, hb.2⟩) (bel_then K7 b8)
        · have hpre := (hsee.below K (Nat.le_refl _)).takeA k hk
          have hsuf0 := (hsee.below K (Nat.le_refl _)).dropA k hk
          obtain rfl : k = n := by omega
          by_cases hck : c = k
          · have hsuf : Sees wv 0 4 (some ⟨g, 0, none⟩) 0 ((hs.drop k).flatMap areaSh.enc) := by
              rw [List.drop_of_length_le (by have := hsee.count (by decide) areaSh.len; omega)]; exact Sees.nil _ _ _ _
            have hkc : k = c := hck.symm
            subst hkc
            go_wp2_with fail
            have J1 := (Quiet.one wv).below wv.heap.size
            refine wp_region_held_drew (S := fun w' => w'.cell? ⟨w.heap.size + 1, 0, none⟩ = some (.int .i64 a.id) ∧ w'.cell? ⟨w.heap.size + 1, 1, none⟩ = some (.slice Aa na ca0) ∧ w'.cell? ⟨w.heap.size + 1, 2, none⟩ = some (.int .i64 a.first) ∧ w'.cell? ⟨w.heap.size + 1, 3, none⟩ = some (.int .i64 a.last)) (by kernel_rfl) (⟨(Ba.next J1).cell 0, (Ba.next J1).cell 1, (Ba.next J1).cell 2, (Ba.next J1).cell 3⟩) (fun hHeld => ?_)
            generalize wv.drew = wi1 at *
            refine wpAnyH_take (i := 1) (v := ?_) rfl (by kernel_rfl) (by kernel_rfl) (by kernel_rfl) (fun _ _ _ h => h) (Or.inl ⟨by rfl, ?_⟩) (by assumption) ?_
            rotate_left 1
            · (intro w hSw; (try dsimp only at hSw); go_simp; try with_reducible rfl)
            (try simp only [Act.put, List.setIfInBounds_toArray, List.set_cons_zero, List.set_cons_succ, List.getElem_toArray, List.getElem_cons_zero, List.getElem_cons_succ])
            refine wpAnyH_take (i := 2) (v := ?_) rfl (by kernel_rfl) (by kernel_rfl) (by kernel_rfl) (fun _ _ _ h => h) (Or.inl ⟨by rfl, ?_⟩) (by assumption) ?_
            rotate_left 1
            · (intro w hSw; (try dsimp only at hSw); go_simp; try with_reducible rfl)
            (try simp only [Act.put, List.setIfInBounds_toArray, List.set_cons_zero, List.set_cons_succ, List.getElem_toArray, List.getElem_cons_zero, List.getElem_cons_succ])
            refine wpAnyH_take (i := 3) (v := ?_) rfl (by kernel_rfl) (by kernel_rfl) (by kernel_rfl) (fun _ _ _ h => h) (Or.inl ⟨by rfl, ?_⟩) (by assumption) ?_
            rotate_left 1
            · (intro w hSw; (try dsimp only at hSw); go_simp; try with_reducible rfl)
            (try simp only [Act.put, List.setIfInBounds_toArray, List.set_cons_zero, List.set_cons_succ, List.getElem_toArray, List.getElem_cons_zero, List.getElem_cons_succ])
            refine wpAnyH_take (i := 5) (v := ?_) rfl (by kernel_rfl) (by kernel_rfl) (by kernel_rfl) (fun _ _ _ h => h) (Or.inl ⟨by rfl, ?_⟩) (by assumption) ?_
            rotate_left 1
            · (intro w hSw; (try dsimp only at hSw); go_simp; try with_reducible rfl)
            (try simp only [Act.put, List.setIfInBounds_toArray, List.set_cons_zero, List.set_cons_succ, List.getElem_toArray, List.getElem_cons_zero, List.getElem_cons_succ])
            refine wpAnyH_take (i := 8) (v := ?_) rfl (by kernel_rfl) (by kernel_rfl) (by kernel_rfl) (fun _ _ _ h => h) (Or.inl ⟨by rfl, ?_⟩) (by assumption) ?_
            rotate_left 1
            · (intro w hSw; (try dsimp only at hSw); go_simp; try with_reducible rfl)
            (try simp only [Act.put, List.setIfInBounds_toArray, List.set_cons_zero, List.set_cons_succ, List.getElem_toArray, List.getElem_cons_zero, List.getElem_cons_succ])
            refine wpAnyH_take (i := 9) (v := ?_) rfl (by kernel_rfl) (by kernel_rfl) (by kernel_rfl) (fun _ _ _ h => h) (Or.inl ⟨by rfl, ?_⟩) (by assumption) ?_
            rotate_left 1
            · (intro w hSw; (try dsimp only at hSw); go_simp; try with_reducible rfl)
            (try simp only [Act.put, List.setIfInBounds_toArray, List.set_cons_zero, List.set_cons_succ, List.getElem_toArray, List.getElem_cons_zero, List.getElem_cons_succ])
            refine wpAnyH_take (i := 10) (v := ?_) rfl (by kernel_rfl) (by kernel_rfl) (by kernel_rfl) (fun _ _ _ h => h) (Or.inl ⟨by rfl, ?_⟩) (by assumption) ?_
            rotate_left 1
            · (intro w hSw; (try dsimp only at hSw); go_simp; try with_reducible rfl)
            (try simp only [Act.put, List.setIfInBounds_toArray, List.set_cons_zero, List.set_cons_succ, List.getElem_toArray, List.getElem_cons_zero, List.getElem_cons_succ])
            refine wpAnyH_ready (rs := [0, 6]) (by kernel_rfl) (by simp) ?_
            refine AllReadyH.cons rfl (fun K hK => ?_) ?_
            · go_simp
              have U2 : Below wi1.heap.size wi1 (wi1.alloc (.cells #[] 62)) := (Below.refl _ _).alloc (Nat.le_refl _) _
              have J2 := bel_then J1 U2
              refine hK.out _ _ (⟨(Ba.next J2).cell 0, (Ba.next J2).cell 1, (Ba.next J2).cell 2, (Ba.next J2).cell 3⟩) (fun hHeld => ?_)
              clear hK K
              (try simp only [Act.put, List.setIfInBounds_toArray, List.set_cons_zero, List.set_cons_succ, List.getElem_toArray, List.getElem_cons_zero])
              have own := own_base (own_empty wi1 62 4) (show wv.heap.size ≤ wi1.heap.size from J1.size)
              generalize (wi1.alloc (.cells #[] 62)) = wi2 at *
              have ownP := own
              refine wpAnyH_ready (rs := [4, 6]) (by kernel_rfl) (by simp) ?_
              refine AllReadyH.cons rfl (fun K hK => ?_) ?_
              · refine step_cat rfl _ _ _ (by rfl) Try.underlying31 info_impl_Area rfl (by decide) (by rfl) own (by rfl) (m := k) (hpre.next J2) (areas_all _) (by omega) (by omega) (by decide) (by have := J2.size; omega) ?_
                intro A3 c3 wi3 own3 o3 b3 q3
                have J3 := J2.trans b3
                refine hK.out _ _ (⟨(Ba.next J3).cell 0, (Ba.next J3).cell 1, (Ba.next J3).cell 2, (Ba.next J3).cell 3⟩) (fun hHeld => ?_)
                clear hK K
                (try simp only [Act.put, List.setIfInBounds_toArray, List.set_cons_zero, List.set_cons_succ, List.getElem_toArray, List.getElem_cons_zero, List.getElem_cons_succ])
                (try simp only [Nat.zero_add])
                simp only [Nat.zero_add, List.nil_append] at own3
                replace own := own3
                clear own3
                replace ownP := own
                refine wpAnyH_ready (rs := [6]) (by kernel_rfl) (by simp) ?_
                refine AllReadyH.cons rfl (fun K hK => ?_) AllReadyH.nil
                go_simp
                have U4 : Below wi3.heap.size wi3 (wi3.alloc (.cells #[.int .i64 a.id, .slice Aa na ca0, .int .i64 a.first, .int .i64 a.last] 62)) := (Below.refl _ _).alloc (Nat.le_refl _) _
                have J4 := bel_then J3 U4
                refine hK.out _ _ (⟨(Ba.next J4).cell 0, (Ba.next J4).cell 1, (Ba.next J4).cell 2, (Ba.next J4).cell 3⟩) (fun hHeld => ?_)
                clear hK K
                (try simp only [Act.put, List.setIfInBounds_toArray, List.set_cons_zero, List.set_cons_succ, List.getElem_toArray, List.getElem_cons_zero, List.getElem_cons_succ])
                replace own := own_below own U4
                have box : Blk (wi3.alloc (.cells #[.int .i64 a.id, .slice Aa na ca0, .int .i64 a.first, .int .i64 a.last] 62)) wi3.heap.size 62 [.int .i64 a.id, .slice Aa na ca0, .int .i64 a.first, .int .i64 a.last] := Blk.at_ rfl
                have lb := box.lt
                have hne : ∀ b, OwnB A3 b → b ≠ wi3.heap.size := fun b hb => by have := (own_top ownP hb).2; omega
                generalize (wi3.alloc (.cells #[.int .i64 a.id, .slice Aa na ca0, .int .i64 a.first, .int .i64 a.last] 62)) = wi4 at *
                replace ownP := own
                refine wpAnyH_ready (rs := [7]) (by kernel_rfl) (by simp) ?_
                refine AllReadyH.cons rfl (fun K hK => ?_) AllReadyH.nil
                refine step_cat rfl _ _ _ (by rfl) Try.underlying31 info_impl_Area rfl (by decide) (by rfl) own (by rfl) (m := 1) (box.sees (s := 4) (Nat.zero_le _) rfl) (by simp [Value.oneCell']) (by omega) (by omega) (by decide) (by have := J4.size; omega) ?_
                intro A5 c5 wi5 own5 o5 b5 q5
                have J5 := J4.trans b5
                refine hK.out _ _ (⟨(Ba.next J5).cell 0, (Ba.next J5).cell 1, (Ba.next J5).cell 2, (Ba.next J5).cell 3⟩) (fun hHeld => ?_)
                clear hK K
                (try simp only [Act.put, List.setIfInBounds_toArray, List.set_cons_zero, List.set_cons_succ, List.getElem_toArray, List.getElem_cons_zero, List.getElem_cons_succ])
                replace own := own5
                clear own5
                refine wpAnyH_ready (rs := [11]) (by kernel_rfl) (by simp) ?_
                refine AllReadyH.cons rfl (fun K hK => ?_) AllReadyH.nil
                refine step_cat rfl _ _ _ (by rfl) Try.underlying31 info_impl_Area rfl (by decide) (by rfl) own (by rfl) (m := 0) (hsuf.next J5) (areas_all _) (by omega) (by omega) (by decide) (by have := J5.size; omega) ?_
                intro A6 c6 wi6 own6 o6 b6 q6
                have J6 := J5.trans b6
                refine hK.out _ _ (⟨(Ba.next J6).cell 0, (Ba.next J6).cell 1, (Ba.next J6).cell 2, (Ba.next J6).cell 3⟩) (fun hHeld => ?_)
                clear hK K
                (try simp only [Act.put, List.setIfInBounds_toArray, List.set_cons_zero, List.set_cons_succ, List.getElem_toArray, List.getElem_cons_zero, List.getElem_cons_succ])
                replace own := own6
                clear own6
                refine wpAnyH_take (i := 12) (v := ?_) rfl (by kernel_rfl) (by kernel_rfl) (by kernel_rfl) (fun _ _ _ h => h) (Or.inl ⟨by rfl, ?_⟩) (by assumption) ?_
                rotate_left 1
                · (intro w hSw; (try dsimp only at hSw); go_simp; try with_reducible rfl)
                (try simp only [Act.put, List.setIfInBounds_toArray, List.set_cons_zero, List.set_cons_succ, List.getElem_toArray, List.getElem_cons_zero, List.getElem_cons_succ])
                refine wpAnyH_done (by kernel_rfl) ?_ _
                have KJ := bel_then K J6
                have Bm2 := Bm.next J6
                have SG : SeesN areaSh wi6 0 A6 (k + 1) (insA a xs) := ⟨hs.take k ++ (⟨a, Aa, na, ca0⟩ : Hd Area) :: hs.drop k, by rw [HPE.out, List.map_append, List.map_cons, List.map_take, List.map_drop, HRS.out], by
                  have h := (Sees.of_own own).less (Nat.zero_le _)
                  rw [show k + 1 + 0 = k + 1 by omega] at h
                  rw [List.flatMap_append, List.flatMap_cons]
                  simpa [areaSh, List.append_assoc] using h, fun r hr => by
                  rcases List.mem_append.1 hr with h1 | h1
                  · exact (HIS.out r (List.mem_of_mem_take h1)).below KJ (Nat.le_refl _)
                  · rcases List.mem_cons.1 h1 with rfl | h1
                    · exact ha.below KJ (Nat.le_refl _)
                    · exact (HIS.out r (List.mem_of_mem_drop h1)).below KJ (Nat.le_refl _)⟩
                have hln : k + 1 + 0 = k + 1 := by omega
                clear own
                have cm := Bm2.cell
                go_wp2_with fail
                refine (l24Good_any _ _ _ _ _ _ m _ _ _ (insA a xs) _ (hm.next KJ) hn' (by first | exact SG | (rw [hln]; exact SG)) (by omega) HIN.out).mono ?_
                cases g2 : areasB m (insA a xs)
                · rintro e w7 ⟨rfl, b7⟩
                  go_wp2_with fail
                  go_ret2
                  rw [show addArea m xs a = none by simp [addArea, g2]]
                  exact givesA_empty w7 (bel_then KJ b7)
                · rintro e w7 ⟨rfl, b7⟩
                  have K7 := bel_then KJ b7
                  have SG7 := SG.next b7
                  clear cm
                  go_wp2_with fail
                  refine (l24Copy_any _ _ _ (insA a xs) _ (by first | exact SG7 | (rw [hln]; exact SG7)) (by omega) HIN.out).mono ?_
                  rintro e w8 ⟨A8, c8, rfl, N8, b8⟩
                  go_wp2_with fail
                  go_ret2
                  rw [show addArea m xs a = some (insA a xs) by simp [addArea, g2, G1.out]]
                  exact givesA_some (N8.wide fun b hb => ⟨Nat.le_trans K7.size hb.1, hb.2⟩) (bel_then K7 b8)
              refine AllReadyH.cons rfl (fun K hK => ?_) AllReadyH.nil
              · go_simp
                have U3 : Below wi2.heap.size wi2 (wi2.alloc (.cells #[.int .i64 a.id, .slice Aa na ca0, .int .i64 a.first, .int .i64 a.last] 62)) := (Below.refl _ _).alloc (Nat.le_refl _) _
                have J3 := bel_then J2 U3
                refine hK.out _ _ (⟨(Ba.next J3).cell 0, (Ba.next J3).cell 1, (Ba.next J3).cell 2, (Ba.next J3).cell 3⟩) (fun hHeld => ?_)
                clear hK K
                (try simp only [Act.put, List.setIfInBounds_toArray, List.set_cons_zero, List.set_cons_succ, List.getElem_toArray, List.getElem_cons_zero, List.getElem_cons_succ])
                replace own := own_below own U3
                have box : Blk (wi2.alloc (.cells #[.int .i64 a.id, .slice Aa na ca0, .int .i64 a.first, .int .i64 a.last] 62)) wi2.heap.size 62 [.int .i64 a.id, .slice Aa na ca0, .int .i64 a.first, .int .i64 a.last] := Blk.at_ rfl
                have lb := box.lt
                have hne : ∀ b, OwnB (some ⟨wi1.heap.size, 0, none⟩) b → b ≠ wi2.heap.size := fun b hb => by have := (own_top ownP hb).2; omega
                generalize (wi2.alloc (.cells #[.int .i64 a.id, .slice Aa na ca0, .int .i64 a.first, .int .i64 a.last] 62)) = wi3 at *
                replace ownP := own
                refine wpAnyH_ready (rs := [4]) (by kernel_rfl) (by simp) ?_
                refine AllReadyH.cons rfl (fun K hK => ?_) AllReadyH.nil
                refine step_cat rfl _ _ _ (by rfl) Try.underlying31 info_impl_Area rfl (by decide) (by rfl) own (by rfl) (m := k) (hpre.next J3) (areas_all _) (by omega) (by omega) (by decide) (by have := J3.size; omega) ?_
                intro A4 c4 wi4 own4 o4 b4 q4
                have J4 := J3.trans b4
                refine hK.out _ _ (⟨(Ba.next J4).cell 0, (Ba.next J4).cell 1, (Ba.next J4).cell 2, (Ba.next J4).cell 3⟩) (fun hHeld => ?_)
                clear hK K
                (try simp only [Act.put, List.setIfInBounds_toArray, List.set_cons_zero, List.set_cons_succ, List.getElem_toArray, List.getElem_cons_zero, List.getElem_cons_succ])
                (try simp only [Nat.zero_add])
                replace box := box.only o4 (fun h => hne _ h rfl)
                simp only [Nat.zero_add, List.nil_append] at own4
                replace own := own4
                clear own4
                replace ownP := own
                refine wpAnyH_ready (rs := [7]) (by kernel_rfl) (by simp) ?_
                refine AllReadyH.cons rfl (fun K hK => ?_) AllReadyH.nil
                refine step_cat rfl _ _ _ (by rfl) Try.underlying31 info_impl_Area rfl (by decide) (by rfl) own (by rfl) (m := 1) (box.sees (s := 4) (Nat.zero_le _) rfl) (by simp [Value.oneCell']) (by omega) (by omega) (by decide) (by have := J4.size; omega) ?_
                intro A5 c5 wi5 own5 o5 b5 q5
                have J5 := J4.trans b5
                refine hK.out _ _ (⟨(Ba.next J5).cell 0, (Ba.next J5).cell 1, (Ba.next J5).cell 2, (Ba.next J5).cell 3⟩) (fun hHeld => ?_)
                clear hK K
                (try simp only [Act.put, List.setIfInBounds_toArray, List.set_cons_zero, List.set_cons_succ, List.getElem_toArray, List.getElem_cons_zero, List.getElem_cons_succ])
                replace own := own5
                clear own5
                refine wpAnyH_ready (rs := [11]) (by kernel_rfl) (by simp) ?_
                refine AllReadyH.cons rfl (fun K hK => ?_) AllReadyH.nil
                refine step_cat rfl _ _ _ (by rfl) Try.underlying31 info_impl_Area rfl (by decide) (by rfl) own (by rfl) (m := 0) (hsuf.next J5) (areas_all _) (by omega) (by omega) (by decide) (by have := J5.size; omega) ?_
                intro A6 c6 wi6 own6 o6 b6 q6
                have J6 := J5.trans b6
                refine hK.out _ _ (⟨(Ba.next J6).cell 0, (Ba.next J6).cell 1, (Ba.next J6).cell 2, (Ba.next J6).cell 3⟩) (fun hHeld => ?_)
                clear hK K
                (try simp only [Act.put, List.setIfInBounds_toArray, List.set_cons_zero, List.set_cons_succ, List.getElem_toArray, List.getElem_cons_zero, List.getElem_cons_succ])
                replace own := own6
                clear own6
                refine wpAnyH_take (i := 12) (v := ?_) rfl (by kernel_rfl) (by kernel_rfl) (by kernel_rfl) (fun _ _ _ h => h) (Or.inl ⟨by rfl, ?_⟩) (by assumption) ?_
                rotate_left 1
                · (intro w hSw; (try dsimp only at hSw); go_simp; try with_reducible rfl)
                (try simp only [Act.put, List.setIfInBounds_toArray, List.set_cons_zero, List.set_cons_succ, List.getElem_toArray, List.getElem_cons_zero, List.getElem_cons_succ])
                refine wpAnyH_done (by kernel_rfl) ?_ _
                have KJ := bel_then K J6
                have Bm2 := Bm.next J6
                have SG : SeesN areaSh wi6 0 A6 (k + 1) (insA a xs) := ⟨hs.take k ++ (⟨a, Aa, na, ca0⟩ : Hd Area) :: hs.drop k, by rw [HPE.out, List.map_append, List.map_cons, List.map_take, List.map_drop, HRS.out], by
                  have h := (Sees.of_own own).less (Nat.zero_le _)
                  rw [show k + 1 + 0 = k + 1 by omega] at h
                  rw [List.flatMap_append, List.flatMap_cons]
                  simpa [areaSh, List.append_assoc] using h, fun r hr => by
                  rcases List.mem_append.1 hr with h1 | h1
                  · exact (HIS.out r (List.mem_of_mem_take h1)).below KJ (Nat.le_refl _)
                  · rcases List.mem_cons.1 h1 with rfl | h1
                    · exact ha.below KJ (Nat.le_refl _)
                    · exact (HIS.out r (List.mem_of_mem_drop h1)).below KJ (Nat.le_refl _)⟩
                have hln : k + 1 + 0 = k + 1 := by omega
                clear own
                have cm := Bm2.cell
                go_wp2_with fail
                refine (l24Good_any _ _ _ _ _ _ m _ _ _ (insA a xs) _ (hm.next KJ) hn' (by first | exact SG | (rw [hln]; exact SG)) (by omega) HIN.out).mono ?_
                cases g2 : areasB m (insA a xs)
                · rintro e w7 ⟨rfl, b7⟩
                  go_wp2_with fail
                  go_ret2
                  rw [show addArea m xs a = none by simp [addArea, g2]]
                  exact givesA_empty w7 (bel_then KJ b7)
                · rintro e w7 ⟨rfl, b7⟩
                  have K7 := bel_then KJ b7
                  have SG7 := SG.next b7
                  clear cm
                  go_wp2_with fail
                  refine (l24Copy_any _ _ _ (insA a xs) _ (by first | exact SG7 | (rw [hln]; exact SG7)) (by omega) HIN.out).mono ?_
                  rintro e w8 ⟨A8, c8, rfl, N8, b8⟩
                  go_wp2_with fail
                  go_ret2
                  rw [show addArea m xs a = some (insA a xs) by simp [addArea, g2, G1.out]]
                  exact givesA_some (N8.wide fun b hb => ⟨Nat.le_trans K7.size hb.1, hb.2⟩) (bel_then K7 b8)
            refine AllReadyH.cons rfl (fun K hK => ?_) AllReadyH.nil
            · go_simp
              have U2 : Below wi1.heap.size wi1 (wi1.alloc (.cells #[.int .i64 a.id, .slice Aa na ca0, .int .i64 a.first, .int .i64 a.last] 62)) := (Below.refl _ _).alloc (Nat.le_refl _) _
              have J2 := bel_then J1 U2
              refine hK.out _ _ (⟨(Ba.next J2).cell 0, (Ba.next J2).cell 1, (Ba.next J2).cell 2, (Ba.next J2).cell 3⟩) (fun hHeld => ?_)
              clear hK K
              (try simp only [Act.put, List.setIfInBounds_toArray, List.set_cons_zero, List.set_cons_succ, List.getElem_toArray, List.getElem_cons_zero, List.getElem_cons_succ])
              have box : Blk (wi1.alloc (.cells #[.int .i64 a.id, .slice Aa na ca0, .int .i64 a.first, .int .i64 a.last] 62)) wi1.heap.size 62 [.int .i64 a.id, .slice Aa na ca0, .int .i64 a.first, .int .i64 a.last] := Blk.at_ rfl
              have lb := box.lt
              generalize (wi1.alloc (.cells #[.int .i64 a.id, .slice Aa na ca0, .int .i64 a.first, .int .i64 a.last] 62)) = wi2 at *
              refine wpAnyH_ready (rs := [0]) (by kernel_rfl) (by simp) ?_
              refine AllReadyH.cons rfl (fun K hK => ?_) AllReadyH.nil
              go_simp
              have U3 : Below wi2.heap.size wi2 (wi2.alloc (.cells #[] 62)) := (Below.refl _ _).alloc (Nat.le_refl _) _
              have J3 := bel_then J2 U3
              refine hK.out _ _ (⟨(Ba.next J3).cell 0, (Ba.next J3).cell 1, (Ba.next J3).cell 2, (Ba.next J3).cell 3⟩) (fun hHeld => ?_)
              clear hK K
              (try simp only [Act.put, List.setIfInBounds_toArray, List.set_cons_zero, List.set_cons_succ, List.getElem_toArray, List.getElem_cons_zero])
              replace box := box.next U3
              have own := own_base (own_empty wi2 62 4) (show wv.heap.size ≤ wi2.heap.size from J2.size)
              have hne : ∀ b, OwnB (some ⟨wi2.heap.size, 0, none⟩) b → b ≠ wi1.heap.size := fun b hb => by have h4 : wi2.heap.size = b := (by simpa [OwnB, Value.ownBlock] using hb); have h5 := lb; omega
              generalize (wi2.alloc (.cells #[] 62)) = wi3 at *
              have ownP := own
              refine wpAnyH_ready (rs := [4]) (by kernel_rfl) (by simp) ?_
              refine AllReadyH.cons rfl (fun K hK => ?_) AllReadyH.nil
              refine step_cat rfl _ _ _ (by rfl) Try.underlying31 info_impl_Area rfl (by decide) (by rfl) own (by rfl) (m := k) (hpre.next J3) (areas_all _) (by omega) (by omega) (by decide) (by have := J3.size; omega) ?_
              intro A4 c4 wi4 own4 o4 b4 q4
              have J4 := J3.trans b4
              refine hK.out _ _ (⟨(Ba.next J4).cell 0, (Ba.next J4).cell 1, (Ba.next J4).cell 2, (Ba.next J4).cell 3⟩) (fun hHeld => ?_)
              clear hK K
              (try simp only [Act.put, List.setIfInBounds_toArray, List.set_cons_zero, List.set_cons_succ, List.getElem_toArray, List.getElem_cons_zero, List.getElem_cons_succ])
              (try simp only [Nat.zero_add])
              replace box := box.only o4 (fun h => hne _ h rfl)
              simp only [Nat.zero_add, List.nil_append] at own4
              replace own := own4
              clear own4
              replace ownP := own
              refine wpAnyH_ready (rs := [7]) (by kernel_rfl) (by simp) ?_
              refine AllReadyH.cons rfl (fun K hK => ?_) AllReadyH.nil
              refine step_cat rfl _ _ _ (by rfl) Try.underlying31 info_impl_Area rfl (by decide) (by rfl) own (by rfl) (m := 1) (box.sees (s := 4) (Nat.zero_le _) rfl) (by simp [Value.oneCell']) (by omega) (by omega) (by decide) (by have := J4.size; omega) ?_
              intro A5 c5 wi5 own5 o5 b5 q5
              have J5 := J4.trans b5
              refine hK.out _ _ (⟨(Ba.next J5).cell 0, (Ba.next J5).cell 1, (Ba.next J5).cell 2, (Ba.next J5).cell 3⟩) (fun hHeld => ?_)
              clear hK K
              (try simp only [Act.put, List.setIfInBounds_toArray, List.set_cons_zero, List.set_cons_succ, List.getElem_toArray, List.getElem_cons_zero, List.getElem_cons_succ])
              replace own := own5
              clear own5
              refine wpAnyH_ready (rs := [11]) (by kernel_rfl) (by simp) ?_
              refine AllReadyH.cons rfl (fun K hK => ?_) AllReadyH.nil
              refine step_cat rfl _ _ _ (by rfl) Try.underlying31 info_impl_Area rfl (by decide) (by rfl) own (by rfl) (m := 0) (hsuf.next J5) (areas_all _) (by omega) (by omega) (by decide) (by have := J5.size; omega) ?_
              intro A6 c6 wi6 own6 o6 b6 q6
              have J6 := J5.trans b6
              refine hK.out _ _ (⟨(Ba.next J6).cell 0, (Ba.next J6).cell 1, (Ba.next J6).cell 2, (Ba.next J6).cell 3⟩) (fun hHeld => ?_)
              clear hK K
              (try simp only [Act.put, List.setIfInBounds_toArray, List.set_cons_zero, List.set_cons_succ, List.getElem_toArray, List.getElem_cons_zero, List.getElem_cons_succ])
              replace own := own6
              clear own6
              refine wpAnyH_take (i := 12) (v := ?_) rfl (by kernel_rfl) (by kernel_rfl) (by kernel_rfl) (fun _ _ _ h => h) (Or.inl ⟨by rfl, ?_⟩) (by assumption) ?_
              rotate_left 1
              · (intro w hSw; (try dsimp only at hSw); go_simp; try with_reducible rfl)
              (try simp only [Act.put, List.setIfInBounds_toArray, List.set_cons_zero, List.set_cons_succ, List.getElem_toArray, List.getElem_cons_zero, List.getElem_cons_succ])
              refine wpAnyH_done (by kernel_rfl) ?_ _
              have KJ := bel_then K J6
              have Bm2 := Bm.next J6
              have SG : SeesN areaSh wi6 0 A6 (k + 1) (insA a xs) := ⟨hs.take k ++ (⟨a, Aa, na, ca0⟩ : Hd Area) :: hs.drop k, by rw [HPE.out, List.map_append, List.map_cons, List.map_take, List.map_drop, HRS.out], by
                have h := (Sees.of_own own).less (Nat.zero_le _)
                rw [show k + 1 + 0 = k + 1 by omega] at h
                rw [List.flatMap_append, List.flatMap_cons]
                simpa [areaSh, List.append_assoc] using h, fun r hr => by
                rcases List.mem_append.1 hr with h1 | h1
                · exact (HIS.out r (List.mem_of_mem_take h1)).below KJ (Nat.le_refl _)
                · rcases List.mem_cons.1 h1 with rfl | h1
                  · exact ha.below KJ (Nat.le_refl _)
                  · exact (HIS.out r (List.mem_of_mem_drop h1)).below KJ (Nat.le_refl _)⟩
              have hln : k + 1 + 0 = k + 1 := by omega
              clear own
              have cm := Bm2.cell
              go_wp2_with fail
              refine (l24Good_any _ _ _ _ _ _ m _ _ _ (insA a xs) _ (hm.next KJ) hn' (by first | exact SG | (rw [hln]; exact SG)) (by omega) HIN.out).mono ?_
              cases g2 : areasB m (insA a xs)
              · rintro e w7 ⟨rfl, b7⟩
                go_wp2_with fail
                go_ret2
                rw [show addArea m xs a = none by simp [addArea, g2]]
                exact givesA_empty w7 (bel_then KJ b7)
              · rintro e w7 ⟨rfl, b7⟩
                have K7 := bel_then KJ b7
                have SG7 := SG.next b7
                clear cm
                go_wp2_with fail
                refine (l24Copy_any _ _ _ (insA a xs) _ (by first | exact SG7 | (rw [hln]; exact SG7)) (by omega) HIN.out).mono ?_
                rintro e w8 ⟨A8, c8, rfl, N8, b8⟩
                go_wp2_with fail
                go_ret2
                rw [show addArea m xs a = some (insA a xs) by simp [addArea, g2, G1.out]]
                exact givesA_some (N8.wide fun b hb => ⟨Nat.le_trans K7.size hb.1, hb.2⟩) (bel_then K7 b8)
          · have hsuf : Sees wv 0 4 (some ⟨g, k * 4, none⟩) 0 ((hs.drop k).flatMap areaSh.enc) := by
              have h := hsuf0
              rwa [Nat.sub_self] at h
            have hk2 : k ≤ c := hnc
            go_wp2_with fail
            have J1 := (Quiet.one wv).below wv.heap.size
            refine wp_region_held_drew (S := fun w' => w'.cell? ⟨w.heap.size + 1, 0, none⟩ = some (.int .i64 a.id) ∧ w'.cell? ⟨w.heap.size + 1, 1, none⟩ = some (.slice Aa na ca0) ∧ w'.cell? ⟨w.heap.size + 1, 2, none⟩ = some (.int .i64 a.first) ∧ w'.cell? ⟨w.heap.size + 1, 3, none⟩ = some (.int .i64 a.last)) (by kernel_rfl) (⟨(Ba.next J1).cell 0, (Ba.next J1).cell 1, (Ba.next J1).cell 2, (Ba.next J1).cell 3⟩) (fun hHeld => ?_)
            generalize wv.drew = wi1 at *
            refine wpAnyH_take (i := 1) (v := ?_) rfl (by kernel_rfl) (by kernel_rfl) (by kernel_rfl) (fun _ _ _ h => h) (Or.inl ⟨by rfl, ?_⟩) (by assumption) ?_
            rotate_left 1
            · (intro w hSw; (try dsimp only at hSw); go_simp; try with_reducible rfl)
            (try simp only [Act.put, List.setIfInBounds_toArray, List.set_cons_zero, List.set_cons_succ, List.getElem_toArray, List.getElem_cons_zero, List.getElem_cons_succ])
            refine wpAnyH_take (i := 2) (v := ?_) rfl (by kernel_rfl) (by kernel_rfl) (by kernel_rfl) (fun _ _ _ h => h) (Or.inl ⟨by rfl, ?_⟩) (by assumption) ?_
            rotate_left 1
            · (intro w hSw; (try dsimp only at hSw); go_simp; try with_reducible rfl)
            (try simp only [Act.put, List.setIfInBounds_toArray, List.set_cons_zero, List.set_cons_succ, List.getElem_toArray, List.getElem_cons_zero, List.getElem_cons_succ])
            refine wpAnyH_take (i := 3) (v := ?_) rfl (by kernel_rfl) (by kernel_rfl) (by kernel_rfl) (fun _ _ _ h => h) (Or.inl ⟨by rfl, ?_⟩) (by assumption) ?_
            rotate_left 1
            · (intro w hSw; (try dsimp only at hSw); go_simp; try with_reducible rfl)
            (try simp only [Act.put, List.setIfInBounds_toArray, List.set_cons_zero, List.set_cons_succ, List.getElem_toArray, List.getElem_cons_zero, List.getElem_cons_succ])
            refine wpAnyH_take (i := 5) (v := ?_) rfl (by kernel_rfl) (by kernel_rfl) (by kernel_rfl) (fun _ _ _ h => h) (Or.inl ⟨by rfl, ?_⟩) (by assumption) ?_
            rotate_left 1
            · (intro w hSw; (try dsimp only at hSw); go_simp; try with_reducible rfl)
            (try simp only [Act.put, List.setIfInBounds_toArray, List.set_cons_zero, List.set_cons_succ, List.getElem_toArray, List.getElem_cons_zero, List.getElem_cons_succ])
            refine wpAnyH_take (i := 8) (v := ?_) rfl (by kernel_rfl) (by kernel_rfl) (by kernel_rfl) (fun _ _ _ h => h) (Or.inl ⟨by rfl, ?_⟩) (by assumption) ?_
            rotate_left 1
            · (intro w hSw; (try dsimp only at hSw); go_simp; try with_reducible rfl)
            (try simp only [Act.put, List.setIfInBounds_toArray, List.set_cons_zero, List.set_cons_succ, List.getElem_toArray, List.getElem_cons_zero, List.getElem_cons_succ])
            refine wpAnyH_take (i := 9) (v := ?_) rfl (by kernel_rfl) (by kernel_rfl) (by kernel_rfl) (fun _ _ _ h => h) (Or.inl ⟨by rfl, ?_⟩) (by assumption) ?_
            rotate_left 1
            · (intro w hSw; (try dsimp only at hSw); go_simp; try with_reducible rfl)
            (try simp only [Act.put, List.setIfInBounds_toArray, List.set_cons_zero, List.set_cons_succ, List.getElem_toArray, List.getElem_cons_zero, List.getElem_cons_succ])
            refine wpAnyH_take (i := 10) (v := ?_) rfl (by kernel_rfl) (by kernel_rfl) (by kernel_rfl) (fun _ _ _ h => h) (Or.inl ⟨by rfl, ?_⟩) (by assumption) ?_
            rotate_left 1
            · (intro w hSw; (try dsimp only at hSw); go_simp; try with_reducible rfl)
            (try simp only [Act.put, List.setIfInBounds_toArray, List.set_cons_zero, List.set_cons_succ, List.getElem_toArray, List.getElem_cons_zero, List.getElem_cons_succ])
            refine wpAnyH_ready (rs := [0, 6]) (by kernel_rfl) (by simp) ?_
            refine AllReadyH.cons rfl (fun K hK => ?_) ?_
            · go_simp
              have U2 : Below wi1.heap.size wi1 (wi1.alloc (.cells #[] 62)) := (Below.refl _ _).alloc (Nat.le_refl _) _
              have J2 := bel_then J1 U2
              refine hK.out _ _ (⟨(Ba.next J2).cell 0, (Ba.next J2).cell 1, (Ba.next J2).cell 2, (Ba.next J2).cell 3⟩) (fun hHeld => ?_)
              clear hK K
              (try simp only [Act.put, List.setIfInBounds_toArray, List.set_cons_zero, List.set_cons_succ, List.getElem_toArray, List.getElem_cons_zero])
              have own := own_base (own_empty wi1 62 4) (show wv.heap.size ≤ wi1.heap.size from J1.size)
              generalize (wi1.alloc (.cells #[] 62)) = wi2 at *
              have ownP := own
              refine wpAnyH_ready (rs := [4, 6]) (by kernel_rfl) (by simp) ?_
              refine AllReadyH.cons rfl (fun K hK => ?_) ?_
              · refine step_cat rfl _ _ _ (by rfl) Try.underlying31 info_impl_Area rfl (by decide) (by rfl) own (by rfl) (m := k) (hpre.next J2) (areas_all _) (by omega) (by omega) (by decide) (by have := J2.size; omega) ?_
                intro A3 c3 wi3 own3 o3 b3 q3
                have J3 := J2.trans b3
                refine hK.out _ _ (⟨(Ba.next J3).cell 0, (Ba.next J3).cell 1, (Ba.next J3).cell 2, (Ba.next J3).cell 3⟩) (fun hHeld => ?_)
                clear hK K
                (try simp only [Act.put, List.setIfInBounds_toArray, List.set_cons_zero, List.set_cons_succ, List.getElem_toArray, List.getElem_cons_zero, List.getElem_cons_succ])
                (try simp only [Nat.zero_add])
                simp only [Nat.zero_add, List.nil_append] at own3
                replace own := own3
                clear own3
                replace ownP := own
                refine wpAnyH_ready (rs := [6]) (by kernel_rfl) (by simp) ?_
                refine AllReadyH.cons rfl (fun K hK => ?_) AllReadyH.nil
                go_simp
                have U4 : Below wi3.heap.size wi3 (wi3.alloc (.cells #[.int .i64 a.id, .slice Aa na ca0, .int .i64 a.first, .int .i64 a.last] 62)) := (Below.refl _ _).alloc (Nat.le_refl _) _
                have J4 := bel_then J3 U4
                refine hK.out _ _ (⟨(Ba.next J4).cell 0, (Ba.next J4).cell 1, (Ba.next J4).cell 2, (Ba.next J4).cell 3⟩) (fun hHeld => ?_)
                clear hK K
                (try simp only [Act.put, List.setIfInBounds_toArray, List.set_cons_zero, List.set_cons_succ, List.getElem_toArray, List.getElem_cons_zero, List.getElem_cons_succ])
                replace own := own_below own U4
                have box : Blk (wi3.alloc (.cells #[.int .i64 a.id, .slice Aa na ca0, .int .i64 a.first, .int .i64 a.last] 62)) wi3.heap.size 62 [.int .i64 a.id, .slice Aa na ca0, .int .i64 a.first, .int .i64 a.last] := Blk.at_ rfl
                have lb := box.lt
                have hne : ∀ b, OwnB A3 b → b ≠ wi3.heap.size := fun b hb => by have := (own_top ownP hb).2; omega
                generalize (wi3.alloc (.cells #[.int .i64 a.id, .slice Aa na ca0, .int .i64 a.first, .int .i64 a.last] 62)) = wi4 at *
                replace ownP := own
                refine wpAnyH_ready (rs := [7]) (by kernel_rfl) (by simp) ?_
                refine AllReadyH.cons rfl (fun K hK => ?_) AllReadyH.nil
                refine step_cat rfl _ _ _ (by rfl) Try.underlying31 info_impl_Area rfl (by decide) (by rfl) own (by rfl) (m := 1) (box.sees (s := 4) (Nat.zero_le _) rfl) (by simp [Value.oneCell']) (by omega) (by omega) (by decide) (by have := J4.size; omega) ?_
                intro A5 c5 wi5 own5 o5 b5 q5
                have J5 := J4.trans b5
                refine hK.out _ _ (⟨(Ba.next J5).cell 0, (Ba.next J5).cell 1, (Ba.next J5).cell 2, (Ba.next J5).cell 3⟩) (fun hHeld => ?_)
                clear hK K
                (try simp only [Act.put, List.setIfInBounds_toArray, List.set_cons_zero, List.set_cons_succ, List.getElem_toArray, List.getElem_cons_zero, List.getElem_cons_succ])
                replace own := own5
                clear own5
                refine wpAnyH_ready (rs := [11]) (by kernel_rfl) (by simp) ?_
                refine AllReadyH.cons rfl (fun K hK => ?_) AllReadyH.nil
                refine step_cat rfl _ _ _ (by rfl) Try.underlying31 info_impl_Area rfl (by decide) (by rfl) own (by rfl) (m := 0) (hsuf.next J5) (areas_all _) (by omega) (by omega) (by decide) (by have := J5.size; omega) ?_
                intro A6 c6 wi6 own6 o6 b6 q6
                have J6 := J5.trans b6
                refine hK.out _ _ (⟨(Ba.next J6).cell 0, (Ba.next J6).cell 1, (Ba.next J6).cell 2, (Ba.next J6).cell 3⟩) (fun hHeld => ?_)
                clear hK K
                (try simp only [Act.put, List.setIfInBounds_toArray, List.set_cons_zero, List.set_cons_succ, List.getElem_toArray, List.getElem_cons_zero, List.getElem_cons_succ])
                replace own := own6
                clear own6
                refine wpAnyH_take (i := 12) (v := ?_) rfl (by kernel_rfl) (by kernel_rfl) (by kernel_rfl) (fun _ _ _ h => h) (Or.inl ⟨by rfl, ?_⟩) (by assumption) ?_
                rotate_left 1
                · (intro w hSw; (try dsimp only at hSw); go_simp; try with_reducible rfl)
                (try simp only [Act.put, List.setIfInBounds_toArray, List.set_cons_zero, List.set_cons_succ, List.getElem_toArray, List.getElem_cons_zero, List.getElem_cons_succ])
                refine wpAnyH_done (by kernel_rfl) ?_ _
                have KJ := bel_then K J6
                have Bm2 := Bm.next J6
                have SG : SeesN areaSh wi6 0 A6 (k + 1) (insA a xs) := ⟨hs.take k ++ (⟨a, Aa, na, ca0⟩ : Hd Area) :: hs.drop k, by rw [HPE.out, List.map_append, List.map_cons, List.map_take, List.map_drop, HRS.out], by
                  have h := (Sees.of_own own).less (Nat.zero_le _)
                  rw [show k + 1 + 0 = k + 1 by omega] at h
                  rw [List.flatMap_append, List.flatMap_cons]
                  simpa [areaSh, List.append_assoc] using h, fun r hr => by
                  rcases List.mem_append.1 hr with h1 | h1
                  · exact (HIS.out r (List.mem_of_mem_take h1)).below KJ (Nat.le_refl _)
                  · rcases List.mem_cons.1 h1 with rfl | h1
                    · exact ha.below KJ (Nat.le_refl _)
                    · exact (HIS.out r (List.mem_of_mem_drop h1)).below KJ (Nat.le_refl _)⟩
                have hln : k + 1 + 0 = k + 1 := by omega
                clear own
                have cm := Bm2.cell
                go_wp2_with fail
                refine (l24Good_any _ _ _ _ _ _ m _ _ _ (insA a xs) _ (hm.next KJ) hn' (by first | exact SG | (rw [hln]; exact SG)) (by omega) HIN.out).mono ?_
                cases g2 : areasB m (insA a xs)
                · rintro e w7 ⟨rfl, b7⟩
                  go_wp2_with fail
                  go_ret2
                  rw [show addArea m xs a = none by simp [addArea, g2]]
                  exact givesA_empty w7 (bel_then KJ b7)
                · rintro e w7 ⟨rfl, b7⟩
                  have K7 := bel_then KJ b7
                  have SG7 := SG.next b7
                  clear cm
                  go_wp2_with fail
                  refine (l24Copy_any _ _ _ (insA a xs) _ (by first | exact SG7 | (rw [hln]; exact SG7)) (by omega) HIN.out).mono ?_
                  rintro e w8 ⟨A8, c8, rfl, N8, b8⟩
                  go_wp2_with fail
                  go_ret2
                  rw [show addArea m xs a = some (insA a xs) by simp [addArea, g2, G1.out]]
                  exact givesA_some (N8.wide fun b hb => ⟨Nat.le_trans K7.size hb.1, hb.2⟩) (bel_then K7 b8)
              refine AllReadyH.cons rfl (fun K hK => ?_) AllReadyH.nil
              · go_simp
                have U3 : Below wi2.heap.size wi2 (wi2.alloc (.cells #[.int .i64 a.id, .slice Aa na ca0, .int .i64 a.first, .int .i64 a.last] 62)) := (Below.refl _ _).alloc (Nat.le_refl _) _
                have J3 := bel_then J2 U3
                refine hK.out _ _ (⟨(Ba.next J3).cell 0, (Ba.next J3).cell 1, (Ba.next J3).cell 2, (Ba.next J3).cell 3⟩) (fun hHeld => ?_)
                clear hK K
                (try simp only [Act.put, List.setIfInBounds_toArray, List.set_cons_zero, List.set_cons_succ, List.getElem_toArray, List.getElem_cons_zero, List.getElem_cons_succ])
                replace own := own_below own U3
                have box : Blk (wi2.alloc (.cells #[.int .i64 a.id, .slice Aa na ca0, .int .i64 a.first, .int .i64 a.last] 62)) wi2.heap.size 62 [.int .i64 a.id, .slice Aa na ca0, .int .i64 a.first, .int .i64 a.last] := Blk.at_ rfl
                have lb := box.lt
                have hne : ∀ b, OwnB (some ⟨wi1.heap.size, 0, none⟩) b → b ≠ wi2.heap.size := fun b hb => by have := (own_top ownP hb).2; omega
                generalize (wi2.alloc (.cells #[.int .i64 a.id, .slice Aa na ca0, .int .i64 a.first, .int .i64 a.last] 62)) = wi3 at *
                replace ownP := own
                refine wpAnyH_ready (rs := [4]) (by kernel_rfl) (by simp) ?_
                refine AllReadyH.cons rfl (fun K hK => ?_) AllReadyH.nil
                refine step_cat rfl _ _ _ (by rfl) Try.underlying31 info_impl_Area rfl (by decide) (by rfl) own (by rfl) (m := k) (hpre.next J3) (areas_all _) (by omega) (by omega) (by decide) (by have := J3.size; omega) ?_
                intro A4 c4 wi4 own4 o4 b4 q4
                have J4 := J3.trans b4
                refine hK.out _ _ (⟨(Ba.next J4).cell 0, (Ba.next J4).cell 1, (Ba.next J4).cell 2, (Ba.next J4).cell 3⟩) (fun hHeld => ?_)
                clear hK K
                (try simp only [Act.put, List.setIfInBounds_toArray, List.set_cons_zero, List.set_cons_succ, List.getElem_toArray, List.getElem_cons_zero, List.getElem_cons_succ])
                (try simp only [Nat.zero_add])
                replace box := box.only o4 (fun h => hne _ h rfl)
                simp only [Nat.zero_add, List.nil_append] at own4
                replace own := own4
                clear own4
                replace ownP := own
                refine wpAnyH_ready (rs := [7]) (by kernel_rfl) (by simp) ?_
                refine AllReadyH.cons rfl (fun K hK => ?_) AllReadyH.nil
                refine step_cat rfl _ _ _ (by rfl) Try.underlying31 info_impl_Area rfl (by decide) (by rfl) own (by rfl) (m := 1) (box.sees (s := 4) (Nat.zero_le _) rfl) (by simp [Value.oneCell']) (by omega) (by omega) (by decide) (by have := J4.size; omega) ?_
                intro A5 c5 wi5 own5 o5 b5 q5
                have J5 := J4.trans b5
                refine hK.out _ _ (⟨(Ba.next J5).cell 0, (Ba.next J5).cell 1, (Ba.next J5).cell 2, (Ba.next J5).cell 3⟩) (fun hHeld => ?_)
                clear hK K
                (try simp only [Act.put, List.setIfInBounds_toArray, List.set_cons_zero, List.set_cons_succ, List.getElem_toArray, List.getElem_cons_zero, List.getElem_cons_succ])
                replace own := own5
                clear own5
                refine wpAnyH_ready (rs := [11]) (by kernel_rfl) (by simp) ?_
                refine AllReadyH.cons rfl (fun K hK => ?_) AllReadyH.nil
                refine step_cat rfl _ _ _ (by rfl) Try.underlying31 info_impl_Area rfl (by decide) (by rfl) own (by rfl) (m := 0) (hsuf.next J5) (areas_all _) (by omega) (by omega) (by decide) (by have := J5.size; omega) ?_
                intro A6 c6 wi6 own6 o6 b6 q6
                have J6 := J5.trans b6
                refine hK.out _ _ (⟨(Ba.next J6).cell 0, (Ba.next J6).cell 1, (Ba.next J6).cell 2, (Ba.next J6).cell 3⟩) (fun hHeld => ?_)
                clear hK K
                (try simp only [Act.put, List.setIfInBounds_toArray, List.set_cons_zero, List.set_cons_succ, List.getElem_toArray, List.getElem_cons_zero, List.getElem_cons_succ])
                replace own := own6
                clear own6
                refine wpAnyH_take (i := 12) (v := ?_) rfl (by kernel_rfl) (by kernel_rfl) (by kernel_rfl) (fun _ _ _ h => h) (Or.inl ⟨by rfl, ?_⟩) (by assumption) ?_
                rotate_left 1
                · (intro w hSw; (try dsimp only at hSw); go_simp; try with_reducible rfl)
                (try simp only [Act.put, List.setIfInBounds_toArray, List.set_cons_zero, List.set_cons_succ, List.getElem_toArray, List.getElem_cons_zero, List.getElem_cons_succ])
                refine wpAnyH_done (by kernel_rfl) ?_ _
                have KJ := bel_then K J6
                have Bm2 := Bm.next J6
                have SG : SeesN areaSh wi6 0 A6 (k + 1) (insA a xs) := ⟨hs.take k ++ (⟨a, Aa, na, ca0⟩ : Hd Area) :: hs.drop k, by rw [HPE.out, List.map_append, List.map_cons, List.map_take, List.map_drop, HRS.out], by
                  have h := (Sees.of_own own).less (Nat.zero_le _)
                  rw [show k + 1 + 0 = k + 1 by omega] at h
                  rw [List.flatMap_append, List.flatMap_cons]
                  simpa [areaSh, List.append_assoc] using h, fun r hr => by
                  rcases List.mem_append.1 hr with h1 | h1
                  · exact (HIS.out r (List.mem_of_mem_take h1)).below KJ (Nat.le_refl _)
                  · rcases List.mem_cons.1 h1 with rfl | h1
                    · exact ha.below KJ (Nat.le_refl _)
                    · exact (HIS.out r (List.mem_of_mem_drop h1)).below KJ (Nat.le_refl _)⟩
                have hln : k + 1 + 0 = k + 1 := by omega
                clear own
                have cm := Bm2.cell
                go_wp2_with fail
                refine (l24Good_any _ _ _ _ _ _ m _ _ _ (insA a xs) _ (hm.next KJ) hn' (by first | exact SG | (rw [hln]; exact SG)) (by omega) HIN.out).mono ?_
                cases g2 : areasB m (insA a xs)
                · rintro e w7 ⟨rfl, b7⟩
                  go_wp2_with fail
                  go_ret2
                  rw [show addArea m xs a = none by simp [addArea, g2]]
                  exact givesA_empty w7 (bel_then KJ b7)
                · rintro e w7 ⟨rfl, b7⟩
                  have K7 := bel_then KJ b7
                  have SG7 := SG.next b7
                  clear cm
                  go_wp2_with fail
                  refine (l24Copy_any _ _ _ (insA a xs) _ (by first | exact SG7 | (rw [hln]; exact SG7)) (by omega) HIN.out).mono ?_
                  rintro e w8 ⟨A8, c8, rfl, N8, b8⟩
                  go_wp2_with fail
                  go_ret2
                  rw [show addArea m xs a = some (insA a xs) by simp [addArea, g2, G1.out]]
                  exact givesA_some (N8.wide fun b hb => ⟨Nat.le_trans K7.size hb.1, hb.2⟩) (bel_then K7 b8)
            refine AllReadyH.cons rfl (fun K hK => ?_) AllReadyH.nil
            · go_simp
              have U2 : Below wi1.heap.size wi1 (wi1.alloc (.cells #[.int .i64 a.id, .slice Aa na ca0, .int .i64 a.first, .int .i64 a.last] 62)) := (Below.refl _ _).alloc (Nat.le_refl _) _
              have J2 := bel_then J1 U2
              refine hK.out _ _ (⟨(Ba.next J2).cell 0, (Ba.next J2).cell 1, (Ba.next J2).cell 2, (Ba.next J2).cell 3⟩) (fun hHeld => ?_)
              clear hK K
              (try simp only [Act.put, List.setIfInBounds_toArray, List.set_cons_zero, List.set_cons_succ, List.getElem_toArray, List.getElem_cons_zero, List.getElem_cons_succ])
              have box : Blk (wi1.alloc (.cells #[.int .i64 a.id, .slice Aa na ca0, .int .i64 a.first, .int .i64 a.last] 62)) wi1.heap.size 62 [.int .i64 a.id, .slice Aa na ca0, .int .i64 a.first, .int .i64 a.last] := Blk.at_ rfl
              have lb := box.lt
              generalize (wi1.alloc (.cells #[.int .i64 a.id, .slice Aa na ca0, .int .i64 a.first, .int .i64 a.last] 62)) = wi2 at *
              refine wpAnyH_ready (rs := [0]) (by kernel_rfl) (by simp) ?_
              refine AllReadyH.cons rfl (fun K hK => ?_) AllReadyH.nil
              go_simp
              have U3 : Below wi2.heap.size wi2 (wi2.alloc (.cells #[] 62)) := (Below.refl _ _).alloc (Nat.le_refl _) _
              have J3 := bel_then J2 U3
              refine hK.out _ _ (⟨(Ba.next J3).cell 0, (Ba.next J3).cell 1, (Ba.next J3).cell 2, (Ba.next J3).cell 3⟩) (fun hHeld => ?_)
              clear hK K
              (try simp only [Act.put, List.setIfInBounds_toArray, List.set_cons_zero, List.set_cons_succ, List.getElem_toArray, List.getElem_cons_zero])
              replace box := box.next U3
              have own := own_base (own_empty wi2 62 4) (show wv.heap.size ≤ wi2.heap.size from J2.size)
              have hne : ∀ b, OwnB (some ⟨wi2.heap.size, 0, none⟩) b → b ≠ wi1.heap.size := fun b hb => by have h4 : wi2.heap.size = b := (by simpa [OwnB, Value.ownBlock] using hb); have h5 := lb; omega
              generalize (wi2.alloc (.cells #[] 62)) = wi3 at *
              have ownP := own
              refine wpAnyH_ready (rs := [4]) (by kernel_rfl) (by simp) ?_
              refine AllReadyH.cons rfl (fun K hK => ?_) AllReadyH.nil
              refine step_cat rfl _ _ _ (by rfl) Try.underlying31 info_impl_Area rfl (by decide) (by rfl) own (by rfl) (m := k) (hpre.next J3) (areas_all _) (by omega) (by omega) (by decide) (by have := J3.size; omega) ?_
              intro A4 c4 wi4 own4 o4 b4 q4
              have J4 := J3.trans b4
              refine hK.out _ _ (⟨(Ba.next J4).cell 0, (Ba.next J4).cell 1, (Ba.next J4).cell 2, (Ba.next J4).cell 3⟩) (fun hHeld => ?_)
              clear hK K
              (try simp only [Act.put, List.setIfInBounds_toArray, List.set_cons_zero, List.set_cons_succ, List.getElem_toArray, List.getElem_cons_zero, List.getElem_cons_succ])
              (try simp only [Nat.zero_add])
              replace box := box.only o4 (fun h => hne _ h rfl)
              simp only [Nat.zero_add, List.nil_append] at own4
              replace own := own4
              clear own4
              replace ownP := own
              refine wpAnyH_ready (rs := [7]) (by kernel_rfl) (by simp) ?_
              refine AllReadyH.cons rfl (fun K hK => ?_) AllReadyH.nil
              refine step_cat rfl _ _ _ (by rfl) Try.underlying31 info_impl_Area rfl (by decide) (by rfl) own (by rfl) (m := 1) (box.sees (s := 4) (Nat.zero_le _) rfl) (by simp [Value.oneCell']) (by omega) (by omega) (by decide) (by have := J4.size; omega) ?_
              intro A5 c5 wi5 own5 o5 b5 q5
              have J5 := J4.trans b5
              refine hK.out _ _ (⟨(Ba.next J5).cell 0, (Ba.next J5).cell 1, (Ba.next J5).cell 2, (Ba.next J5).cell 3⟩) (fun hHeld => ?_)
              clear hK K
              (try simp only [Act.put, List.setIfInBounds_toArray, List.set_cons_zero, List.set_cons_succ, List.getElem_toArray, List.getElem_cons_zero, List.getElem_cons_succ])
              replace own := own5
              clear own5
              refine wpAnyH_ready (rs := [11]) (by kernel_rfl) (by simp) ?_
              refine AllReadyH.cons rfl (fun K hK => ?_) AllReadyH.nil
              refine step_cat rfl _ _ _ (by rfl) Try.underlying31 info_impl_Area rfl (by decide) (by rfl) own (by rfl) (m := 0) (hsuf.next J5) (areas_all _) (by omega) (by omega) (by decide) (by have := J5.size; omega) ?_
              intro A6 c6 wi6 own6 o6 b6 q6
              have J6 := J5.trans b6
              refine hK.out _ _ (⟨(Ba.next J6).cell 0, (Ba.next J6).cell 1, (Ba.next J6).cell 2, (Ba.next J6).cell 3⟩) (fun hHeld => ?_)
              clear hK K
              (try simp only [Act.put, List.setIfInBounds_toArray, List.set_cons_zero, List.set_cons_succ, List.getElem_toArray, List.getElem_cons_zero, List.getElem_cons_succ])
              replace own := own6
              clear own6
              refine wpAnyH_take (i := 12) (v := ?_) rfl (by kernel_rfl) (by kernel_rfl) (by kernel_rfl) (fun _ _ _ h => h) (Or.inl ⟨by rfl, ?_⟩) (by assumption) ?_
              rotate_left 1
              · (intro w hSw; (try dsimp only at hSw); go_simp; try with_reducible rfl)
              (try simp only [Act.put, List.setIfInBounds_toArray, List.set_cons_zero, List.set_cons_succ, List.getElem_toArray, List.getElem_cons_zero, List.getElem_cons_succ])
              refine wpAnyH_done (by kernel_rfl) ?_ _
              have KJ := bel_then K J6
              have Bm2 := Bm.next J6
              have SG : SeesN areaSh wi6 0 A6 (k + 1) (insA a xs) := ⟨hs.take k ++ (⟨a, Aa, na, ca0⟩ : Hd Area) :: hs.drop k, by rw [HPE.out, List.map_append, List.map_cons, List.map_take, List.map_drop, HRS.out], by
                have h := (Sees.of_own own).less (Nat.zero_le _)
                rw [show k + 1 + 0 = k + 1 by omega] at h
                rw [List.flatMap_append, List.flatMap_cons]
                simpa [areaSh, List.append_assoc] using h, fun r hr => by
                rcases List.mem_append.1 hr with h1 | h1
                · exact (HIS.out r (List.mem_of_mem_take h1)).below KJ (Nat.le_refl _)
                · rcases List.mem_cons.1 h1 with rfl | h1
                  · exact ha.below KJ (Nat.le_refl _)
                  · exact (HIS.out r (List.mem_of_mem_drop h1)).below KJ (Nat.le_refl _)⟩
              have hln : k + 1 + 0 = k + 1 := by omega
              clear own
              have cm := Bm2.cell
              go_wp2_with fail
              refine (l24Good_any _ _ _ _ _ _ m _ _ _ (insA a xs) _ (hm.next KJ) hn' (by first | exact SG | (rw [hln]; exact SG)) (by omega) HIN.out).mono ?_
              cases g2 : areasB m (insA a xs)
              · rintro e w7 ⟨rfl, b7⟩
                go_wp2_with fail
                go_ret2
                rw [show addArea m xs a = none by simp [addArea, g2]]
                exact givesA_empty w7 (bel_then KJ b7)
              · rintro e w7 ⟨rfl, b7⟩
                have K7 := bel_then KJ b7
                have SG7 := SG.next b7
                clear cm
                go_wp2_with fail
                refine (l24Copy_any _ _ _ (insA a xs) _ (by first | exact SG7 | (rw [hln]; exact SG7)) (by omega) HIN.out).mono ?_
                rintro e w8 ⟨A8, c8, rfl, N8, b8⟩
                go_wp2_with fail
                go_ret2
                rw [show addArea m xs a = some (insA a xs) by simp [addArea, g2, G1.out]]
                exact givesA_some (N8.wide fun b hb => ⟨Nat.le_trans K7.size hb.1, hb.2⟩) (bel_then K7 b8)

end Go.Proofs.Ytljiflbaknakaaa
