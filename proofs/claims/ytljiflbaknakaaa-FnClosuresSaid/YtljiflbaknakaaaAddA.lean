/- AddArea, as the program has it. -/
import Derived.Test.YtljiflbaknakaaaInsA
import Derived.Test.YtljiflbaknakaaaMove
import Derived.Test.YtljiflbaknakaaaNest3
namespace Go.Proofs.Ytljiflbaknakaaa
open Go.RowKit

/-- an area put to its place -/
def insA (a : Area) : List Area → List Area
  | [] => [a]
  | x :: l => if x.id < a.id then x :: insA a l else a :: x :: l
theorem insA_at {a : Area} : ∀ {xs : List Area} {k : Nat}, k ≤ xs.length → (∀ (j : Nat) (hj : j < xs.length), j < k → xs[j].id < a.id) → (∀ hk : k < xs.length, ¬ xs[k].id < a.id) → insA a xs = xs.take k ++ a :: xs.drop k
  | [], k, hk, _, _ => by
    obtain rfl : k = 0 := by simpa using hk
    rfl
  | x :: l, 0, _, _, h2 => by
    have h3 : ¬ x.id < a.id := h2 (by simp)
    simp only [insA, if_neg h3, List.take_zero, List.nil_append, List.drop_zero]
  | x :: l, k + 1, hk, h1, h2 => by
    have h3 : x.id < a.id := h1 0 (by simp) (by omega)
    have ih := insA_at (a := a) (xs := l) (k := k) (by simpa using hk) (fun j hj hjk => h1 (j + 1) (by simpa using hj) (by omega)) (fun hk => h2 (by simpa using hk))
    simp only [insA, if_pos h3, ih, List.take_succ_cons, List.drop_succ_cons, List.cons_append]
theorem insA_len (a : Area) : ∀ xs, (insA a xs).length = xs.length + 1
  | [] => rfl
  | x :: l => by
    have := insA_len a l
    simp only [insA]
    split <;> simp [this]
theorem insA_wt (a : Area) : ∀ xs, wtN Area.wt (insA a xs) = wtN Area.wt xs + Area.wt a
  | [] => by simp [insA, wtN]
  | x :: l => by
    have := insA_wt a l
    simp only [insA]
    split <;> simp only [wtN, this] <;> omega
theorem insA_mem {a y : Area} : ∀ {xs}, y ∈ insA a xs → y ∈ xs ∨ y = a
  | [], h => by simpa [insA] using h
  | x :: l, h => by
    simp only [insA] at h
    split at h
    · rcases List.mem_cons.1 h with h | h
      · exact .inl (by simp [h])
      · rcases insA_mem h with h | h
        · exact .inl (by simp [h])
        · exact .inr h
    · rcases List.mem_cons.1 h with h | h
      · exact .inr h
      · exact .inl h
def addArea (m : MapV) (xs : List Area) (a : Area) : Option (List Area) := if areasB m xs && areasB m (insA a xs) then some (insA a xs) else none
theorem addArea_cases {m : MapV} {xs R : List Area} {a : Area} (h : addArea m xs a = some R) : R = insA a xs ∧ areasB m R = true := by
  unfold addArea at h
  split at h
  · rename_i hb
    simp only [Bool.and_eq_true] at hb
    injection h with h
    exact ⟨h.symm, h ▸ hb.2⟩
  · cases h
theorem addArea_len (m : MapV) (xs : List Area) (a : Area) : ((addArea m xs a).getD []).length ≤ 6 := by
  cases h : addArea m xs a with
  | none => simp
  | some R => exact (areasB_at (addArea_cases h).2).2.1
theorem addArea_wt (m : MapV) (xs : List Area) (a : Area) : wtN Area.wt ((addArea m xs a).getD []) ≤ wtN Area.wt xs + (a.cells.length + 3) := by
  cases h : addArea m xs a with
  | none => simp [wtN]
  | some R =>
    obtain ⟨rfl, -⟩ := addArea_cases h
    have : Area.wt a = a.cells.length * 1 + 3 := rfl
    simp only [Option.getD_some, insA_wt]
    omega
theorem addArea_cnt (m : MapV) (xs : List Area) (a : Area) (hi : ∀ x ∈ xs, x.cnt ≤ 1048576) (ha : a.cells.length ≤ 1048576) : ∀ x ∈ (addArea m xs a).getD [], x.cnt ≤ 1048576 := by
  cases h : addArea m xs a with
  | none => simp
  | some R =>
    obtain ⟨rfl, -⟩ := addArea_cases h
    intro x hx
    rcases insA_mem hx with h1 | rfl
    · exact hi x h1
    · exact ha
theorem flat_take {β : Type} {f : β → List Value} {s k : Nat} : ∀ {l : List β}, (∀ x, (f x).length = s) → k ≤ l.length → (l.flatMap f).take (k * s) = (l.take k).flatMap f := by
  intro l hf hk
  have e1 : l.flatMap f = (l.take k).flatMap f ++ (l.drop k).flatMap f := by rw [← List.flatMap_append, List.take_append_drop]
  have e2 : ((l.take k).flatMap f).length = k * s := by rw [flatMap_len _ (fun x _ => hf x), List.length_take, Nat.min_eq_left hk]
  rw [e1, List.take_append_of_le_length (by omega), List.take_of_length_le (by omega)]
theorem flat_drop {β : Type} {f : β → List Value} {s k : Nat} : ∀ {l : List β}, (∀ x, (f x).length = s) → k ≤ l.length → (l.flatMap f).drop (k * s) = (l.drop k).flatMap f := by
  intro l hf hk
  have e1 : l.flatMap f = (l.take k).flatMap f ++ (l.drop k).flatMap f := by rw [← List.flatMap_append, List.take_append_drop]
  have e2 : ((l.take k).flatMap f).length = k * s := by rw [flatMap_len _ (fun x _ => hf x), List.length_take, Nat.min_eq_left hk]
  rw [e1, List.drop_append_of_le_length (by omega), List.drop_eq_nil_of_le (by omega), List.nil_append]
/-- One area put in among others. -/
theorem areas_ins {w1 w2 : World} {S U V : Nat → Prop} {A5 A9 : Option Addr} {n c5 c9 k : Nat} {rs : List (Hd Area)} {r6 : Hd Area} (ML : MineR areaSh w1 S 62 3 A5 n c5 rs) (M6 : Mine w1 U 3 1 r6.A r6.n r6.c (ints r6.x.cells)) (hSU : ∀ b, S b → U b → False)
    (o9 : w2.ownsRow 0 62 4 (.slice A9 (n + 1) c9) (n + 1) ((rs.flatMap areaSh.enc).take (k * 4) ++ areaSh.enc r6 ++ (rs.flatMap areaSh.enc).drop (k * 4))) (hk : k ≤ n) (h9 : Only (OwnB A5) w1 w2) (q9 : ∀ b, OwnB A9 b → OwnB A5 b ∨ w1.heap.size ≤ b) (hV : ∀ b, S b ∨ U b ∨ w1.heap.size ≤ b → V b) :
    MineR areaSh w2 V 62 3 A9 (n + 1) c9 (rs.take k ++ r6 :: rs.drop k) := by
  have hlen := ML.count
  have hp : (rs ++ [r6]).Perm (rs.take k ++ r6 :: rs.drop k) := by
    have h1 : (rs ++ [r6]).Perm (r6 :: rs) := List.perm_append_comm
    have h2 : (rs.take k ++ r6 :: rs.drop k).Perm (r6 :: (rs.take k ++ rs.drop k)) := List.perm_middle
    rw [List.take_append_drop] at h2
    exact h1.trans h2.symm
  have i2 : Inners areaSh w2 S 3 rs := ML.inners.onlyA h9 ML.apart
  have m2 : Mine w2 U 3 areaSh.is r6.A r6.n r6.c (areaSh.inner r6.x) := M6.only h9 (fun b h1 h2 => hSU b (ML.outer.top b h2) h1)
  obtain ⟨e3, p3⟩ := i2.snoc m2 hSU
  refine ⟨⟨?_, fun b hb => ?_⟩, ⟨fun r hr => ?_, ?_⟩, fun r hr b hb hb2 => ?_⟩
  · have e := flat_take (f := areaSh.enc) (s := 4) (k := k) (l := rs) areaSh.len (by omega)
    have e' := flat_drop (f := areaSh.enc) (s := 4) (k := k) (l := rs) areaSh.len (by omega)
    rw [e, e', List.append_assoc] at o9
    rw [List.flatMap_append, List.flatMap_cons]
    exact o9
  · rcases q9 b hb with h1 | h1
    · exact hV b (.inl (ML.outer.top b h1))
    · exact hV b (.inr (.inr h1))
  · exact (e3 r (hp.mem_iff.2 hr)).wide fun b hb => hV b (hb.elim .inl fun h => .inr (.inl h))
  · exact (hp.pairwise_iff (fun h b h1 h2 => h b h2 h1)).1 p3
  · rcases List.mem_append.1 (hp.mem_iff.2 hr) with h1 | h1
    · rcases q9 b hb2 with h3 | h3
      · exact ML.apart r h1 b hb h3
      · have := (ML.inners.each r h1).lt b hb; omega
    · obtain rfl := List.mem_singleton.1 h1
      rcases q9 b hb2 with h3 | h3
      · exact hSU b (ML.outer.top b h3) (M6.top b hb)
      · have := M6.lt b hb; omega

set_option maxRecDepth 100000 in
set_option maxHeartbeats 8000000 in
theorem AddArea_any (A1 A2 : Option Addr) (n1 n2 c1 c2 : Nat) (m : MapV) (A : Option Addr) (n c : Nat) (xs : List Area) (Aa : Option Addr) (na ca0 : Nat) (a : Area) (w : World) (hm : SeesMap w A1 n1 A2 n2 m) (hn' : n1 ≤ 1048576 ∧ n2 ≤ 1048576) (hx : SeesN areaSh w 0 A n xs) (hn : n ≤ 1048576) (hi : ∀ x ∈ xs, x.cnt ≤ 1048576) (ha : Sees w 0 1 Aa na (ints a.cells)) (hna : na ≤ 1048576) :
    Calls Try.prog 47 #[.agg #[.int .i64 m.width, .int .i64 m.height, .slice A1 n1 c1, .slice A2 n2 c2], .slice A n c, .agg #[.int .i64 a.id, .slice Aa na ca0, .int .i64 a.first, .int .i64 a.last]] w (GivesAreasO w (addArea m xs a)) := by
  have HL := Lib.hid hx.count
  have HNA := Lib.hid (show a.cnt ≤ 1048576 by have := ha.icount; unfold Area.cnt; omega)
  have HIN := Lib.hid (show ∀ x ∈ insA a xs, x.cnt ≤ 1048576 from fun x hx => (insA_mem hx).elim (hi x) fun h => h ▸ HNA.out)
  go_enter Try.func47, Try.ntmps47
  go_wp2_with fail
  have K0 : Below w.heap.size w ((w.alloc (.cells #[.int .i64 m.width, .int .i64 m.height, .slice A1 n1 c1, .slice A2 n2 c2] 29)).alloc (.cells #[.int .i64 a.id, .slice Aa na ca0, .int .i64 a.first, .int .i64 a.last] 62)) := ((Below.refl _ _).alloc (Nat.le_refl _) _).alloc (by simp) _
  have Bm0 : Blk ((w.alloc (.cells #[.int .i64 m.width, .int .i64 m.height, .slice A1 n1 c1, .slice A2 n2 c2] 29)).alloc (.cells #[.int .i64 a.id, .slice Aa na ca0, .int .i64 a.first, .int .i64 a.last] 62)) w.heap.size 29 [.int .i64 m.width, .int .i64 m.height, .slice A1 n1 c1, .slice A2 n2 c2] := (Blk.at_ rfl).alloc _
  have Ba0 : Blk ((w.alloc (.cells #[.int .i64 m.width, .int .i64 m.height, .slice A1 n1 c1, .slice A2 n2 c2] 29)).alloc (.cells #[.int .i64 a.id, .slice Aa na ca0, .int .i64 a.first, .int .i64 a.last] 62)) (w.heap.size + 1) 62 [.int .i64 a.id, .slice Aa na ca0, .int .i64 a.first, .int .i64 a.last] := Blk.at_ (by simp)
  refine (AreAreas_any _ _ _ _ _ _ m _ _ _ xs _ (hm.next K0) hn' (hx.next K0) hn hi).mono ?_
  cases g1 : areasB m xs
  · rintro e w1 ⟨rfl, b1⟩
    go_wp2_with fail
    go_ret2
    rw [show addArea m xs a = none by simp [addArea, g1]]
    exact givesA_nil (bel_then K0 b1)
  · rintro e w1 ⟨rfl, b1⟩
    have G1 := Lib.hid g1
    have K1 := bel_then K0 b1
    have Bm1 := Bm0.next b1
    have Ba1 := Ba0.next b1
    have hn6 : n ≤ 6 := by have := (areasB_at g1).2.1; have := HL.out; omega
    clear K0 Bm0 Ba0 b1 g1
    go_wp2_with fail
    go_loopw [8] (fun kv wr => ∃ k : Nat, k ≤ n ∧ kv = .int .i64 (k : Int) ∧ Hid (∀ (j : Nat) (hj : j < xs.length), j < k → xs[j].id < a.id) ∧ Blk wr w.heap.size 29 [.int .i64 m.width, .int .i64 m.height, .slice A1 n1 c1, .slice A2 n2 c2] ∧ Blk wr (w.heap.size + 1) 62 [.int .i64 a.id, .slice Aa na ca0, .int .i64 a.first, .int .i64 a.last] ∧ Below w.heap.size w wr) (fun kv _ => n - (intOf kv).toNat)
    case atStart => exact ⟨0, Nat.zero_le _, rfl, Lib.hid (fun j _ h => absurd h (by omega)), Bm1, Ba1, K1⟩
    case round =>
      obtain ⟨k, hk, rfl, HB, Bm, Ba, K⟩ := hrel
      clear Bm1 Ba1 K1
      have ca := Ba.cell
      have hk6 : k ≤ 1048576 := by omega
      by_cases hlt : k < n
      · obtain ⟨b, off, B0, mc, d0, hA, hkx, x0, x1, x2, x3, hxi⟩ := SeesArea.elem (hx.next K) hlt
        have HB2 := Lib.hid (fun (h : xs[k].id < a.id) (j : Nat) (hj : j < xs.length) (hjk : j < k + 1) => show xs[j].id < a.id by
          rcases Nat.lt_or_ge j k with h1 | h1
          · exact HB.out j hj h1
          · obtain rfl : j = k := by omega
            exact h)
        have HP := Lib.hid (fun (h : ¬ xs[k].id < a.id) => insA_at (a := a) (xs := xs) (k := k) (by omega) HB.out (fun _ => h))
        obtain ⟨y, hy⟩ : ∃ y, xs[k].id = y := ⟨_, rfl⟩
        rw [hy] at x0 HB2 HP
        clear x1 x2 x3 hxi
        by_cases hlt2 : y < a.id
        · have HB3 := Lib.hid (HB2.out hlt2)
          clear HB HB2 HP hy
          subst hA
          go_wp2_with fail
          go_quiet (fail)
          go_wp2_with fail
          go_roundw
          case rel => exact ⟨k + 1, by omega, by go_num, HB3, Bm.next ((Quiet.mk _ _).below _), Ba.next ((Quiet.mk _ _).below _), bel_drewN K _⟩
          case measure => simp [intOf]; omega
        · have HPE := Lib.hid (HP.out hlt2)
          clear HB HB2 HP hy
          subst hA
          go_wp2_with fail
          go_quiet (fail)
          clear x0
          have bq := (Quiet.mk wr nq).below wr.heap.size
          replace Bm := Bm.next bq
          replace Ba := Ba.next bq
          replace K := bel_then K bq
          clear ca bq
          generalize wr.drewN nq = wv at *
          have ca := Ba.cell
          go_wp2_with fail
          refine wp_region_held_drew (S := fun w' => w'.cell? ⟨w.heap.size + 1, 0, none⟩ = some (.int .i64 a.id) ∧ w'.cell? ⟨w.heap.size + 1, 1, none⟩ = some (.slice Aa na ca0) ∧ w'.cell? ⟨w.heap.size + 1, 2, none⟩ = some (.int .i64 a.first) ∧ w'.cell? ⟨w.heap.size + 1, 3, none⟩ = some (.int .i64 a.last)) (by kernel_rfl) (by (try dsimp only); go_keep) (fun hHeld => ?_)
          have b2 := (Quiet.one wv).below wv.heap.size
          have K2 := bel_then K b2
          replace Bm := Bm.next b2
          replace Ba := Ba.next b2
          clear ca b2
          generalize wv.drew = v2 at *
          have ca := Ba.cell
          have hlw2 := Ba.lt
          refine wpAnyH_take (i := 0) (v := ?_) rfl (by kernel_rfl) (by kernel_rfl) (by kernel_rfl) (fun _ _ _ h => h) (Or.inl ⟨by rfl, ?_⟩) (by assumption) ?_
          rotate_left 1
          · (intro w hSw; (try dsimp only at hSw); go_simp; try with_reducible rfl)
          (try simp only [Act.put, List.setIfInBounds_toArray, List.set_cons_zero, List.set_cons_succ, List.getElem_toArray, List.getElem_cons_zero])
          refine wpAnyH_take (i := 2) (v := ?_) rfl (by kernel_rfl) (by kernel_rfl) (by kernel_rfl) (fun _ _ _ h => h) (Or.inl ⟨by rfl, ?_⟩) (by assumption) ?_
          rotate_left 1
          · (intro w hSw; (try dsimp only at hSw); go_simp; try with_reducible rfl)
          (try simp only [Act.put, List.setIfInBounds_toArray, List.set_cons_zero, List.set_cons_succ, List.getElem_toArray, List.getElem_cons_zero, List.getElem_cons_succ])
          refine wpAnyH_take (i := 3) (v := ?_) rfl (by kernel_rfl) (by kernel_rfl) (by kernel_rfl) (fun _ _ _ h => h) (Or.inl ⟨by rfl, ?_⟩) (by assumption) ?_
          rotate_left 1
          · (intro w hSw; (try dsimp only at hSw); go_simp; try with_reducible rfl)
          (try simp only [Act.put, List.setIfInBounds_toArray, List.set_cons_zero, List.set_cons_succ, List.getElem_toArray, List.getElem_cons_zero, List.getElem_cons_succ])
          refine wpAnyH_ready (rs := [1, 4]) (by kernel_rfl) (by simp) ?_
          refine AllReadyH.cons rfl (fun K hK => ?_) ?_
          · go_simp
            refine (newAreas_any _ _ _ xs _ (hx.next K2) hn hi).mono ?_
            rintro e v3 ⟨A5, c5, rfl, N5, b3⟩
            have K3 := bel_then K2 b3
            have Z3 := b3.size
            clear ca
            replace Bm := Bm.next b3
            replace Ba := Ba.next b3
            rw [HL.out] at N5
            obtain ⟨rs, hrs, ML⟩ := N5
            have HRS := Lib.hid hrs
            clear hrs b3
            have ca := Ba.cell
            rw [HL.out]
            go_wp2_with fail
            refine hK.out _ _ (by (try dsimp only); go_keep) (fun hHeld => ?_)
            clear hK K
            refine wpAnyH_ready (rs := [4]) (by kernel_rfl) (by simp) ?_
            refine AllReadyH.cons rfl (fun K hK => ?_) AllReadyH.nil
            go_simp
            refine hK.out _ _ (by (try dsimp only); go_keep) (fun hHeld => ?_)
            clear hK K
            try simp only [Act.put, List.setIfInBounds_toArray, List.set_cons_zero, List.set_cons_succ, List.getElem_toArray, List.getElem_cons_zero, List.getElem_cons_succ]
            have b4 : Below v3.heap.size v3 (v3.alloc (.cells #[.int .i64 a.id, .slice Aa na ca0, .int .i64 a.first, .int .i64 a.last] 62)) := (Below.refl _ _).alloc (Nat.le_refl _) _
            have K4 := bel_then K3 b4
            have Z4 := b4.size
            clear ca
            replace Bm := Bm.next b4
            replace Ba := Ba.next b4
            replace ML := ML.next b4
            have G4 : Blk (v3.alloc (.cells #[.int .i64 a.id, .slice Aa na ca0, .int .i64 a.first, .int .i64 a.last] 62)) v3.heap.size 62 [.int .i64 a.id, .slice Aa na ca0, .int .i64 a.first, .int .i64 a.last] := Blk.at_ rfl
            clear b4
            generalize (v3.alloc (.cells #[.int .i64 a.id, .slice Aa na ca0, .int .i64 a.first, .int .i64 a.last] 62)) = v4 at *
            generalize v3.heap.size = g4 at *
            have ca := Ba.cell
            refine wpAnyH_ready (rs := [5]) (by kernel_rfl) (by simp) ?_
            refine AllReadyH.cons rfl (fun K hK => ?_) AllReadyH.nil
            go_simp
            have SN4 : SeesN areaSh v4 0 (some ⟨g4, 0, none⟩) 1 [a] := ⟨[⟨a, Aa, na, ca0⟩], rfl, G4.sees (Nat.zero_le _) rfl, fun r hr => by rw [List.mem_singleton.1 hr]; exact ha.next K4⟩
            refine (newAreas_any _ _ _ [a] _ SN4 (by omega) (fun x hx => by rw [List.mem_singleton.1 hx]; exact HNA.out)).mono ?_
            rintro e v5 ⟨A6, c6, rfl, N6, b5⟩
            have K5 := bel_then K4 b5
            have Z5 := b5.size
            clear ca
            replace Bm := Bm.next b5
            replace Ba := Ba.next b5
            replace ML := ML.next b5
            replace G4 := G4.next b5
            obtain ⟨rs6, hrs6, MR6⟩ := N6
            obtain ⟨r6, rfl, hr6⟩ : ∃ r6, rs6 = [r6] ∧ a = r6.x := by
              rcases rs6 with _ | ⟨r6, _ | ⟨_, _⟩⟩ <;> simp at hrs6
              exact ⟨r6, rfl, hrs6.symm⟩
            have M6 := MR6.inners.each r6 (by simp)
            obtain ⟨x6, B6, n6, d6⟩ := r6
            dsimp only at hr6
            subst hr6
            obtain ⟨g6, cur6, rfl, _, Q6, _, _, hget⟩ := MR6.block (by simp)
            have c60 : v5.cell? ⟨g6, 0, none⟩ = some (.int .i64 a.id) := (Q6.cell 0).trans (hget 0 0 (by simp) (by decide))
            have c61 : v5.cell? ⟨g6, 1, none⟩ = some (.slice B6 n6 d6) := (Q6.cell 1).trans (hget 0 1 (by simp) (by decide))
            have c62 : v5.cell? ⟨g6, 2, none⟩ = some (.int .i64 a.first) := (Q6.cell 2).trans (hget 0 2 (by simp) (by decide))
            have c63 : v5.cell? ⟨g6, 3, none⟩ = some (.int .i64 a.last) := (Q6.cell 3).trans (hget 0 3 (by simp) (by decide))
            clear hget Q6 MR6 hrs6 SN4 b5
            have ca := Ba.cell
            go_wp2_with fail
            refine hK.out _ _ (by (try dsimp only); exact ⟨Ba.cell 0, Ba.cell 1, Ba.cell 2, Ba.cell 3⟩) (fun hHeld => ?_)
            clear hK K
            refine wpAnyH_take (i := 6) (v := ?_) rfl (by kernel_rfl) (by kernel_rfl) (by kernel_rfl) (fun _ _ _ h => h) (Or.inl ⟨by rfl, ?_⟩) (by assumption) ?_
            rotate_left 1
            · (intro w hSw; (try dsimp only at hSw); go_simp; try with_reducible rfl)
            (try simp only [Act.put, List.setIfInBounds_toArray, List.set_cons_zero, List.set_cons_succ, List.getElem_toArray, List.getElem_cons_zero, List.getElem_cons_succ])
            refine wpAnyH_ready (rs := [7]) (by kernel_rfl) (by simp) ?_
            refine AllReadyH.cons rfl (fun K hK => ?_) AllReadyH.nil
            go_simp
            refine hK.out _ _ (by (try dsimp only); exact ⟨Ba.cell 0, Ba.cell 1, Ba.cell 2, Ba.cell 3⟩) (fun hHeld => ?_)
            clear hK K
            try simp only [Act.put, List.setIfInBounds_toArray, List.set_cons_zero, List.set_cons_succ, List.getElem_toArray, List.getElem_cons_zero, List.getElem_cons_succ]
            refine wpAnyH_ready (rs := [8]) (by kernel_rfl) (by simp) ?_
            refine AllReadyH.cons rfl (fun K hK => ?_) AllReadyH.nil
            go_simp
            refine hK.out _ _ (by (try dsimp only); go_keep) (fun hHeld => ?_)
            clear hK K
            try simp only [Act.put, List.setIfInBounds_toArray, List.set_cons_zero, List.set_cons_succ, List.getElem_toArray, List.getElem_cons_zero, List.getElem_cons_succ]
            have b6 : Below v5.heap.size v5 (v5.alloc (.cells #[.int .i64 a.id, .slice B6 n6 d6, .int .i64 a.first, .int .i64 a.last] 62)) := (Below.refl _ _).alloc (Nat.le_refl _) _
            have HA5 := Lib.hid (fun b (hb : OwnB A5 b) => ML.outer.lt b hb)
            have K6 := bel_then K5 b6
            have Z6 := b6.size
            clear ca
            replace Bm := Bm.next b6
            replace Ba := Ba.next b6
            replace ML := ML.next b6
            replace G4 := G4.next b6
            replace M6 := M6.next b6
            have G8 : Blk (v5.alloc (.cells #[.int .i64 a.id, .slice B6 n6 d6, .int .i64 a.first, .int .i64 a.last] 62)) v5.heap.size 62 (areaSh.enc ⟨a, B6, n6, d6⟩) := Blk.at_ rfl
            have hne8 : ¬ OwnB A5 v5.heap.size := fun hb => by have := HA5.out _ hb; omega
            clear b6
            generalize (v5.alloc (.cells #[.int .i64 a.id, .slice B6 n6 d6, .int .i64 a.first, .int .i64 a.last] 62)) = v6 at *
            generalize v5.heap.size = g8 at *
            have ca := Ba.cell
            refine wpAnyH_ready (rs := [9]) (by kernel_rfl) (by simp) ?_
            refine AllReadyH.cons rfl (fun K hK => ?_) AllReadyH.nil
            go_simp
            have hlw : w.heap.size + 1 < v6.heap.size := Ba.lt
            refine (Insert_any 0 n c5 k _ A5 (rs.flatMap areaSh.enc) _ _ (ML.outer.own) (areas_one rs) hk (Nat.zero_le _) (by omega) G8 rfl (by rfl) hne8).mono ?_
            rintro e v7 ⟨A9, c9, rfl, o9, h9, b9, q9⟩
            have MR9 : MineR areaSh v7 (fun b => w.heap.size ≤ b) 62 3 A9 (n + 1) c9 (rs.take k ++ ⟨a, B6, n6, d6⟩ :: rs.drop k) := areas_ins ML M6 (fun b h1 h2 => by have := h1.2; have := h2.1; omega) o9 hk h9 q9 (fun b hb => by rcases hb with hb | hb | hb <;> first | (have := hb.1; show w.heap.size ≤ b; omega) | (show w.heap.size ≤ b; omega))
            have K7 : Below w.heap.size w v7 := K6.trans (h9.below (fun b hb => by have := (ML.outer.top b hb).1; omega) (by omega))
            have HMX := Lib.hid (show (rs.take k ++ (⟨a, B6, n6, d6⟩ : Hd Area) :: rs.drop k).map Hd.x = insA a xs by rw [HPE.out, List.map_append, List.map_cons, List.map_take, List.map_drop, HRS.out])
            have SN9 : SeesN areaSh v7 0 A9 (n + 1) (insA a xs) := by
              rw [← HMX.out]
              exact MR9.sees
            have Bm' := Bm.only h9 (fun hb => by have := (ML.outer.top _ hb).1; omega)
            have Ba' := Ba.only h9 (fun hb => by have := (ML.outer.top _ hb).1; omega)
            clear ca Bm Ba
            have Bm := Bm'
            have Ba := Ba'
            clear Bm' Ba'
            have cm := Bm.cell
            have ca := Ba.cell
            go_wp2_with fail
            refine hK.out _ _ (by (try dsimp only); exact ⟨Ba.cell 0, Ba.cell 1, Ba.cell 2, Ba.cell 3⟩) (fun hHeld => ?_)
            clear hK K
            refine wpAnyH_take (i := 10) (v := ?_) rfl (by kernel_rfl) (by kernel_rfl) (by kernel_rfl) (fun _ _ _ h => h) (Or.inl ⟨by rfl, ?_⟩) (by assumption) ?_
            rotate_left 1
            · (intro w hSw; (try dsimp only at hSw); go_simp; try with_reducible rfl)
            (try simp only [Act.put, List.setIfInBounds_toArray, List.set_cons_zero, List.set_cons_succ, List.getElem_toArray, List.getElem_cons_zero, List.getElem_cons_succ])
            refine wpAnyH_done (by kernel_rfl) ?_ _
            go_wp2_with fail
            refine (AreAreas_any _ _ _ _ _ _ m _ _ _ (insA a xs) _ (hm.next K7) hn' SN9 (by omega) HIN.out).mono ?_
            cases g2 : areasB m (insA a xs)
            · rintro e w7 ⟨rfl, b7⟩
              go_wp2_with fail
              go_ret2
              rw [show addArea m xs a = none by simp [addArea, g2]]
              exact givesA_nil (bel_then K7 b7)
            · rintro e w7 ⟨rfl, b7⟩
              have M9 := (MR9.next b7).inn
              go_wp2_with fail
              go_ret2
              rw [show addArea m xs a = some (insA a xs) by simp [addArea, g2, G1.out]]
              exact givesA_at (by rw [insA_len, HL.out]) ⟨_, HMX.out, M9⟩ (bel_then K7 b7)
          refine AllReadyH.cons rfl (fun K hK => ?_) AllReadyH.nil
          · go_simp
            refine hK.out _ _ (by (try dsimp only); go_keep) (fun hHeld => ?_)
            clear hK K
            try simp only [Act.put, List.setIfInBounds_toArray, List.set_cons_zero, List.set_cons_succ, List.getElem_toArray, List.getElem_cons_zero, List.getElem_cons_succ]
            have b3 : Below v2.heap.size v2 (v2.alloc (.cells #[.int .i64 a.id, .slice Aa na ca0, .int .i64 a.first, .int .i64 a.last] 62)) := (Below.refl _ _).alloc (Nat.le_refl _) _
            have K3 := bel_then K2 b3
            have Z3 := b3.size
            clear ca
            replace Bm := Bm.next b3
            replace Ba := Ba.next b3
            have G4 : Blk (v2.alloc (.cells #[.int .i64 a.id, .slice Aa na ca0, .int .i64 a.first, .int .i64 a.last] 62)) v2.heap.size 62 [.int .i64 a.id, .slice Aa na ca0, .int .i64 a.first, .int .i64 a.last] := Blk.at_ rfl
            clear b3
            generalize (v2.alloc (.cells #[.int .i64 a.id, .slice Aa na ca0, .int .i64 a.first, .int .i64 a.last] 62)) = v3 at *
            generalize v2.heap.size = g4 at *
            have ca := Ba.cell
            refine wpAnyH_ready (rs := [1]) (by kernel_rfl) (by simp) ?_
            refine AllReadyH.cons rfl (fun K hK => ?_) AllReadyH.nil
            go_simp
            refine (newAreas_any _ _ _ xs _ (hx.next K3) hn hi).mono ?_
            rintro e v4 ⟨A5, c5, rfl, N5, b4⟩
            have K4 := bel_then K3 b4
            have Z4 := b4.size
            clear ca
            replace Bm := Bm.next b4
            replace Ba := Ba.next b4
            replace G4 := G4.next b4
            rw [HL.out] at N5
            obtain ⟨rs, hrs, ML⟩ := N5
            have HRS := Lib.hid hrs
            clear hrs b4
            have ca := Ba.cell
            rw [HL.out]
            go_wp2_with fail
            refine hK.out _ _ (by (try dsimp only); go_keep) (fun hHeld => ?_)
            clear hK K
            refine wpAnyH_ready (rs := [5]) (by kernel_rfl) (by simp) ?_
            refine AllReadyH.cons rfl (fun K hK => ?_) AllReadyH.nil
            go_simp
            have SN4 : SeesN areaSh v4 0 (some ⟨g4, 0, none⟩) 1 [a] := ⟨[⟨a, Aa, na, ca0⟩], rfl, G4.sees (Nat.zero_le _) rfl, fun r hr => by rw [List.mem_singleton.1 hr]; exact ha.next K4⟩
            refine (newAreas_any _ _ _ [a] _ SN4 (by omega) (fun x hx => by rw [List.mem_singleton.1 hx]; exact HNA.out)).mono ?_
            rintro e v5 ⟨A6, c6, rfl, N6, b5⟩
            have K5 := bel_then K4 b5
            have Z5 := b5.size
            clear ca
            replace Bm := Bm.next b5
            replace Ba := Ba.next b5
            replace ML := ML.next b5
            replace G4 := G4.next b5
            obtain ⟨rs6, hrs6, MR6⟩ := N6
            obtain ⟨r6, rfl, hr6⟩ : ∃ r6, rs6 = [r6] ∧ a = r6.x := by
              rcases rs6 with _ | ⟨r6, _ | ⟨_, _⟩⟩ <;> simp at hrs6
              exact ⟨r6, rfl, hrs6.symm⟩
            have M6 := MR6.inners.each r6 (by simp)
            obtain ⟨x6, B6, n6, d6⟩ := r6
            dsimp only at hr6
            subst hr6
            obtain ⟨g6, cur6, rfl, _, Q6, _, _, hget⟩ := MR6.block (by simp)
            have c60 : v5.cell? ⟨g6, 0, none⟩ = some (.int .i64 a.id) := (Q6.cell 0).trans (hget 0 0 (by simp) (by decide))
            have c61 : v5.cell? ⟨g6, 1, none⟩ = some (.slice B6 n6 d6) := (Q6.cell 1).trans (hget 0 1 (by simp) (by decide))
            have c62 : v5.cell? ⟨g6, 2, none⟩ = some (.int .i64 a.first) := (Q6.cell 2).trans (hget 0 2 (by simp) (by decide))
            have c63 : v5.cell? ⟨g6, 3, none⟩ = some (.int .i64 a.last) := (Q6.cell 3).trans (hget 0 3 (by simp) (by decide))
            clear hget Q6 MR6 hrs6 SN4 b5
            have ca := Ba.cell
            go_wp2_with fail
            refine hK.out _ _ (by (try dsimp only); exact ⟨Ba.cell 0, Ba.cell 1, Ba.cell 2, Ba.cell 3⟩) (fun hHeld => ?_)
            clear hK K
            refine wpAnyH_take (i := 6) (v := ?_) rfl (by kernel_rfl) (by kernel_rfl) (by kernel_rfl) (fun _ _ _ h => h) (Or.inl ⟨by rfl, ?_⟩) (by assumption) ?_
            rotate_left 1
            · (intro w hSw; (try dsimp only at hSw); go_simp; try with_reducible rfl)
            (try simp only [Act.put, List.setIfInBounds_toArray, List.set_cons_zero, List.set_cons_succ, List.getElem_toArray, List.getElem_cons_zero, List.getElem_cons_succ])
            refine wpAnyH_ready (rs := [7]) (by kernel_rfl) (by simp) ?_
            refine AllReadyH.cons rfl (fun K hK => ?_) AllReadyH.nil
            go_simp
            refine hK.out _ _ (by (try dsimp only); exact ⟨Ba.cell 0, Ba.cell 1, Ba.cell 2, Ba.cell 3⟩) (fun hHeld => ?_)
            clear hK K
            try simp only [Act.put, List.setIfInBounds_toArray, List.set_cons_zero, List.set_cons_succ, List.getElem_toArray, List.getElem_cons_zero, List.getElem_cons_succ]
            refine wpAnyH_ready (rs := [8]) (by kernel_rfl) (by simp) ?_
            refine AllReadyH.cons rfl (fun K hK => ?_) AllReadyH.nil
            go_simp
            refine hK.out _ _ (by (try dsimp only); go_keep) (fun hHeld => ?_)
            clear hK K
            try simp only [Act.put, List.setIfInBounds_toArray, List.set_cons_zero, List.set_cons_succ, List.getElem_toArray, List.getElem_cons_zero, List.getElem_cons_succ]
            have b6 : Below v5.heap.size v5 (v5.alloc (.cells #[.int .i64 a.id, .slice B6 n6 d6, .int .i64 a.first, .int .i64 a.last] 62)) := (Below.refl _ _).alloc (Nat.le_refl _) _
            have HA5 := Lib.hid (fun b (hb : OwnB A5 b) => ML.outer.lt b hb)
            have K6 := bel_then K5 b6
            have Z6 := b6.size
            clear ca
            replace Bm := Bm.next b6
            replace Ba := Ba.next b6
            replace ML := ML.next b6
            replace G4 := G4.next b6
            replace M6 := M6.next b6
            have G8 : Blk (v5.alloc (.cells #[.int .i64 a.id, .slice B6 n6 d6, .int .i64 a.first, .int .i64 a.last] 62)) v5.heap.size 62 (areaSh.enc ⟨a, B6, n6, d6⟩) := Blk.at_ rfl
            have hne8 : ¬ OwnB A5 v5.heap.size := fun hb => by have := HA5.out _ hb; omega
            clear b6
            generalize (v5.alloc (.cells #[.int .i64 a.id, .slice B6 n6 d6, .int .i64 a.first, .int .i64 a.last] 62)) = v6 at *
            generalize v5.heap.size = g8 at *
            have ca := Ba.cell
            refine wpAnyH_ready (rs := [9]) (by kernel_rfl) (by simp) ?_
            refine AllReadyH.cons rfl (fun K hK => ?_) AllReadyH.nil
            go_simp
            have hlw : w.heap.size + 1 < v6.heap.size := Ba.lt
            refine (Insert_any 0 n c5 k _ A5 (rs.flatMap areaSh.enc) _ _ (ML.outer.own) (areas_one rs) hk (Nat.zero_le _) (by omega) G8 rfl (by rfl) hne8).mono ?_
            rintro e v7 ⟨A9, c9, rfl, o9, h9, b9, q9⟩
            have MR9 : MineR areaSh v7 (fun b => w.heap.size ≤ b) 62 3 A9 (n + 1) c9 (rs.take k ++ ⟨a, B6, n6, d6⟩ :: rs.drop k) := areas_ins ML M6 (fun b h1 h2 => by have := h1.2; have := h2.1; omega) o9 hk h9 q9 (fun b hb => by rcases hb with hb | hb | hb <;> first | (have := hb.1; show w.heap.size ≤ b; omega) | (show w.heap.size ≤ b; omega))
            have K7 : Below w.heap.size w v7 := K6.trans (h9.below (fun b hb => by have := (ML.outer.top b hb).1; omega) (by omega))
            have HMX := Lib.hid (show (rs.take k ++ (⟨a, B6, n6, d6⟩ : Hd Area) :: rs.drop k).map Hd.x = insA a xs by rw [HPE.out, List.map_append, List.map_cons, List.map_take, List.map_drop, HRS.out])
            have SN9 : SeesN areaSh v7 0 A9 (n + 1) (insA a xs) := by
              rw [← HMX.out]
              exact MR9.sees
            have Bm' := Bm.only h9 (fun hb => by have := (ML.outer.top _ hb).1; omega)
            have Ba' := Ba.only h9 (fun hb => by have := (ML.outer.top _ hb).1; omega)
            clear ca Bm Ba
            have Bm := Bm'
            have Ba := Ba'
            clear Bm' Ba'
            have cm := Bm.cell
            have ca := Ba.cell
            go_wp2_with fail
            refine hK.out _ _ (by (try dsimp only); exact ⟨Ba.cell 0, Ba.cell 1, Ba.cell 2, Ba.cell 3⟩) (fun hHeld => ?_)
            clear hK K
            refine wpAnyH_take (i := 10) (v := ?_) rfl (by kernel_rfl) (by kernel_rfl) (by kernel_rfl) (fun _ _ _ h => h) (Or.inl ⟨by rfl, ?_⟩) (by assumption) ?_
            rotate_left 1
            · (intro w hSw; (try dsimp only at hSw); go_simp; try with_reducible rfl)
            (try simp only [Act.put, List.setIfInBounds_toArray, List.set_cons_zero, List.set_cons_succ, List.getElem_toArray, List.getElem_cons_zero, List.getElem_cons_succ])
            refine wpAnyH_done (by kernel_rfl) ?_ _
            go_wp2_with fail
            refine (AreAreas_any _ _ _ _ _ _ m _ _ _ (insA a xs) _ (hm.next K7) hn' SN9 (by omega) HIN.out).mono ?_
            cases g2 : areasB m (insA a xs)
            · rintro e w7 ⟨rfl, b7⟩
              go_wp2_with fail
              go_ret2
              rw [show addArea m xs a = none by simp [addArea, g2]]
              exact givesA_nil (bel_then K7 b7)
            · rintro e w7 ⟨rfl, b7⟩
              have M9 := (MR9.next b7).inn
              go_wp2_with fail
              go_ret2
              rw [show addArea m xs a = some (insA a xs) by simp [addArea, g2, G1.out]]
              exact givesA_at (by rw [insA_len, HL.out]) ⟨_, HMX.out, M9⟩ (bel_then K7 b7)
      · have HPE := Lib.hid (insA_at (a := a) (xs := xs) (k := k) (by have := HL.out; omega) HB.out (fun h => absurd h (by have := HL.out; omega)))
        clear HB
        go_wp2_with fail
        go_quiet (fail)
        have bq := (Quiet.mk wr nq).below wr.heap.size
        replace Bm := Bm.next bq
        replace Ba := Ba.next bq
        replace K := bel_then K bq
        clear ca bq
        generalize wr.drewN nq = wv at *
        have ca := Ba.cell
        go_wp2_with fail
        refine wp_region_held_drew (S := fun w' => w'.cell? ⟨w.heap.size + 1, 0, none⟩ = some (.int .i64 a.id) ∧ w'.cell? ⟨w.heap.size + 1, 1, none⟩ = some (.slice Aa na ca0) ∧ w'.cell? ⟨w.heap.size + 1, 2, none⟩ = some (.int .i64 a.first) ∧ w'.cell? ⟨w.heap.size + 1, 3, none⟩ = some (.int .i64 a.last)) (by kernel_rfl) (by (try dsimp only); go_keep) (fun hHeld => ?_)
        have b2 := (Quiet.one wv).below wv.heap.size
        have K2 := bel_then K b2
        replace Bm := Bm.next b2
        replace Ba := Ba.next b2
        clear ca b2
        generalize wv.drew = v2 at *
        have ca := Ba.cell
        have hlw2 := Ba.lt
        refine wpAnyH_take (i := 0) (v := ?_) rfl (by kernel_rfl) (by kernel_rfl) (by kernel_rfl) (fun _ _ _ h => h) (Or.inl ⟨by rfl, ?_⟩) (by assumption) ?_
        rotate_left 1
        · (intro w hSw; (try dsimp only at hSw); go_simp; try with_reducible rfl)
        (try simp only [Act.put, List.setIfInBounds_toArray, List.set_cons_zero, List.set_cons_succ, List.getElem_toArray, List.getElem_cons_zero])
        refine wpAnyH_take (i := 2) (v := ?_) rfl (by kernel_rfl) (by kernel_rfl) (by kernel_rfl) (fun _ _ _ h => h) (Or.inl ⟨by rfl, ?_⟩) (by assumption) ?_
        rotate_left 1
        · (intro w hSw; (try dsimp only at hSw); go_simp; try with_reducible rfl)
        (try simp only [Act.put, List.setIfInBounds_toArray, List.set_cons_zero, List.set_cons_succ, List.getElem_toArray, List.getElem_cons_zero, List.getElem_cons_succ])
        refine wpAnyH_take (i := 3) (v := ?_) rfl (by kernel_rfl) (by kernel_rfl) (by kernel_rfl) (fun _ _ _ h => h) (Or.inl ⟨by rfl, ?_⟩) (by assumption) ?_
        rotate_left 1
        · (intro w hSw; (try dsimp only at hSw); go_simp; try with_reducible rfl)
        (try simp only [Act.put, List.setIfInBounds_toArray, List.set_cons_zero, List.set_cons_succ, List.getElem_toArray, List.getElem_cons_zero, List.getElem_cons_succ])
        refine wpAnyH_ready (rs := [1, 4]) (by kernel_rfl) (by simp) ?_
        refine AllReadyH.cons rfl (fun K hK => ?_) ?_
        · go_simp
          refine (newAreas_any _ _ _ xs _ (hx.next K2) hn hi).mono ?_
          rintro e v3 ⟨A5, c5, rfl, N5, b3⟩
          have K3 := bel_then K2 b3
          have Z3 := b3.size
          clear ca
          replace Bm := Bm.next b3
          replace Ba := Ba.next b3
          rw [HL.out] at N5
          obtain ⟨rs, hrs, ML⟩ := N5
          have HRS := Lib.hid hrs
          clear hrs b3
          have ca := Ba.cell
          rw [HL.out]
          go_wp2_with fail
          refine hK.out _ _ (by (try dsimp only); go_keep) (fun hHeld => ?_)
          clear hK K
          refine wpAnyH_ready (rs := [4]) (by kernel_rfl) (by simp) ?_
          refine AllReadyH.cons rfl (fun K hK => ?_) AllReadyH.nil
          go_simp
          refine hK.out _ _ (by (try dsimp only); go_keep) (fun hHeld => ?_)
          clear hK K
          try simp only [Act.put, List.setIfInBounds_toArray, List.set_cons_zero, List.set_cons_succ, List.getElem_toArray, List.getElem_cons_zero, List.getElem_cons_succ]
          have b4 : Below v3.heap.size v3 (v3.alloc (.cells #[.int .i64 a.id, .slice Aa na ca0, .int .i64 a.first, .int .i64 a.last] 62)) := (Below.refl _ _).alloc (Nat.le_refl _) _
          have K4 := bel_then K3 b4
          have Z4 := b4.size
          clear ca
          replace Bm := Bm.next b4
          replace Ba := Ba.next b4
          replace ML := ML.next b4
          have G4 : Blk (v3.alloc (.cells #[.int .i64 a.id, .slice Aa na ca0, .int .i64 a.first, .int .i64 a.last] 62)) v3.heap.size 62 [.int .i64 a.id, .slice Aa na ca0, .int .i64 a.first, .int .i64 a.last] := Blk.at_ rfl
          clear b4
          generalize (v3.alloc (.cells #[.int .i64 a.id, .slice Aa na ca0, .int .i64 a.first, .int .i64 a.last] 62)) = v4 at *
          generalize v3.heap.size = g4 at *
          have ca := Ba.cell
          refine wpAnyH_ready (rs := [5]) (by kernel_rfl) (by simp) ?_
          refine AllReadyH.cons rfl (fun K hK => ?_) AllReadyH.nil
          go_simp
          have SN4 : SeesN areaSh v4 0 (some ⟨g4, 0, none⟩) 1 [a] := ⟨[⟨a, Aa, na, ca0⟩], rfl, G4.sees (Nat.zero_le _) rfl, fun r hr => by rw [List.mem_singleton.1 hr]; exact ha.next K4⟩
          refine (newAreas_any _ _ _ [a] _ SN4 (by omega) (fun x hx => by rw [List.mem_singleton.1 hx]; exact HNA.out)).mono ?_
          rintro e v5 ⟨A6, c6, rfl, N6, b5⟩
          have K5 := bel_then K4 b5
          have Z5 := b5.size
          clear ca
          replace Bm := Bm.next b5
          replace Ba := Ba.next b5
          replace ML := ML.next b5
          replace G4 := G4.next b5
          obtain ⟨rs6, hrs6, MR6⟩ := N6
          obtain ⟨r6, rfl, hr6⟩ : ∃ r6, rs6 = [r6] ∧ a = r6.x := by
            rcases rs6 with _ | ⟨r6, _ | ⟨_, _⟩⟩ <;> simp at hrs6
            exact ⟨r6, rfl, hrs6.symm⟩
          have M6 := MR6.inners.each r6 (by simp)
          obtain ⟨x6, B6, n6, d6⟩ := r6
          dsimp only at hr6
          subst hr6
          obtain ⟨g6, cur6, rfl, _, Q6, _, _, hget⟩ := MR6.block (by simp)
          have c60 : v5.cell? ⟨g6, 0, none⟩ = some (.int .i64 a.id) := (Q6.cell 0).trans (hget 0 0 (by simp) (by decide))
          have c61 : v5.cell? ⟨g6, 1, none⟩ = some (.slice B6 n6 d6) := (Q6.cell 1).trans (hget 0 1 (by simp) (by decide))
          have c62 : v5.cell? ⟨g6, 2, none⟩ = some (.int .i64 a.first) := (Q6.cell 2).trans (hget 0 2 (by simp) (by decide))
          have c63 : v5.cell? ⟨g6, 3, none⟩ = some (.int .i64 a.last) := (Q6.cell 3).trans (hget 0 3 (by simp) (by decide))
          clear hget Q6 MR6 hrs6 SN4 b5
          have ca := Ba.cell
          go_wp2_with fail
          refine hK.out _ _ (by (try dsimp only); exact ⟨Ba.cell 0, Ba.cell 1, Ba.cell 2, Ba.cell 3⟩) (fun hHeld => ?_)
          clear hK K
          refine wpAnyH_take (i := 6) (v := ?_) rfl (by kernel_rfl) (by kernel_rfl) (by kernel_rfl) (fun _ _ _ h => h) (Or.inl ⟨by rfl, ?_⟩) (by assumption) ?_
          rotate_left 1
          · (intro w hSw; (try dsimp only at hSw); go_simp; try with_reducible rfl)
          (try simp only [Act.put, List.setIfInBounds_toArray, List.set_cons_zero, List.set_cons_succ, List.getElem_toArray, List.getElem_cons_zero, List.getElem_cons_succ])
          refine wpAnyH_ready (rs := [7]) (by kernel_rfl) (by simp) ?_
          refine AllReadyH.cons rfl (fun K hK => ?_) AllReadyH.nil
          go_simp
          refine hK.out _ _ (by (try dsimp only); exact ⟨Ba.cell 0, Ba.cell 1, Ba.cell 2, Ba.cell 3⟩) (fun hHeld => ?_)
          clear hK K
          try simp only [Act.put, List.setIfInBounds_toArray, List.set_cons_zero, List.set_cons_succ, List.getElem_toArray, List.getElem_cons_zero, List.getElem_cons_succ]
          refine wpAnyH_ready (rs := [8]) (by kernel_rfl) (by simp) ?_
          refine AllReadyH.cons rfl (fun K hK => ?_) AllReadyH.nil
          go_simp
          refine hK.out _ _ (by (try dsimp only); go_keep) (fun hHeld => ?_)
          clear hK K
          try simp only [Act.put, List.setIfInBounds_toArray, List.set_cons_zero, List.set_cons_succ, List.getElem_toArray, List.getElem_cons_zero, List.getElem_cons_succ]
          have b6 : Below v5.heap.size v5 (v5.alloc (.cells #[.int .i64 a.id, .slice B6 n6 d6, .int .i64 a.first, .int .i64 a.last] 62)) := (Below.refl _ _).alloc (Nat.le_refl _) _
          have HA5 := Lib.hid (fun b (hb : OwnB A5 b) => ML.outer.lt b hb)
          have K6 := bel_then K5 b6
          have Z6 := b6.size
          clear ca
          replace Bm := Bm.next b6
          replace Ba := Ba.next b6
          replace ML := ML.next b6
          replace G4 := G4.next b6
          replace M6 := M6.next b6
          have G8 : Blk (v5.alloc (.cells #[.int .i64 a.id, .slice B6 n6 d6, .int .i64 a.first, .int .i64 a.last] 62)) v5.heap.size 62 (areaSh.enc ⟨a, B6, n6, d6⟩) := Blk.at_ rfl
          have hne8 : ¬ OwnB A5 v5.heap.size := fun hb => by have := HA5.out _ hb; omega
          clear b6
          generalize (v5.alloc (.cells #[.int .i64 a.id, .slice B6 n6 d6, .int .i64 a.first, .int .i64 a.last] 62)) = v6 at *
          generalize v5.heap.size = g8 at *
          have ca := Ba.cell
          refine wpAnyH_ready (rs := [9]) (by kernel_rfl) (by simp) ?_
          refine AllReadyH.cons rfl (fun K hK => ?_) AllReadyH.nil
          go_simp
          have hlw : w.heap.size + 1 < v6.heap.size := Ba.lt
          refine (Insert_any 0 n c5 k _ A5 (rs.flatMap areaSh.enc) _ _ (ML.outer.own) (areas_one rs) hk (Nat.zero_le _) (by omega) G8 rfl (by rfl) hne8).mono ?_
          rintro e v7 ⟨A9, c9, rfl, o9, h9, b9, q9⟩
          have MR9 : MineR areaSh v7 (fun b => w.heap.size ≤ b) 62 3 A9 (n + 1) c9 (rs.take k ++ ⟨a, B6, n6, d6⟩ :: rs.drop k) := areas_ins ML M6 (fun b h1 h2 => by have := h1.2; have := h2.1; omega) o9 hk h9 q9 (fun b hb => by rcases hb with hb | hb | hb <;> first | (have := hb.1; show w.heap.size ≤ b; omega) | (show w.heap.size ≤ b; omega))
          have K7 : Below w.heap.size w v7 := K6.trans (h9.below (fun b hb => by have := (ML.outer.top b hb).1; omega) (by omega))
          have HMX := Lib.hid (show (rs.take k ++ (⟨a, B6, n6, d6⟩ : Hd Area) :: rs.drop k).map Hd.x = insA a xs by rw [HPE.out, List.map_append, List.map_cons, List.map_take, List.map_drop, HRS.out])
          have SN9 : SeesN areaSh v7 0 A9 (n + 1) (insA a xs) := by
            rw [← HMX.out]
            exact MR9.sees
          have Bm' := Bm.only h9 (fun hb => by have := (ML.outer.top _ hb).1; omega)
          have Ba' := Ba.only h9 (fun hb => by have := (ML.outer.top _ hb).1; omega)
          clear ca Bm Ba
          have Bm := Bm'
          have Ba := Ba'
          clear Bm' Ba'
          have cm := Bm.cell
          have ca := Ba.cell
          go_wp2_with fail
          refine hK.out _ _ (by (try dsimp only); exact ⟨Ba.cell 0, Ba.cell 1, Ba.cell 2, Ba.cell 3⟩) (fun hHeld => ?_)
          clear hK K
          refine wpAnyH_take (i := 10) (v := ?_) rfl (by kernel_rfl) (by kernel_rfl) (by kernel_rfl) (fun _ _ _ h => h) (Or.inl ⟨by rfl, ?_⟩) (by assumption) ?_
          rotate_left 1
          · (intro w hSw; (try dsimp only at hSw); go_simp; try with_reducible rfl)
          (try simp only [Act.put, List.setIfInBounds_toArray, List.set_cons_zero, List.set_cons_succ, List.getElem_toArray, List.getElem_cons_zero, List.getElem_cons_succ])
          refine wpAnyH_done (by kernel_rfl) ?_ _
          go_wp2_with fail
          refine (AreAreas_any _ _ _ _ _ _ m _ _ _ (insA a xs) _ (hm.next K7) hn' SN9 (by omega) HIN.out).mono ?_
          cases g2 : areasB m (insA a xs)
          · rintro e w7 ⟨rfl, b7⟩
            go_wp2_with fail
            go_ret2
            rw [show addArea m xs a = none by simp [addArea, g2]]
            exact givesA_nil (bel_then K7 b7)
          · rintro e w7 ⟨rfl, b7⟩
            have M9 := (MR9.next b7).inn
            go_wp2_with fail
            go_ret2
            rw [show addArea m xs a = some (insA a xs) by simp [addArea, g2, G1.out]]
            exact givesA_at (by rw [insA_len, HL.out]) ⟨_, HMX.out, M9⟩ (bel_then K7 b7)
        refine AllReadyH.cons rfl (fun K hK => ?_) AllReadyH.nil
        · go_simp
          refine hK.out _ _ (by (try dsimp only); go_keep) (fun hHeld => ?_)
          clear hK K
          try simp only [Act.put, List.setIfInBounds_toArray, List.set_cons_zero, List.set_cons_succ, List.getElem_toArray, List.getElem_cons_zero, List.getElem_cons_succ]
          have b3 : Below v2.heap.size v2 (v2.alloc (.cells #[.int .i64 a.id, .slice Aa na ca0, .int .i64 a.first, .int .i64 a.last] 62)) := (Below.refl _ _).alloc (Nat.le_refl _) _
          have K3 := bel_then K2 b3
          have Z3 := b3.size
          clear ca
          replace Bm := Bm.next b3
          replace Ba := Ba.next b3
          have G4 : Blk (v2.alloc (.cells #[.int .i64 a.id, .slice Aa na ca0, .int .i64 a.first, .int .i64 a.last] 62)) v2.heap.size 62 [.int .i64 a.id, .slice Aa na ca0, .int .i64 a.first, .int .i64 a.last] := Blk.at_ rfl
          clear b3
          generalize (v2.alloc (.cells #[.int .i64 a.id, .slice Aa na ca0, .int .i64 a.first, .int .i64 a.last] 62)) = v3 at *
          generalize v2.heap.size = g4 at *
          have ca := Ba.cell
          refine wpAnyH_ready (rs := [1]) (by kernel_rfl) (by simp) ?_
          refine AllReadyH.cons rfl (fun K hK => ?_) AllReadyH.nil
          go_simp
          refine (newAreas_any _ _ _ xs _ (hx.next K3) hn hi).mono ?_
          rintro e v4 ⟨A5, c5, rfl, N5, b4⟩
          have K4 := bel_then K3 b4
          have Z4 := b4.size
          clear ca
          replace Bm := Bm.next b4
          replace Ba := Ba.next b4
          replace G4 := G4.next b4
          rw [HL.out] at N5
          obtain ⟨rs, hrs, ML⟩ := N5
          have HRS := Lib.hid hrs
          clear hrs b4
          have ca := Ba.cell
          rw [HL.out]
          go_wp2_with fail
          refine hK.out _ _ (by (try dsimp only); go_keep) (fun hHeld => ?_)
          clear hK K
          refine wpAnyH_ready (rs := [5]) (by kernel_rfl) (by simp) ?_
          refine AllReadyH.cons rfl (fun K hK => ?_) AllReadyH.nil
          go_simp
          have SN4 : SeesN areaSh v4 0 (some ⟨g4, 0, none⟩) 1 [a] := ⟨[⟨a, Aa, na, ca0⟩], rfl, G4.sees (Nat.zero_le _) rfl, fun r hr => by rw [List.mem_singleton.1 hr]; exact ha.next K4⟩
          refine (newAreas_any _ _ _ [a] _ SN4 (by omega) (fun x hx => by rw [List.mem_singleton.1 hx]; exact HNA.out)).mono ?_
          rintro e v5 ⟨A6, c6, rfl, N6, b5⟩
          have K5 := bel_then K4 b5
          have Z5 := b5.size
          clear ca
          replace Bm := Bm.next b5
          replace Ba := Ba.next b5
          replace ML := ML.next b5
          replace G4 := G4.next b5
          obtain ⟨rs6, hrs6, MR6⟩ := N6
          obtain ⟨r6, rfl, hr6⟩ : ∃ r6, rs6 = [r6] ∧ a = r6.x := by
            rcases rs6 with _ | ⟨r6, _ | ⟨_, _⟩⟩ <;> simp at hrs6
            exact ⟨r6, rfl, hrs6.symm⟩
          have M6 := MR6.inners.each r6 (by simp)
          obtain ⟨x6, B6, n6, d6⟩ := r6
          dsimp only at hr6
          subst hr6
          obtain ⟨g6, cur6, rfl, _, Q6, _, _, hget⟩ := MR6.block (by simp)
          have c60 : v5.cell? ⟨g6, 0, none⟩ = some (.int .i64 a.id) := (Q6.cell 0).trans (hget 0 0 (by simp) (by decide))
          have c61 : v5.cell? ⟨g6, 1, none⟩ = some (.slice B6 n6 d6) := (Q6.cell 1).trans (hget 0 1 (by simp) (by decide))
          have c62 : v5.cell? ⟨g6, 2, none⟩ = some (.int .i64 a.first) := (Q6.cell 2).trans (hget 0 2 (by simp) (by decide))
          have c63 : v5.cell? ⟨g6, 3, none⟩ = some (.int .i64 a.last) := (Q6.cell 3).trans (hget 0 3 (by simp) (by decide))
          clear hget Q6 MR6 hrs6 SN4 b5
          have ca := Ba.cell
          go_wp2_with fail
          refine hK.out _ _ (by (try dsimp only); exact ⟨Ba.cell 0, Ba.cell 1, Ba.cell 2, Ba.cell 3⟩) (fun hHeld => ?_)
          clear hK K
          refine wpAnyH_take (i := 6) (v := ?_) rfl (by kernel_rfl) (by kernel_rfl) (by kernel_rfl) (fun _ _ _ h => h) (Or.inl ⟨by rfl, ?_⟩) (by assumption) ?_
          rotate_left 1
          · (intro w hSw; (try dsimp only at hSw); go_simp; try with_reducible rfl)
          (try simp only [Act.put, List.setIfInBounds_toArray, List.set_cons_zero, List.set_cons_succ, List.getElem_toArray, List.getElem_cons_zero, List.getElem_cons_succ])
          refine wpAnyH_ready (rs := [7]) (by kernel_rfl) (by simp) ?_
          refine AllReadyH.cons rfl (fun K hK => ?_) AllReadyH.nil
          go_simp
          refine hK.out _ _ (by (try dsimp only); exact ⟨Ba.cell 0, Ba.cell 1, Ba.cell 2, Ba.cell 3⟩) (fun hHeld => ?_)
          clear hK K
          try simp only [Act.put, List.setIfInBounds_toArray, List.set_cons_zero, List.set_cons_succ, List.getElem_toArray, List.getElem_cons_zero, List.getElem_cons_succ]
          refine wpAnyH_ready (rs := [8]) (by kernel_rfl) (by simp) ?_
          refine AllReadyH.cons rfl (fun K hK => ?_) AllReadyH.nil
          go_simp
          refine hK.out _ _ (by (try dsimp only); go_keep) (fun hHeld => ?_)
          clear hK K
          try simp only [Act.put, List.setIfInBounds_toArray, List.set_cons_zero, List.set_cons_succ, List.getElem_toArray, List.getElem_cons_zero, List.getElem_cons_succ]
          have b6 : Below v5.heap.size v5 (v5.alloc (.cells #[.int .i64 a.id, .slice B6 n6 d6, .int .i64 a.first, .int .i64 a.last] 62)) := (Below.refl _ _).alloc (Nat.le_refl _) _
          have HA5 := Lib.hid (fun b (hb : OwnB A5 b) => ML.outer.lt b hb)
          have K6 := bel_then K5 b6
          have Z6 := b6.size
          clear ca
          replace Bm := Bm.next b6
          replace Ba := Ba.next b6
          replace ML := ML.next b6
          replace G4 := G4.next b6
          replace M6 := M6.next b6
          have G8 : Blk (v5.alloc (.cells #[.int .i64 a.id, .slice B6 n6 d6, .int .i64 a.first, .int .i64 a.last] 62)) v5.heap.size 62 (areaSh.enc ⟨a, B6, n6, d6⟩) := Blk.at_ rfl
          have hne8 : ¬ OwnB A5 v5.heap.size := fun hb => by have := HA5.out _ hb; omega
          clear b6
          generalize (v5.alloc (.cells #[.int .i64 a.id, .slice B6 n6 d6, .int .i64 a.first, .int .i64 a.last] 62)) = v6 at *
          generalize v5.heap.size = g8 at *
          have ca := Ba.cell
          refine wpAnyH_ready (rs := [9]) (by kernel_rfl) (by simp) ?_
          refine AllReadyH.cons rfl (fun K hK => ?_) AllReadyH.nil
          go_simp
          have hlw : w.heap.size + 1 < v6.heap.size := Ba.lt
          refine (Insert_any 0 n c5 k _ A5 (rs.flatMap areaSh.enc) _ _ (ML.outer.own) (areas_one rs) hk (Nat.zero_le _) (by omega) G8 rfl (by rfl) hne8).mono ?_
          rintro e v7 ⟨A9, c9, rfl, o9, h9, b9, q9⟩
          have MR9 : MineR areaSh v7 (fun b => w.heap.size ≤ b) 62 3 A9 (n + 1) c9 (rs.take k ++ ⟨a, B6, n6, d6⟩ :: rs.drop k) := areas_ins ML M6 (fun b h1 h2 => by have := h1.2; have := h2.1; omega) o9 hk h9 q9 (fun b hb => by rcases hb with hb | hb | hb <;> first | (have := hb.1; show w.heap.size ≤ b; omega) | (show w.heap.size ≤ b; omega))
          have K7 : Below w.heap.size w v7 := K6.trans (h9.below (fun b hb => by have := (ML.outer.top b hb).1; omega) (by omega))
          have HMX := Lib.hid (show (rs.take k ++ (⟨a, B6, n6, d6⟩ : Hd Area) :: rs.drop k).map Hd.x = insA a xs by rw [HPE.out, List.map_append, List.map_cons, List.map_take, List.map_drop, HRS.out])
          have SN9 : SeesN areaSh v7 0 A9 (n + 1) (insA a xs) := by
            rw [← HMX.out]
            exact MR9.sees
          have Bm' := Bm.only h9 (fun hb => by have := (ML.outer.top _ hb).1; omega)
          have Ba' := Ba.only h9 (fun hb => by have := (ML.outer.top _ hb).1; omega)
          clear ca Bm Ba
          have Bm := Bm'
          have Ba := Ba'
          clear Bm' Ba'
          have cm := Bm.cell
          have ca := Ba.cell
          go_wp2_with fail
          refine hK.out _ _ (by (try dsimp only); exact ⟨Ba.cell 0, Ba.cell 1, Ba.cell 2, Ba.cell 3⟩) (fun hHeld => ?_)
          clear hK K
          refine wpAnyH_take (i := 10) (v := ?_) rfl (by kernel_rfl) (by kernel_rfl) (by kernel_rfl) (fun _ _ _ h => h) (Or.inl ⟨by rfl, ?_⟩) (by assumption) ?_
          rotate_left 1
          · (intro w hSw; (try dsimp only at hSw); go_simp; try with_reducible rfl)
          (try simp only [Act.put, List.setIfInBounds_toArray, List.set_cons_zero, List.set_cons_succ, List.getElem_toArray, List.getElem_cons_zero, List.getElem_cons_succ])
          refine wpAnyH_done (by kernel_rfl) ?_ _
          go_wp2_with fail
          refine (AreAreas_any _ _ _ _ _ _ m _ _ _ (insA a xs) _ (hm.next K7) hn' SN9 (by omega) HIN.out).mono ?_
          cases g2 : areasB m (insA a xs)
          · rintro e w7 ⟨rfl, b7⟩
            go_wp2_with fail
            go_ret2
            rw [show addArea m xs a = none by simp [addArea, g2]]
            exact givesA_nil (bel_then K7 b7)
          · rintro e w7 ⟨rfl, b7⟩
            have M9 := (MR9.next b7).inn
            go_wp2_with fail
            go_ret2
            rw [show addArea m xs a = some (insA a xs) by simp [addArea, g2, G1.out]]
            exact givesA_at (by rw [insA_len, HL.out]) ⟨_, HMX.out, M9⟩ (bel_then K7 b7)

end Go.Proofs.Ytljiflbaknakaaa
