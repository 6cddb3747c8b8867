/- The library's merging in place, at sectors. -/
import Derived.Test.YtjcmlloglnkbfaaStabR
namespace Go.Proofs.Ytjcmlloglnkbfaa
open Go.RowKit

set_option maxRecDepth 100000 in
set_option maxHeartbeats 40000000 in
theorem symMerge_Sector (g : Nat) (lb : Array Value) (cf : Sector → Sector → Int) (D : Sector → Prop) (R C : Sector → Sector → Prop) (hc : Compares g lb (fun x : Sector => .agg x.enc.toArray) cf D) (ht : ∀ x y z, R x y → R y z → R x z) (hRC : ∀ x y, C x y → (ltOf' cf y x = true → R y x) ∧ (ltOf' cf y x = false → R x y)) (blk c n : Nat) (t : TypeId) (rest : List Value) (hn2 : n ≤ 1000) (N : Nat) :
    ∀ (a m b : Nat) (xs : List Sector) (w : World), b - a ≤ N → Blk w blk t (xs.flatMap Sector.enc ++ rest) → xs.length = n → a < m → m < b → b ≤ n → Ready R C xs a m b → (∀ x ∈ xs, D x) →
    Calls Try.prog 118 #[.slice (some ⟨blk, 0, none⟩) n c, .int .i64 (a : Int), .int .i64 (m : Int), .int .i64 (b : Int), .func (.func g) #[] lb] w (GivesRow w blk t rest fun ys => Merged R xs ys a b) := by
  induction N with
  | zero => intro a m b xs w h1 _ _ h2 h3; omega
  | succ N ih =>
    intro a m b xs w hN hB hn h1 h2 h3 hR hD
    have IH := Lib.hid ih
    have HN := Lib.hid hn
    have HD := Lib.hid hD
    have HRD := Lib.hid hR
    have HRC := Lib.hid hRC
    have HTR := Lib.hid ht
    have eg := hc.enters
    clear ih hn hD hR hRC ht
    by_cases hm1 : m = a + 1
    · have hma2 : (m : Int) - (a : Int) = 1 := by omega
      have hm2 : a + 1 ≤ m := by omega
      have hm3 : m ≤ a + 1 := by omega
      have HM1 := Lib.hid hm1
      clear hm1
      go_enter Try.func118, Try.ntmps118
      go_wp2_with fail
      go_loopw [10, 11] (fun u v wr => ∃ (i j : Nat), u = .int .i64 (i : Int) ∧ v = .int .i64 (j : Int) ∧ m ≤ i ∧ i ≤ j ∧ j ≤ b ∧ Hid (i = m ∨ ∃ x y, xs[i - 1]? = some x ∧ xs[a]? = some y ∧ R x y) ∧ Hid (j = b ∨ ∃ x y, xs[j]? = some x ∧ xs[a]? = some y ∧ R y x) ∧ Blk wr blk t (xs.flatMap Sector.enc ++ rest) ∧ Only (fun z => z = blk) w wr) (fun u v _ => (intOf v).toNat - (intOf u).toNat)
      case atStart => exact ⟨m, b, rfl, rfl, Nat.le_refl _, by omega, Nat.le_refl _, Lib.hid (.inl rfl), Lib.hid (.inl rfl), hB, Only.refl _ _⟩
      case round =>
        obtain ⟨i, j, rfl, rfl, hi, hij, hj, H1, H2, hB, ho⟩ := hrel
        by_cases hlt : i < j
        · obtain ⟨h, hh⟩ : ∃ h : Nat, (i + j) / 2 = h := ⟨_, rfl⟩
          have hh1 : i ≤ h := by omega
          have hh2 : h < j := by omega
          have hhi : ((i : Int) + (j : Int)) / 2 = (h : Int) := by omega
          have hhn : h < n := by omega
          have hhn2 : (h : Int) < (n : Int) := by omega
          have hh0 : (0 : Int) ≤ (h : Int) := by omega
          clear hh
          obtain ⟨p, hp⟩ : ∃ p, xs[h]? = some p := ⟨_, List.getElem?_eq_getElem (by rw [HN.out]; omega)⟩
          obtain ⟨q, hq⟩ : ∃ q, xs[a]? = some q := ⟨_, List.getElem?_eq_getElem (by rw [HN.out]; omega)⟩
          have hDp := HD.out p (List.mem_of_getElem? hp)
          have hDq := HD.out q (List.mem_of_getElem? hq)
          have hC := HRC.out q p (HRD.out.cross a h q p (Nat.le_refl _) (by omega) (by omega) (by omega) hq hp)
          have HT := Lib.hid hC.1
          have HF := Lib.hid hC.2
          clear hC
          have han : (a : Int) < (n : Int) := by omega
          have ha0 : (0 : Int) ≤ (a : Int) := by omega
          go_wp2_with fail
          have bq := (Quiet.one wr).below wr.heap.size
          have B2 := hB.next bq
          have o2 := ho.quiet (Quiet.one wr)
          have e0 : wr.drew.cell? ⟨blk, h * 2, none⟩ = some (.int .i64 p.cell) := row_cell? (enc := Sector.enc) (s := 2) (k := h) (fun _ => rfl) B2 hp 0 _ rfl
          have e1 : wr.drew.cell? ⟨blk, h * 2 + 1, none⟩ = some (.int .i64 p.chance) := row_cell? (enc := Sector.enc) (s := 2) (k := h) (fun _ => rfl) B2 hp 1 _ rfl
          have f0 : wr.drew.cell? ⟨blk, a * 2, none⟩ = some (.int .i64 q.cell) := row_cell? (enc := Sector.enc) (s := 2) (k := a) (fun _ => rfl) B2 hq 0 _ rfl
          have f1 : wr.drew.cell? ⟨blk, a * 2 + 1, none⟩ = some (.int .i64 q.chance) := row_cell? (enc := Sector.enc) (s := 2) (k := a) (fun _ => rfl) B2 hq 1 _ rfl
          have HPp := Lib.hid hp
          have HQq := Lib.hid hq
          clear bq hp hq
          go_region_held3 (fun w' => w'.cell? ⟨blk, h * 2, none⟩ = some (.int .i64 p.cell) ∧ w'.cell? ⟨blk, h * 2 + 1, none⟩ = some (.int .i64 p.chance) ∧ w'.cell? ⟨blk, a * 2, none⟩ = some (.int .i64 q.cell) ∧ w'.cell? ⟨blk, a * 2 + 1, none⟩ = some (.int .i64 q.chance)) (go_keep)
            (first
              | (refine (hc.at' p q hDp hDq _).mono ?_
                 rintro e w3 ⟨rfl, b3⟩
                 have B3 := B2.next b3
                 have o3 := o2.then_ b3
                 have hp := HPp.out
                 have hq := HQq.out
                 clear e0 e1 f0 f1
                 have e0 : w3.cell? ⟨blk, h * 2, none⟩ = some (.int .i64 p.cell) := row_cell? (enc := Sector.enc) (s := 2) (k := h) (fun _ => rfl) B3 hp 0 _ rfl
                 have e1 : w3.cell? ⟨blk, h * 2 + 1, none⟩ = some (.int .i64 p.chance) := row_cell? (enc := Sector.enc) (s := 2) (k := h) (fun _ => rfl) B3 hp 1 _ rfl
                 have f0 : w3.cell? ⟨blk, a * 2, none⟩ = some (.int .i64 q.cell) := row_cell? (enc := Sector.enc) (s := 2) (k := a) (fun _ => rfl) B3 hq 0 _ rfl
                 have f1 : w3.cell? ⟨blk, a * 2 + 1, none⟩ = some (.int .i64 q.chance) := row_cell? (enc := Sector.enc) (s := 2) (k := a) (fun _ => rfl) B3 hq 1 _ rfl
                 clear b3 hp hq))
          clear B2 o2
          cases hlt2 : ltOf' cf p q
          · have hlt3 : ¬ cf p q < 0 := by simpa [ltOf'] using hlt2
            have hlt6 : (!decide (cf p q < 0)) = true := by rw [decide_eq_false hlt3]; rfl
            have HX := Lib.hid (HF.out hlt2)
            clear hlt2
            go_wp2_with fail
            all_goals first
              | (rename_i hbad; exact absurd hbad (by rw [hlt6]; decide))
              | (go_roundw
                 case rel => exact ⟨i, h, rfl, by go_num, hi, hh1, by omega, H1, Lib.hid (.inr ⟨p, q, HPp.out, HQq.out, HX.out⟩), B3, o3⟩
                 case measure => simp [intOf]; omega)
          · have hlt3 : cf p q < 0 := by simpa [ltOf'] using hlt2
            have hlt6 : (!decide (cf p q < 0)) = false := by rw [decide_eq_true hlt3]; rfl
            have HX := Lib.hid (HT.out hlt2)
            clear hlt2
            go_wp2_with fail
            all_goals first
              | (rename_i hbad; exact absurd hbad (by rw [hlt6]; decide))
              | (go_roundw
                 case rel => exact ⟨h + 1, j, by go_num, rfl, by omega, by omega, hj, Lib.hid (.inr ⟨p, q, by rw [Nat.add_sub_cancel]; exact HPp.out, HQq.out, HX.out⟩), H2, B3, o3⟩
                 case measure => simp [intOf]; omega)
        · obtain rfl : i = j := by omega
          clear hij hlt
          go_wp2_with fail
          go_loopw [13] (fun v wx => ∃ (k : Nat) (ys : List Sector), v = .int .i64 (k : Int) ∧ (a ≤ k ∧ k + 1 ≤ i) ∧ Hid (Rotated xs ys a (a + 1) (k + 1)) ∧ Blk wx blk t (ys.flatMap Sector.enc ++ rest) ∧ Hid (ys.Perm xs) ∧ Only (fun z => z = blk) w wx) (fun v _ => i - (intOf v).toNat)
          case atStart => exact ⟨a, xs, rfl, ⟨Nat.le_refl _, by omega⟩, Lib.hid (rot_none (.inr rfl) ⟨by omega, by omega⟩), hB, Lib.hid (.refl _), ho⟩
          case round =>
            obtain ⟨k, ys, rfl, ⟨hak, hki⟩, HRO, hB, HP, ho⟩ := hrel
            have hyl : ys.length = n := HP.out.length_eq.trans HN.out
            by_cases hk : k + 1 < i
            · have hkk : (k : Int) < (i : Int) - 1 := by omega
              have hki2 : k + 1 < i := hk
              obtain ⟨p, hp⟩ : ∃ p, ys[k]? = some p := ⟨_, List.getElem?_eq_getElem (by omega)⟩
              obtain ⟨q, hq⟩ : ∃ q, ys[k + 1]? = some q := ⟨_, List.getElem?_eq_getElem (by omega)⟩
              have HRN := Lib.hid (rot_up HRO.out hak hp hq)
              have HPM := Lib.hid ((swap_perm hp hq).trans HP.out)
              have hv : ((k : Nat) : Int) + 1 = ((k + 1 : Nat) : Int) := by omega
              obtain ⟨v, hv2⟩ : ∃ v, k + 1 = v := ⟨_, rfl⟩
              have hun : k < n := by omega
              have hvn : v < n := by omega
              have hvk : v = k + 1 := hv2.symm
              rw [hv2] at hv hq HRN HPM
              clear hv2
              have e0 : wr.cell? ⟨blk, k * 2, none⟩ = some (.int .i64 p.cell) := row_cell? (enc := Sector.enc) (s := 2) (k := k) (fun _ => rfl) hB hp 0 _ rfl
              have e1 : wr.cell? ⟨blk, k * 2 + 1, none⟩ = some (.int .i64 p.chance) := row_cell? (enc := Sector.enc) (s := 2) (k := k) (fun _ => rfl) hB hp 1 _ rfl
              have f0 : wr.cell? ⟨blk, v * 2, none⟩ = some (.int .i64 q.cell) := row_cell? (enc := Sector.enc) (s := 2) (k := v) (fun _ => rfl) hB hq 0 _ rfl
              have f1 : wr.cell? ⟨blk, v * 2 + 1, none⟩ = some (.int .i64 q.chance) := row_cell? (enc := Sector.enc) (s := 2) (k := v) (fun _ => rfl) hB hq 1 _ rfl
              have fz0 := hB.frozen (k * 2)
              have fz1 := hB.frozen (k * 2 + 1)
              have fz2 := hB.frozen (v * 2)
              have fz3 := hB.frozen (v * 2 + 1)
              have HYL := Lib.hid hyl
              have HVK := Lib.hid hvk
              clear hp hq hyl hvk
              have hv1 : (v : Int) - 1 = (k : Int) := by omega
              have hui : (k : Int) < (n : Int) := by omega
              have hvi : (v : Int) < (n : Int) := by omega
              have hu0 : (0 : Int) ≤ (k : Int) := by omega
              have hv0 : (0 : Int) ≤ (v : Int) := by omega
              have hwu : IntKind.i64.wrap (k : Int) = (k : Int) := IntWalk.i64_in _ (by omega)
              have hwv : IntKind.i64.wrap (v : Int) = (v : Int) := IntWalk.i64_in _ (by omega)
              go_wp2_with fail
              go_region
              all_goals
                go_wp2_with fail
                go_roundw
                case rel =>
                  clear hwu hwv
                  have hvk := HVK.out
                  have B5 := (Blk.many (Sector.enc q) hB (k * 2)).many (Sector.enc p) (v * 2)
                  rw [row_set (enc := Sector.enc) (s := 2) (fun _ => rfl) _ _ k q (by rw [HYL.out]; omega), row_set (enc := Sector.enc) (s := 2) (fun _ => rfl) _ _ v p (by rw [List.length_set]; rw [HYL.out]; omega)] at B5
                  have O5 := Only.many (S := fun z => z = blk) (g := blk) rfl (Sector.enc p) (Only.many (S := fun z => z = blk) (g := blk) rfl (Sector.enc q) ho (k * 2)) (v * 2)
                  exact ⟨v, _, rfl, ⟨by omega, by omega⟩, Lib.hid (by have := HRN.out; rw [hvk] at this ⊢; exact this), B5.quiet (Quiet.one _), HPM, O5.quiet (Quiet.one _)⟩
                case measure => simp [intOf]; omega
            · obtain rfl : i = k + 1 := by omega
              have hkk : ¬ (k : Int) < ((k + 1 : Nat) : Int) - 1 := by omega
              clear hyl
              go_wp2_with fail
              go_end0
              have hm1 := HM1.out
              subst hm1
              exact ⟨rfl, ys, hB, merged_left HRD.out HP.out HRO.out ⟨by omega, hj⟩ HTR.out H1.out H2.out, ho⟩
    · have hma : (((m : Int) - (a : Int)) == 1) = false := by rw [beq_eq_false_iff_ne]; omega
      by_cases hb1 : b = m + 1
      · have hmb2 : (b : Int) - (m : Int) = 1 := by omega
        have HB1 := Lib.hid hb1
        have hb2 : b ≤ m + 1 := by omega
        clear hb1
        go_enter Try.func118, Try.ntmps118
        go_wp2_with fail
        go_loopw [14, 15] (fun u v wr => ∃ (i j : Nat), u = .int .i64 (i : Int) ∧ v = .int .i64 (j : Int) ∧ a ≤ i ∧ i ≤ j ∧ j ≤ m ∧ Hid (i = a ∨ ∃ x y, xs[i - 1]? = some x ∧ xs[m]? = some y ∧ R x y) ∧ Hid (j = m ∨ ∃ x y, xs[j]? = some x ∧ xs[m]? = some y ∧ R y x) ∧ Blk wr blk t (xs.flatMap Sector.enc ++ rest) ∧ Only (fun z => z = blk) w wr) (fun u v _ => (intOf v).toNat - (intOf u).toNat)
        case atStart => exact ⟨a, m, rfl, rfl, Nat.le_refl _, by omega, Nat.le_refl _, Lib.hid (.inl rfl), Lib.hid (.inl rfl), hB, Only.refl _ _⟩
        case round =>
          obtain ⟨i, j, rfl, rfl, hi, hij, hj, H1, H2, hB, ho⟩ := hrel
          by_cases hlt : i < j
          · obtain ⟨h, hh⟩ : ∃ h : Nat, (i + j) / 2 = h := ⟨_, rfl⟩
            have hh1 : i ≤ h := by omega
            have hh2 : h < j := by omega
            have hhi : ((i : Int) + (j : Int)) / 2 = (h : Int) := by omega
            have hhn : h < n := by omega
            have hhn2 : (h : Int) < (n : Int) := by omega
            have hh0 : (0 : Int) ≤ (h : Int) := by omega
            clear hh
            obtain ⟨p, hp⟩ : ∃ p, xs[m]? = some p := ⟨_, List.getElem?_eq_getElem (by rw [HN.out]; omega)⟩
            obtain ⟨q, hq⟩ : ∃ q, xs[h]? = some q := ⟨_, List.getElem?_eq_getElem (by rw [HN.out]; omega)⟩
            have hDp := HD.out p (List.mem_of_getElem? hp)
            have hDq := HD.out q (List.mem_of_getElem? hq)
            have hC := HRC.out q p (HRD.out.cross h m q p (by omega) (by omega) (Nat.le_refl _) h2 hq hp)
            have HT := Lib.hid hC.1
            have HF := Lib.hid hC.2
            clear hC
            have hmn : (m : Int) < (n : Int) := by omega
            have hm0 : (0 : Int) ≤ (m : Int) := by omega
            go_wp2_with fail
            have bq := (Quiet.one wr).below wr.heap.size
            have B2 := hB.next bq
            have o2 := ho.quiet (Quiet.one wr)
            have e0 : wr.drew.cell? ⟨blk, m * 2, none⟩ = some (.int .i64 p.cell) := row_cell? (enc := Sector.enc) (s := 2) (k := m) (fun _ => rfl) B2 hp 0 _ rfl
            have e1 : wr.drew.cell? ⟨blk, m * 2 + 1, none⟩ = some (.int .i64 p.chance) := row_cell? (enc := Sector.enc) (s := 2) (k := m) (fun _ => rfl) B2 hp 1 _ rfl
            have f0 : wr.drew.cell? ⟨blk, h * 2, none⟩ = some (.int .i64 q.cell) := row_cell? (enc := Sector.enc) (s := 2) (k := h) (fun _ => rfl) B2 hq 0 _ rfl
            have f1 : wr.drew.cell? ⟨blk, h * 2 + 1, none⟩ = some (.int .i64 q.chance) := row_cell? (enc := Sector.enc) (s := 2) (k := h) (fun _ => rfl) B2 hq 1 _ rfl
            have HPp := Lib.hid hp
            have HQq := Lib.hid hq
            clear bq hp hq
            go_region_held3 (fun w' => w'.cell? ⟨blk, m * 2, none⟩ = some (.int .i64 p.cell) ∧ w'.cell? ⟨blk, m * 2 + 1, none⟩ = some (.int .i64 p.chance) ∧ w'.cell? ⟨blk, h * 2, none⟩ = some (.int .i64 q.cell) ∧ w'.cell? ⟨blk, h * 2 + 1, none⟩ = some (.int .i64 q.chance)) (go_keep)
              (first
                | (refine (hc.at' p q hDp hDq _).mono ?_
                   rintro e w3 ⟨rfl, b3⟩
                   have B3 := B2.next b3
                   have o3 := o2.then_ b3
                   have hp := HPp.out
                   have hq := HQq.out
                   clear e0 e1 f0 f1
                   have e0 : w3.cell? ⟨blk, m * 2, none⟩ = some (.int .i64 p.cell) := row_cell? (enc := Sector.enc) (s := 2) (k := m) (fun _ => rfl) B3 hp 0 _ rfl
                   have e1 : w3.cell? ⟨blk, m * 2 + 1, none⟩ = some (.int .i64 p.chance) := row_cell? (enc := Sector.enc) (s := 2) (k := m) (fun _ => rfl) B3 hp 1 _ rfl
                   have f0 : w3.cell? ⟨blk, h * 2, none⟩ = some (.int .i64 q.cell) := row_cell? (enc := Sector.enc) (s := 2) (k := h) (fun _ => rfl) B3 hq 0 _ rfl
                   have f1 : w3.cell? ⟨blk, h * 2 + 1, none⟩ = some (.int .i64 q.chance) := row_cell? (enc := Sector.enc) (s := 2) (k := h) (fun _ => rfl) B3 hq 1 _ rfl
                   clear b3 hp hq))
            clear B2 o2
            cases hlt2 : ltOf' cf p q
            · have hlt3 : ¬ cf p q < 0 := by simpa [ltOf'] using hlt2
              have hlt6 : (!decide (cf p q < 0)) = true := by rw [decide_eq_false hlt3]; rfl
              have HX := Lib.hid (HF.out hlt2)
              clear hlt2
              go_wp2_with fail
              all_goals first
                | (rename_i hbad; exact absurd hbad (by rw [hlt6]; decide))
                | (go_roundw
                   case rel => exact ⟨h + 1, j, by go_num, rfl, by omega, by omega, hj, Lib.hid (.inr ⟨q, p, by rw [Nat.add_sub_cancel]; exact HQq.out, HPp.out, HX.out⟩), H2, B3, o3⟩
                   case measure => simp [intOf]; omega)
            · have hlt3 : cf p q < 0 := by simpa [ltOf'] using hlt2
              have hlt6 : (!decide (cf p q < 0)) = false := by rw [decide_eq_true hlt3]; rfl
              have HX := Lib.hid (HT.out hlt2)
              clear hlt2
              go_wp2_with fail
              all_goals first
                | (rename_i hbad; exact absurd hbad (by rw [hlt6]; decide))
                | (go_roundw
                   case rel => exact ⟨i, h, rfl, by go_num, hi, hh1, by omega, H1, Lib.hid (.inr ⟨q, p, HQq.out, HPp.out, HX.out⟩), B3, o3⟩
                   case measure => simp [intOf]; omega)
          · obtain rfl : i = j := by omega
            clear hij hlt
            go_wp2_with fail
            go_loopw [17] (fun v wx => ∃ (k : Nat) (ys : List Sector), v = .int .i64 (k : Int) ∧ (i ≤ k ∧ k ≤ m) ∧ Hid (Rotated xs ys k m (m + 1)) ∧ Blk wx blk t (ys.flatMap Sector.enc ++ rest) ∧ Hid (ys.Perm xs) ∧ Only (fun z => z = blk) w wx) (fun v _ => (intOf v).toNat - i)
            case atStart => exact ⟨m, xs, rfl, ⟨hj, Nat.le_refl _⟩, Lib.hid (rot_none (.inl rfl) ⟨Nat.le_refl _, by omega⟩), hB, Lib.hid (.refl _), ho⟩
            case round =>
              obtain ⟨k, ys, rfl, ⟨hik, hkm⟩, HRO, hB, HP, ho⟩ := hrel
              have hyl : ys.length = n := HP.out.length_eq.trans HN.out
              by_cases hk : i < k
              · obtain ⟨e, rfl⟩ : ∃ e, k = e + 1 := ⟨k - 1, by omega⟩
                have hki2 : i < e + 1 := hk
                obtain ⟨p, hp⟩ : ∃ p, ys[e]? = some p := ⟨_, List.getElem?_eq_getElem (by omega)⟩
                obtain ⟨q, hq⟩ : ∃ q, ys[e + 1]? = some q := ⟨_, List.getElem?_eq_getElem (by omega)⟩
                have HRN := Lib.hid (rot_down HRO.out (by omega) hp hq)
                have HPM := Lib.hid ((swap_perm hq hp).trans HP.out)
                have hv : ((e : Nat) : Int) + 1 = ((e + 1 : Nat) : Int) := by omega
                obtain ⟨v, hv2⟩ : ∃ v, e + 1 = v := ⟨_, rfl⟩
                have hun : e < n := by omega
                have hvn : v < n := by omega
                have hvk : v = e + 1 := hv2.symm
                rw [hv2] at hv hq HRN HPM
                clear hv2
                have e0 : wr.cell? ⟨blk, e * 2, none⟩ = some (.int .i64 p.cell) := row_cell? (enc := Sector.enc) (s := 2) (k := e) (fun _ => rfl) hB hp 0 _ rfl
                have e1 : wr.cell? ⟨blk, e * 2 + 1, none⟩ = some (.int .i64 p.chance) := row_cell? (enc := Sector.enc) (s := 2) (k := e) (fun _ => rfl) hB hp 1 _ rfl
                have f0 : wr.cell? ⟨blk, v * 2, none⟩ = some (.int .i64 q.cell) := row_cell? (enc := Sector.enc) (s := 2) (k := v) (fun _ => rfl) hB hq 0 _ rfl
                have f1 : wr.cell? ⟨blk, v * 2 + 1, none⟩ = some (.int .i64 q.chance) := row_cell? (enc := Sector.enc) (s := 2) (k := v) (fun _ => rfl) hB hq 1 _ rfl
                have fz0 := hB.frozen (e * 2)
                have fz1 := hB.frozen (e * 2 + 1)
                have fz2 := hB.frozen (v * 2)
                have fz3 := hB.frozen (v * 2 + 1)
                have HYL := Lib.hid hyl
                have HVK := Lib.hid hvk
                clear hp hq hyl hvk
                have hv1 : (v : Int) - 1 = (e : Int) := by omega
                have hui : (e : Int) < (n : Int) := by omega
                have hvi : (v : Int) < (n : Int) := by omega
                have hu0 : (0 : Int) ≤ (e : Int) := by omega
                have hv0 : (0 : Int) ≤ (v : Int) := by omega
                have hwu : IntKind.i64.wrap (e : Int) = (e : Int) := IntWalk.i64_in _ (by omega)
                have hwv : IntKind.i64.wrap (v : Int) = (v : Int) := IntWalk.i64_in _ (by omega)
                go_wp2_with fail
                go_region
                all_goals
                  go_wp2_with fail
                  go_roundw
                  case rel =>
                    clear hwu hwv
                    have hvk := HVK.out
                    have B5 := (Blk.many (Sector.enc p) hB (v * 2)).many (Sector.enc q) (e * 2)
                    rw [row_set (enc := Sector.enc) (s := 2) (fun _ => rfl) _ _ v p (by rw [HYL.out]; omega), row_set (enc := Sector.enc) (s := 2) (fun _ => rfl) _ _ e q (by rw [List.length_set]; rw [HYL.out]; omega)] at B5
                    have O5 := Only.many (S := fun z => z = blk) (g := blk) rfl (Sector.enc q) (Only.many (S := fun z => z = blk) (g := blk) rfl (Sector.enc p) ho (v * 2)) (e * 2)
                    exact ⟨e, _, rfl, ⟨by omega, by omega⟩, HRN, B5.quiet (Quiet.one _), HPM, O5.quiet (Quiet.one _)⟩
                  case measure => simp [intOf]; omega
              · obtain rfl : k = i := by omega
                clear hyl
                go_wp2_with fail
                go_end0
                have hb1 := HB1.out
                subst hb1
                exact ⟨rfl, ys, hB, merged_right HRD.out HP.out HRO.out ⟨hi, hj⟩ HTR.out H1.out H2.out, ho⟩
      · have hmb : (((b : Int) - (m : Int)) == 1) = false := by rw [beq_eq_false_iff_ne]; omega
        obtain ⟨md, hmd⟩ : ∃ md, (a + b) / 2 = md := ⟨_, rfl⟩
        have hmdi : ((a : Int) + (b : Int)) / 2 = (md : Int) := by omega
        have hmd1 : a < md := by omega
        have hmd2 : md < b := by omega
        have hmd3 : a + b ≤ 2 * md + 1 := by omega
        have hmd4 : 2 * md ≤ a + b := by omega
        clear hmd
        by_cases hgt : md < m
        · go_enter Try.func118, Try.ntmps118
          obtain ⟨s0, hs0⟩ : ∃ s0, md + m - b = s0 := ⟨_, rfl⟩
          have hs0i : (md : Int) + (m : Int) - (b : Int) = (s0 : Int) := by omega
          obtain ⟨r0, hr0⟩ : ∃ r0, md = r0 := ⟨_, rfl⟩
          have hk1 : a ≤ s0 := by omega
          have hk2 : r0 ≤ m := by omega
          have hk3 : r0 ≤ md := by omega
          have hk4 : md + m ≤ b + s0 := by omega
          have hk5 : s0 ≤ r0 := by omega
          have HB0 : Hid (s0 = a ∨ md + m - s0 = b) := Lib.hid (.inr (by omega))
          have HB1 : Hid (r0 = m ∨ md + m - r0 = m) := Lib.hid (.inr (by omega))
          have hri : (md : Int) = (r0 : Int) := by omega
          have hgt1 : (md : Int) < (m : Int) := by omega
          have HRI := Lib.hid hr0
          clear hs0 hri hr0
          go_wp2_with fail
          go_loopw [20, 21] (fun u v wr => ∃ (i j : Nat), u = .int .i64 (i : Int) ∧ v = .int .i64 (j : Int) ∧ s0 ≤ i ∧ i ≤ j ∧ j ≤ r0 ∧ Hid (i = s0 ∨ ∃ x y, a < i ∧ xs[i - 1]? = some x ∧ xs[md + m - i]? = some y ∧ R x y) ∧ Hid (j = r0 ∨ ∃ x y, xs[j]? = some x ∧ xs[md + m - 1 - j]? = some y ∧ R y x) ∧ Blk wr blk t (xs.flatMap Sector.enc ++ rest) ∧ Only (fun z => z = blk) w wr) (fun u v _ => (intOf v).toNat - (intOf u).toNat)
          case atStart => exact ⟨s0, r0, rfl, by rw [HRI.out], Nat.le_refl _, by omega, Nat.le_refl _, Lib.hid (.inl rfl), Lib.hid (.inl rfl), hB, Only.refl _ _⟩
          case round =>
            obtain ⟨i, j, rfl, rfl, hi, hij, hj, H1, H2, hB, ho⟩ := hrel
            by_cases hlt : i < j
            · obtain ⟨h, hh⟩ : ∃ h : Nat, (i + j) / 2 = h := ⟨_, rfl⟩
              have hh1 : i ≤ h := by omega
              have hh2 : h < j := by omega
              have hhi : ((i : Int) + (j : Int)) / 2 = (h : Int) := by omega
              have hhn : h < n := by omega
              have hhn2 : (h : Int) < (n : Int) := by omega
              have hh0 : (0 : Int) ≤ (h : Int) := by omega
              clear hh
              obtain ⟨ph, hph⟩ : ∃ ph, md + m - 1 - h = ph := ⟨_, rfl⟩
              have hphi : (md : Int) + (m : Int) - 1 - (h : Int) = (ph : Int) := by omega
              have hp1 : m ≤ ph := by omega
              have hp2 : ph < b := by omega
              obtain ⟨p, hp⟩ : ∃ p, xs[ph]? = some p := ⟨_, List.getElem?_eq_getElem (by rw [HN.out]; omega)⟩
              obtain ⟨q, hq⟩ : ∃ q, xs[h]? = some q := ⟨_, List.getElem?_eq_getElem (by rw [HN.out]; omega)⟩
              have hDp := HD.out p (List.mem_of_getElem? hp)
              have hDq := HD.out q (List.mem_of_getElem? hq)
              have HPH := Lib.hid hph
              clear hph
              have hC := HRC.out q p (HRD.out.cross h ph q p (by omega) (by omega) (by omega) (by omega) hq hp)
              have HT := Lib.hid hC.1
              have HF := Lib.hid hC.2
              clear hC
              have hmn : (ph : Int) < (n : Int) := by omega
              have hm0 : (0 : Int) ≤ (ph : Int) := by omega
              have hwp : IntKind.i64.wrap (ph : Int) = (ph : Int) := IntWalk.i64_in _ (by omega)
              go_wp2_with fail
              have bq := (Quiet.one wr).below wr.heap.size
              have B2 := hB.next bq
              have o2 := ho.quiet (Quiet.one wr)
              have e0 : wr.drew.cell? ⟨blk, ph * 2, none⟩ = some (.int .i64 p.cell) := row_cell? (enc := Sector.enc) (s := 2) (k := ph) (fun _ => rfl) B2 hp 0 _ rfl
              have e1 : wr.drew.cell? ⟨blk, ph * 2 + 1, none⟩ = some (.int .i64 p.chance) := row_cell? (enc := Sector.enc) (s := 2) (k := ph) (fun _ => rfl) B2 hp 1 _ rfl
              have f0 : wr.drew.cell? ⟨blk, h * 2, none⟩ = some (.int .i64 q.cell) := row_cell? (enc := Sector.enc) (s := 2) (k := h) (fun _ => rfl) B2 hq 0 _ rfl
              have f1 : wr.drew.cell? ⟨blk, h * 2 + 1, none⟩ = some (.int .i64 q.chance) := row_cell? (enc := Sector.enc) (s := 2) (k := h) (fun _ => rfl) B2 hq 1 _ rfl
              have HPp := Lib.hid hp
              have HQq := Lib.hid hq
              clear bq hp hq
              go_region_held3 (fun w' => w'.cell? ⟨blk, ph * 2, none⟩ = some (.int .i64 p.cell) ∧ w'.cell? ⟨blk, ph * 2 + 1, none⟩ = some (.int .i64 p.chance) ∧ w'.cell? ⟨blk, h * 2, none⟩ = some (.int .i64 q.cell) ∧ w'.cell? ⟨blk, h * 2 + 1, none⟩ = some (.int .i64 q.chance)) (go_keep)
                (first
                  | (refine (hc.at' p q hDp hDq _).mono ?_
                     rintro e w3 ⟨rfl, b3⟩
                     have B3 := B2.next b3
                     have o3 := o2.then_ b3
                     have hp := HPp.out
                     have hq := HQq.out
                     clear e0 e1 f0 f1
                     have e0 : w3.cell? ⟨blk, ph * 2, none⟩ = some (.int .i64 p.cell) := row_cell? (enc := Sector.enc) (s := 2) (k := ph) (fun _ => rfl) B3 hp 0 _ rfl
                     have e1 : w3.cell? ⟨blk, ph * 2 + 1, none⟩ = some (.int .i64 p.chance) := row_cell? (enc := Sector.enc) (s := 2) (k := ph) (fun _ => rfl) B3 hp 1 _ rfl
                     have f0 : w3.cell? ⟨blk, h * 2, none⟩ = some (.int .i64 q.cell) := row_cell? (enc := Sector.enc) (s := 2) (k := h) (fun _ => rfl) B3 hq 0 _ rfl
                     have f1 : w3.cell? ⟨blk, h * 2 + 1, none⟩ = some (.int .i64 q.chance) := row_cell? (enc := Sector.enc) (s := 2) (k := h) (fun _ => rfl) B3 hq 1 _ rfl
                     clear b3 hp hq))
              clear B2 o2
              clear hwp
              cases hlt2 : ltOf' cf p q
              · have hlt3 : ¬ cf p q < 0 := by simpa [ltOf'] using hlt2
                have hlt6 : (!decide (cf p q < 0)) = true := by rw [decide_eq_false hlt3]; rfl
                have HX := Lib.hid (HF.out hlt2)
                clear hlt2
                go_wp2_with fail
                all_goals first
                  | (rename_i hbad; exact absurd hbad (by rw [hlt6]; decide))
                  | (go_roundw
                     case rel => exact ⟨h + 1, j, by go_num, rfl, by omega, by omega, hj, Lib.hid (.inr ⟨q, p, by omega, by rw [Nat.add_sub_cancel]; exact HQq.out, by rw [show md + m - (h + 1) = md + m - 1 - h by omega, HPH.out]; exact HPp.out, HX.out⟩), H2, B3, o3⟩
                     case measure => simp [intOf]; omega)
              · have hlt3 : cf p q < 0 := by simpa [ltOf'] using hlt2
                have hlt6 : (!decide (cf p q < 0)) = false := by rw [decide_eq_true hlt3]; rfl
                have HX := Lib.hid (HT.out hlt2)
                clear hlt2
                go_wp2_with fail
                all_goals first
                  | (rename_i hbad; exact absurd hbad (by rw [hlt6]; decide))
                  | (go_roundw
                     case rel => exact ⟨i, h, rfl, by go_num, hi, hh1, by omega, H1, Lib.hid (.inr ⟨q, p, HQq.out, by rw [HPH.out]; exact HPp.out, HX.out⟩), B3, o3⟩
                     case measure => simp [intOf]; omega)
            · obtain rfl : i = j := by omega
              clear hlt
              obtain ⟨tt, htt⟩ : ∃ tt, md + m - i = tt := ⟨_, rfl⟩
              have htti : (md : Int) + (m : Int) - (i : Int) = (tt : Int) := by omega
              have hst : i + tt = md + m := by omega
              have hbb : a ≤ i ∧ i ≤ m ∧ m ≤ tt ∧ tt ≤ b := by omega
              have HE1 : Hid (i = a ∨ tt = b ∨ ∃ x y, a < i ∧ xs[i - 1]? = some x ∧ xs[tt]? = some y ∧ R x y) := Lib.hid (by
                rcases H1.out with e | ⟨x, y, e1, e2, e3, e4⟩
                · rcases HB0.out with e5 | e5
                  · exact .inl (by omega)
                  · exact .inr (.inl (by omega))
                · exact .inr (.inr ⟨x, y, e1, e2, by rw [← htt]; exact e3, e4⟩))
              have HE2 : Hid (i = m ∨ tt = m ∨ ∃ x y, xs[i]? = some x ∧ xs[tt - 1]? = some y ∧ R y x) := Lib.hid (by
                rcases H2.out with e | ⟨x, y, e2, e3, e4⟩
                · rcases HB1.out with e5 | e5
                  · exact .inl (by omega)
                  · exact .inr (.inl (by omega))
                · exact .inr (.inr ⟨x, y, e2, by rw [← e3]; congr 1; omega, e4⟩))
              clear htt H1 H2 hij
              by_cases hr1 : i < m
              · by_cases hr2 : m < tt
                · have hr3 : (i : Int) < (m : Int) := by omega
                  have hr4 : (m : Int) < (tt : Int) := by omega
                  go_wp2_with fail
                  refine (rotate_Sector g lb blk c n t xs rest i m tt wr hB HN.out hn2 hr1 hr2 (by omega)).mono ?_
                  rintro e w7 ⟨rfl, zs, B7, ⟨hrz, hpz⟩, o7⟩
                  have HRZ := Lib.hid hrz
                  have HPZ := Lib.hid hpz
                  have o77 := ho.trans o7
                  clear hrz hpz
                  obtain ⟨R1, R2, hcr⟩ := ready_rot HRD.out HRZ.out hbb hst HTR.out HE1.out HE2.out
                  have HR1 := Lib.hid R1
                  have HR2 := Lib.hid R2
                  have HCR := Lib.hid hcr
                  clear R1 R2 hcr
                  by_cases hq1 : a < i
                  · by_cases hq2 : i < md
                    · have hg1 : (a : Int) < (i : Int) := by omega
                      have hg2 : (i : Int) < (md : Int) := by omega
                      go_wp2_with fail
                      refine (IH.out a i md zs w7 (by omega) B7 (HPZ.out.length_eq.trans HN.out) (by omega) (by omega) (by omega) HR1.out (fun x hx => HD.out x (HPZ.out.mem_iff.1 hx))).mono ?_
                      rintro e w8 ⟨rfl, us, B8, M8, o8⟩
                      have HR3 := Lib.hid (HR2.out.same ⟨by omega, by omega⟩ (fun k c1 _ => M8.out k (by omega)))
                      have o88 := o77.trans o8
                      by_cases hq3 : md < tt
                      · by_cases hq4 : tt < b
                        · have hg3 : (md : Int) < (tt : Int) := by omega
                          have hg4 : (tt : Int) < (b : Int) := by omega
                          go_wp2_with fail
                          refine (IH.out md tt b us w8 (by omega) B8 ((M8.perm.trans HPZ.out).length_eq.trans HN.out) (by omega) (by omega) h3 HR3.out (fun x hx => HD.out x ((M8.perm.trans HPZ.out).mem_iff.1 hx))).mono ?_
                          rintro e w9 ⟨rfl, vs, B9, M9, o9⟩
                          go_wp2_with fail
                          go_end0
                          exact ⟨rfl, vs, B9, merged_two HPZ.out HRZ.out hbb hst M8 M9 HCR.out, o88.trans o9⟩
                        · have hg : md = tt ∨ tt = b := .inr (by omega)
                          have hg3 : (md : Int) < (tt : Int) := by omega
                          have hg4 : ¬ (tt : Int) < (b : Int) := by omega
                          go_wp2_with fail
                          go_end0
                          exact ⟨rfl, us, B8, merged_two HPZ.out HRZ.out hbb hst M8 (merged_none (hg.elim (fun e => HR3.out.empty_left e) (fun e => HR3.out.empty_right e))) HCR.out, o88⟩
                      · have hg : md = tt ∨ tt = b := .inl (by omega)
                        have hg3 : ¬ (md : Int) < (tt : Int) := by omega
                        go_wp2_with fail
                        go_end0
                        exact ⟨rfl, us, B8, merged_two HPZ.out HRZ.out hbb hst M8 (merged_none (hg.elim (fun e => HR3.out.empty_left e) (fun e => HR3.out.empty_right e))) HCR.out, o88⟩
                    · have hg1 : (a : Int) < (i : Int) := by omega
                      have hg2 : ¬ (i : Int) < (md : Int) := by omega
                      have hg9 : a = i ∨ i = md := .inr (by omega)
                      have M8 := merged_none (R := R) (hg9.elim (fun e => HR1.out.empty_left e) (fun e => HR1.out.empty_right e))
                      have HR3 := HR2
                      by_cases hq3 : md < tt
                      · by_cases hq4 : tt < b
                        · have hg3 : (md : Int) < (tt : Int) := by omega
                          have hg4 : (tt : Int) < (b : Int) := by omega
                          go_wp2_with fail
                          refine (IH.out md tt b zs w7 (by omega) B7 (HPZ.out.length_eq.trans HN.out) (by omega) (by omega) h3 HR3.out (fun x hx => HD.out x (HPZ.out.mem_iff.1 hx))).mono ?_
                          rintro e w9 ⟨rfl, vs, B9, M9, o9⟩
                          go_wp2_with fail
                          go_end0
                          exact ⟨rfl, vs, B9, merged_two HPZ.out HRZ.out hbb hst M8 M9 HCR.out, o77.trans o9⟩
                        · have hg : md = tt ∨ tt = b := .inr (by omega)
                          have hg3 : (md : Int) < (tt : Int) := by omega
                          have hg4 : ¬ (tt : Int) < (b : Int) := by omega
                          go_wp2_with fail
                          go_end0
                          exact ⟨rfl, zs, B7, merged_two HPZ.out HRZ.out hbb hst M8 (merged_none (hg.elim (fun e => HR3.out.empty_left e) (fun e => HR3.out.empty_right e))) HCR.out, o77⟩
                      · have hg : md = tt ∨ tt = b := .inl (by omega)
                        have hg3 : ¬ (md : Int) < (tt : Int) := by omega
                        go_wp2_with fail
                        go_end0
                        exact ⟨rfl, zs, B7, merged_two HPZ.out HRZ.out hbb hst M8 (merged_none (hg.elim (fun e => HR3.out.empty_left e) (fun e => HR3.out.empty_right e))) HCR.out, o77⟩
                  · have hg1 : ¬ (a : Int) < (i : Int) := by omega
                    have hg9 : a = i ∨ i = md := .inl (by omega)
                    have M8 := merged_none (R := R) (hg9.elim (fun e => HR1.out.empty_left e) (fun e => HR1.out.empty_right e))
                    have HR3 := HR2
                    by_cases hq3 : md < tt
                    · by_cases hq4 : tt < b
                      · have hg3 : (md : Int) < (tt : Int) := by omega
                        have hg4 : (tt : Int) < (b : Int) := by omega
                        go_wp2_with fail
                        refine (IH.out md tt b zs w7 (by omega) B7 (HPZ.out.length_eq.trans HN.out) (by omega) (by omega) h3 HR3.out (fun x hx => HD.out x (HPZ.out.mem_iff.1 hx))).mono ?_
                        rintro e w9 ⟨rfl, vs, B9, M9, o9⟩
                        go_wp2_with fail
                        go_end0
                        exact ⟨rfl, vs, B9, merged_two HPZ.out HRZ.out hbb hst M8 M9 HCR.out, o77.trans o9⟩
                      · have hg : md = tt ∨ tt = b := .inr (by omega)
                        have hg3 : (md : Int) < (tt : Int) := by omega
                        have hg4 : ¬ (tt : Int) < (b : Int) := by omega
                        go_wp2_with fail
                        go_end0
                        exact ⟨rfl, zs, B7, merged_two HPZ.out HRZ.out hbb hst M8 (merged_none (hg.elim (fun e => HR3.out.empty_left e) (fun e => HR3.out.empty_right e))) HCR.out, o77⟩
                    · have hg : md = tt ∨ tt = b := .inl (by omega)
                      have hg3 : ¬ (md : Int) < (tt : Int) := by omega
                      go_wp2_with fail
                      go_end0
                      exact ⟨rfl, zs, B7, merged_two HPZ.out HRZ.out hbb hst M8 (merged_none (hg.elim (fun e => HR3.out.empty_left e) (fun e => HR3.out.empty_right e))) HCR.out, o77⟩
                · have hr3 : (i : Int) < (m : Int) := by omega
                  have hr4 : ¬ (m : Int) < (tt : Int) := by omega
                  have HRZ := Lib.hid (rot_none (d := xs) (a := i) (m := m) (b := tt) (.inr (by omega)) ⟨by omega, by omega⟩)
                  have HPZ := Lib.hid (List.Perm.refl xs)
                  obtain ⟨R1, R2, hcr⟩ := ready_rot HRD.out HRZ.out hbb hst HTR.out HE1.out HE2.out
                  have HR1 := Lib.hid R1
                  have HR2 := Lib.hid R2
                  have HCR := Lib.hid hcr
                  clear R1 R2 hcr
                  by_cases hq1 : a < i
                  · by_cases hq2 : i < md
                    · have hg1 : (a : Int) < (i : Int) := by omega
                      have hg2 : (i : Int) < (md : Int) := by omega
                      go_wp2_with fail
                      refine (IH.out a i md xs wr (by omega) hB (HPZ.out.length_eq.trans HN.out) (by omega) (by omega) (by omega) HR1.out (fun x hx => HD.out x (HPZ.out.mem_iff.1 hx))).mono ?_
                      rintro e w8 ⟨rfl, us, B8, M8, o8⟩
                      have HR3 := Lib.hid (HR2.out.same ⟨by omega, by omega⟩ (fun k c1 _ => M8.out k (by omega)))
                      have o88 := ho.trans o8
                      by_cases hq3 : md < tt
                      · by_cases hq4 : tt < b
                        · have hg3 : (md : Int) < (tt : Int) := by omega
                          have hg4 : (tt : Int) < (b : Int) := by omega
                          go_wp2_with fail
                          refine (IH.out md tt b us w8 (by omega) B8 ((M8.perm.trans HPZ.out).length_eq.trans HN.out) (by omega) (by omega) h3 HR3.out (fun x hx => HD.out x ((M8.perm.trans HPZ.out).mem_iff.1 hx))).mono ?_
                          rintro e w9 ⟨rfl, vs, B9, M9, o9⟩
                          go_wp2_with fail
                          go_end0
                          exact ⟨rfl, vs, B9, merged_two HPZ.out HRZ.out hbb hst M8 M9 HCR.out, o88.trans o9⟩
                        · have hg : md = tt ∨ tt = b := .inr (by omega)
                          have hg3 : (md : Int) < (tt : Int) := by omega
                          have hg4 : ¬ (tt : Int) < (b : Int) := by omega
                          go_wp2_with fail
                          go_end0
                          exact ⟨rfl, us, B8, merged_two HPZ.out HRZ.out hbb hst M8 (merged_none (hg.elim (fun e => HR3.out.empty_left e) (fun e => HR3.out.empty_right e))) HCR.out, o88⟩
                      · have hg : md = tt ∨ tt = b := .inl (by omega)
                        have hg3 : ¬ (md : Int) < (tt : Int) := by omega
                        go_wp2_with fail
                        go_end0
                        exact ⟨rfl, us, B8, merged_two HPZ.out HRZ.out hbb hst M8 (merged_none (hg.elim (fun e => HR3.out.empty_left e) (fun e => HR3.out.empty_right e))) HCR.out, o88⟩
                    · have hg1 : (a : Int) < (i : Int) := by omega
                      have hg2 : ¬ (i : Int) < (md : Int) := by omega
                      have hg9 : a = i ∨ i = md := .inr (by omega)
                      have M8 := merged_none (R := R) (hg9.elim (fun e => HR1.out.empty_left e) (fun e => HR1.out.empty_right e))
                      have HR3 := HR2
                      by_cases hq3 : md < tt
                      · by_cases hq4 : tt < b
                        · have hg3 : (md : Int) < (tt : Int) := by omega
                          have hg4 : (tt : Int) < (b : Int) := by omega
                          go_wp2_with fail
                          refine (IH.out md tt b xs wr (by omega) hB (HPZ.out.length_eq.trans HN.out) (by omega) (by omega) h3 HR3.out (fun x hx => HD.out x (HPZ.out.mem_iff.1 hx))).mono ?_
                          rintro e w9 ⟨rfl, vs, B9, M9, o9⟩
                          go_wp2_with fail
                          go_end0
                          exact ⟨rfl, vs, B9, merged_two HPZ.out HRZ.out hbb hst M8 M9 HCR.out, ho.trans o9⟩
                        · have hg : md = tt ∨ tt = b := .inr (by omega)
                          have hg3 : (md : Int) < (tt : Int) := by omega
                          have hg4 : ¬ (tt : Int) < (b : Int) := by omega
                          go_wp2_with fail
                          go_end0
                          exact ⟨rfl, xs, hB, merged_two HPZ.out HRZ.out hbb hst M8 (merged_none (hg.elim (fun e => HR3.out.empty_left e) (fun e => HR3.out.empty_right e))) HCR.out, ho⟩
                      · have hg : md = tt ∨ tt = b := .inl (by omega)
                        have hg3 : ¬ (md : Int) < (tt : Int) := by omega
                        go_wp2_with fail
                        go_end0
                        exact ⟨rfl, xs, hB, merged_two HPZ.out HRZ.out hbb hst M8 (merged_none (hg.elim (fun e => HR3.out.empty_left e) (fun e => HR3.out.empty_right e))) HCR.out, ho⟩
                  · have hg1 : ¬ (a : Int) < (i : Int) := by omega
                    have hg9 : a = i ∨ i = md := .inl (by omega)
                    have M8 := merged_none (R := R) (hg9.elim (fun e => HR1.out.empty_left e) (fun e => HR1.out.empty_right e))
                    have HR3 := HR2
                    by_cases hq3 : md < tt
                    · by_cases hq4 : tt < b
                      · have hg3 : (md : Int) < (tt : Int) := by omega
                        have hg4 : (tt : Int) < (b : Int) := by omega
                        go_wp2_with fail
                        refine (IH.out md tt b xs wr (by omega) hB (HPZ.out.length_eq.trans HN.out) (by omega) (by omega) h3 HR3.out (fun x hx => HD.out x (HPZ.out.mem_iff.1 hx))).mono ?_
                        rintro e w9 ⟨rfl, vs, B9, M9, o9⟩
                        go_wp2_with fail
                        go_end0
                        exact ⟨rfl, vs, B9, merged_two HPZ.out HRZ.out hbb hst M8 M9 HCR.out, ho.trans o9⟩
                      · have hg : md = tt ∨ tt = b := .inr (by omega)
                        have hg3 : (md : Int) < (tt : Int) := by omega
                        have hg4 : ¬ (tt : Int) < (b : Int) := by omega
                        go_wp2_with fail
                        go_end0
                        exact ⟨rfl, xs, hB, merged_two HPZ.out HRZ.out hbb hst M8 (merged_none (hg.elim (fun e => HR3.out.empty_left e) (fun e => HR3.out.empty_right e))) HCR.out, ho⟩
                    · have hg : md = tt ∨ tt = b := .inl (by omega)
                      have hg3 : ¬ (md : Int) < (tt : Int) := by omega
                      go_wp2_with fail
                      go_end0
                      exact ⟨rfl, xs, hB, merged_two HPZ.out HRZ.out hbb hst M8 (merged_none (hg.elim (fun e => HR3.out.empty_left e) (fun e => HR3.out.empty_right e))) HCR.out, ho⟩
              · have hr3 : ¬ (i : Int) < (m : Int) := by omega
                have HRZ := Lib.hid (rot_none (d := xs) (a := i) (m := m) (b := tt) (.inl (by omega)) ⟨by omega, by omega⟩)
                have HPZ := Lib.hid (List.Perm.refl xs)
                obtain ⟨R1, R2, hcr⟩ := ready_rot HRD.out HRZ.out hbb hst HTR.out HE1.out HE2.out
                have HR1 := Lib.hid R1
                have HR2 := Lib.hid R2
                have HCR := Lib.hid hcr
                clear R1 R2 hcr
                by_cases hq1 : a < i
                · by_cases hq2 : i < md
                  · have hg1 : (a : Int) < (i : Int) := by omega
                    have hg2 : (i : Int) < (md : Int) := by omega
                    go_wp2_with fail
                    refine (IH.out a i md xs wr (by omega) hB (HPZ.out.length_eq.trans HN.out) (by omega) (by omega) (by omega) HR1.out (fun x hx => HD.out x (HPZ.out.mem_iff.1 hx))).mono ?_
                    rintro e w8 ⟨rfl, us, B8, M8, o8⟩
                    have HR3 := Lib.hid (HR2.out.same ⟨by omega, by omega⟩ (fun k c1 _ => M8.out k (by omega)))
                    have o88 := ho.trans o8
                    by_cases hq3 : md < tt
                    · by_cases hq4 : tt < b
                      · have hg3 : (md : Int) < (tt : Int) := by omega
                        have hg4 : (tt : Int) < (b : Int) := by omega
                        go_wp2_with fail
                        refine (IH.out md tt b us w8 (by omega) B8 ((M8.perm.trans HPZ.out).length_eq.trans HN.out) (by omega) (by omega) h3 HR3.out (fun x hx => HD.out x ((M8.perm.trans HPZ.out).mem_iff.1 hx))).mono ?_
                        rintro e w9 ⟨rfl, vs, B9, M9, o9⟩
                        go_wp2_with fail
                        go_end0
                        exact ⟨rfl, vs, B9, merged_two HPZ.out HRZ.out hbb hst M8 M9 HCR.out, o88.trans o9⟩
                      · have hg : md = tt ∨ tt = b := .inr (by omega)
                        have hg3 : (md : Int) < (tt : Int) := by omega
                        have hg4 : ¬ (tt : Int) < (b : Int) := by omega
                        go_wp2_with fail
                        go_end0
                        exact ⟨rfl, us, B8, merged_two HPZ.out HRZ.out hbb hst M8 (merged_none (hg.elim (fun e => HR3.out.empty_left e) (fun e => HR3.out.empty_right e))) HCR.out, o88⟩
                    · have hg : md = tt ∨ tt = b := .inl (by omega)
                      have hg3 : ¬ (md : Int) < (tt : Int) := by omega
                      go_wp2_with fail
                      go_end0
                      exact ⟨rfl, us, B8, merged_two HPZ.out HRZ.out hbb hst M8 (merged_none (hg.elim (fun e => HR3.out.empty_left e) (fun e => HR3.out.empty_right e))) HCR.out, o88⟩
                  · have hg1 : (a : Int) < (i : Int) := by omega
                    have hg2 : ¬ (i : Int) < (md : Int) := by omega
                    have hg9 : a = i ∨ i = md := .inr (by omega)
                    have M8 := merged_none (R := R) (hg9.elim (fun e => HR1.out.empty_left e) (fun e => HR1.out.empty_right e))
                    have HR3 := HR2
                    by_cases hq3 : md < tt
                    · by_cases hq4 : tt < b
                      · have hg3 : (md : Int) < (tt : Int) := by omega
                        have hg4 : (tt : Int) < (b : Int) := by omega
                        go_wp2_with fail
                        refine (IH.out md tt b xs wr (by omega) hB (HPZ.out.length_eq.trans HN.out) (by omega) (by omega) h3 HR3.out (fun x hx => HD.out x (HPZ.out.mem_iff.1 hx))).mono ?_
                        rintro e w9 ⟨rfl, vs, B9, M9, o9⟩
                        go_wp2_with fail
                        go_end0
                        exact ⟨rfl, vs, B9, merged_two HPZ.out HRZ.out hbb hst M8 M9 HCR.out, ho.trans o9⟩
                      · have hg : md = tt ∨ tt = b := .inr (by omega)
                        have hg3 : (md : Int) < (tt : Int) := by omega
                        have hg4 : ¬ (tt : Int) < (b : Int) := by omega
                        go_wp2_with fail
                        go_end0
                        exact ⟨rfl, xs, hB, merged_two HPZ.out HRZ.out hbb hst M8 (merged_none (hg.elim (fun e => HR3.out.empty_left e) (fun e => HR3.out.empty_right e))) HCR.out, ho⟩
                    · have hg : md = tt ∨ tt = b := .inl (by omega)
                      have hg3 : ¬ (md : Int) < (tt : Int) := by omega
                      go_wp2_with fail
                      go_end0
                      exact ⟨rfl, xs, hB, merged_two HPZ.out HRZ.out hbb hst M8 (merged_none (hg.elim (fun e => HR3.out.empty_left e) (fun e => HR3.out.empty_right e))) HCR.out, ho⟩
                · have hg1 : ¬ (a : Int) < (i : Int) := by omega
                  have hg9 : a = i ∨ i = md := .inl (by omega)
                  have M8 := merged_none (R := R) (hg9.elim (fun e => HR1.out.empty_left e) (fun e => HR1.out.empty_right e))
                  have HR3 := HR2
                  by_cases hq3 : md < tt
                  · by_cases hq4 : tt < b
                    · have hg3 : (md : Int) < (tt : Int) := by omega
                      have hg4 : (tt : Int) < (b : Int) := by omega
                      go_wp2_with fail
                      refine (IH.out md tt b xs wr (by omega) hB (HPZ.out.length_eq.trans HN.out) (by omega) (by omega) h3 HR3.out (fun x hx => HD.out x (HPZ.out.mem_iff.1 hx))).mono ?_
                      rintro e w9 ⟨rfl, vs, B9, M9, o9⟩
                      go_wp2_with fail
                      go_end0
                      exact ⟨rfl, vs, B9, merged_two HPZ.out HRZ.out hbb hst M8 M9 HCR.out, ho.trans o9⟩
                    · have hg : md = tt ∨ tt = b := .inr (by omega)
                      have hg3 : (md : Int) < (tt : Int) := by omega
                      have hg4 : ¬ (tt : Int) < (b : Int) := by omega
                      go_wp2_with fail
                      go_end0
                      exact ⟨rfl, xs, hB, merged_two HPZ.out HRZ.out hbb hst M8 (merged_none (hg.elim (fun e => HR3.out.empty_left e) (fun e => HR3.out.empty_right e))) HCR.out, ho⟩
                  · have hg : md = tt ∨ tt = b := .inl (by omega)
                    have hg3 : ¬ (md : Int) < (tt : Int) := by omega
                    go_wp2_with fail
                    go_end0
                    exact ⟨rfl, xs, hB, merged_two HPZ.out HRZ.out hbb hst M8 (merged_none (hg.elim (fun e => HR3.out.empty_left e) (fun e => HR3.out.empty_right e))) HCR.out, ho⟩
        · go_enter Try.func118, Try.ntmps118
          obtain ⟨s0, hs0⟩ : ∃ s0, a = s0 := ⟨_, rfl⟩
          obtain ⟨r0, hr0⟩ : ∃ r0, m = r0 := ⟨_, rfl⟩
          have hk1 : a ≤ s0 := by omega
          have hk2 : r0 ≤ m := by omega
          have hk3 : r0 ≤ md := by omega
          have hk4 : md + m ≤ b + s0 := by omega
          have hk5 : s0 ≤ r0 := by omega
          have HB0 : Hid (s0 = a ∨ md + m - s0 = b) := Lib.hid (.inl hs0.symm)
          have HB1 : Hid (r0 = m ∨ md + m - r0 = m) := Lib.hid (.inl hr0.symm)
          have hgt1 : ¬ (md : Int) < (m : Int) := by omega
          have HSI := Lib.hid hs0
          have HRI := Lib.hid hr0
          clear hs0 hr0
          go_wp2_with fail
          go_loopw [20, 21] (fun u v wr => ∃ (i j : Nat), u = .int .i64 (i : Int) ∧ v = .int .i64 (j : Int) ∧ s0 ≤ i ∧ i ≤ j ∧ j ≤ r0 ∧ Hid (i = s0 ∨ ∃ x y, a < i ∧ xs[i - 1]? = some x ∧ xs[md + m - i]? = some y ∧ R x y) ∧ Hid (j = r0 ∨ ∃ x y, xs[j]? = some x ∧ xs[md + m - 1 - j]? = some y ∧ R y x) ∧ Blk wr blk t (xs.flatMap Sector.enc ++ rest) ∧ Only (fun z => z = blk) w wr) (fun u v _ => (intOf v).toNat - (intOf u).toNat)
          case atStart => exact ⟨s0, r0, by rw [HSI.out], by rw [HRI.out], Nat.le_refl _, by omega, Nat.le_refl _, Lib.hid (.inl rfl), Lib.hid (.inl rfl), hB, Only.refl _ _⟩
          case round =>
            obtain ⟨i, j, rfl, rfl, hi, hij, hj, H1, H2, hB, ho⟩ := hrel
            by_cases hlt : i < j
            · obtain ⟨h, hh⟩ : ∃ h : Nat, (i + j) / 2 = h := ⟨_, rfl⟩
              have hh1 : i ≤ h := by omega
              have hh2 : h < j := by omega
              have hhi : ((i : Int) + (j : Int)) / 2 = (h : Int) := by omega
              have hhn : h < n := by omega
              have hhn2 : (h : Int) < (n : Int) := by omega
              have hh0 : (0 : Int) ≤ (h : Int) := by omega
              clear hh
              obtain ⟨ph, hph⟩ : ∃ ph, md + m - 1 - h = ph := ⟨_, rfl⟩
              have hphi : (md : Int) + (m : Int) - 1 - (h : Int) = (ph : Int) := by omega
              have hp1 : m ≤ ph := by omega
              have hp2 : ph < b := by omega
              obtain ⟨p, hp⟩ : ∃ p, xs[ph]? = some p := ⟨_, List.getElem?_eq_getElem (by rw [HN.out]; omega)⟩
              obtain ⟨q, hq⟩ : ∃ q, xs[h]? = some q := ⟨_, List.getElem?_eq_getElem (by rw [HN.out]; omega)⟩
              have hDp := HD.out p (List.mem_of_getElem? hp)
              have hDq := HD.out q (List.mem_of_getElem? hq)
              have HPH := Lib.hid hph
              clear hph
              have hC := HRC.out q p (HRD.out.cross h ph q p (by omega) (by omega) (by omega) (by omega) hq hp)
              have HT := Lib.hid hC.1
              have HF := Lib.hid hC.2
              clear hC
              have hmn : (ph : Int) < (n : Int) := by omega
              have hm0 : (0 : Int) ≤ (ph : Int) := by omega
              have hwp : IntKind.i64.wrap (ph : Int) = (ph : Int) := IntWalk.i64_in _ (by omega)
              go_wp2_with fail
              have bq := (Quiet.one wr).below wr.heap.size
              have B2 := hB.next bq
              have o2 := ho.quiet (Quiet.one wr)
              have e0 : wr.drew.cell? ⟨blk, ph * 2, none⟩ = some (.int .i64 p.cell) := row_cell? (enc := Sector.enc) (s := 2) (k := ph) (fun _ => rfl) B2 hp 0 _ rfl
              have e1 : wr.drew.cell? ⟨blk, ph * 2 + 1, none⟩ = some (.int .i64 p.chance) := row_cell? (enc := Sector.enc) (s := 2) (k := ph) (fun _ => rfl) B2 hp 1 _ rfl
              have f0 : wr.drew.cell? ⟨blk, h * 2, none⟩ = some (.int .i64 q.cell) := row_cell? (enc := Sector.enc) (s := 2) (k := h) (fun _ => rfl) B2 hq 0 _ rfl
              have f1 : wr.drew.cell? ⟨blk, h * 2 + 1, none⟩ = some (.int .i64 q.chance) := row_cell? (enc := Sector.enc) (s := 2) (k := h) (fun _ => rfl) B2 hq 1 _ rfl
              have HPp := Lib.hid hp
              have HQq := Lib.hid hq
              clear bq hp hq
              go_region_held3 (fun w' => w'.cell? ⟨blk, ph * 2, none⟩ = some (.int .i64 p.cell) ∧ w'.cell? ⟨blk, ph * 2 + 1, none⟩ = some (.int .i64 p.chance) ∧ w'.cell? ⟨blk, h * 2, none⟩ = some (.int .i64 q.cell) ∧ w'.cell? ⟨blk, h * 2 + 1, none⟩ = some (.int .i64 q.chance)) (go_keep)
                (first
                  | (refine (hc.at' p q hDp hDq _).mono ?_
                     rintro e w3 ⟨rfl, b3⟩
                     have B3 := B2.next b3
                     have o3 := o2.then_ b3
                     have hp := HPp.out
                     have hq := HQq.out
                     clear e0 e1 f0 f1
                     have e0 : w3.cell? ⟨blk, ph * 2, none⟩ = some (.int .i64 p.cell) := row_cell? (enc := Sector.enc) (s := 2) (k := ph) (fun _ => rfl) B3 hp 0 _ rfl
                     have e1 : w3.cell? ⟨blk, ph * 2 + 1, none⟩ = some (.int .i64 p.chance) := row_cell? (enc := Sector.enc) (s := 2) (k := ph) (fun _ => rfl) B3 hp 1 _ rfl
                     have f0 : w3.cell? ⟨blk, h * 2, none⟩ = some (.int .i64 q.cell) := row_cell? (enc := Sector.enc) (s := 2) (k := h) (fun _ => rfl) B3 hq 0 _ rfl
                     have f1 : w3.cell? ⟨blk, h * 2 + 1, none⟩ = some (.int .i64 q.chance) := row_cell? (enc := Sector.enc) (s := 2) (k := h) (fun _ => rfl) B3 hq 1 _ rfl
                     clear b3 hp hq))
              clear B2 o2
              clear hwp
              cases hlt2 : ltOf' cf p q
              · have hlt3 : ¬ cf p q < 0 := by simpa [ltOf'] using hlt2
                have hlt6 : (!decide (cf p q < 0)) = true := by rw [decide_eq_false hlt3]; rfl
                have HX := Lib.hid (HF.out hlt2)
                clear hlt2
                go_wp2_with fail
                all_goals first
                  | (rename_i hbad; exact absurd hbad (by rw [hlt6]; decide))
                  | (go_roundw
                     case rel => exact ⟨h + 1, j, by go_num, rfl, by omega, by omega, hj, Lib.hid (.inr ⟨q, p, by omega, by rw [Nat.add_sub_cancel]; exact HQq.out, by rw [show md + m - (h + 1) = md + m - 1 - h by omega, HPH.out]; exact HPp.out, HX.out⟩), H2, B3, o3⟩
                     case measure => simp [intOf]; omega)
              · have hlt3 : cf p q < 0 := by simpa [ltOf'] using hlt2
                have hlt6 : (!decide (cf p q < 0)) = false := by rw [decide_eq_true hlt3]; rfl
                have HX := Lib.hid (HT.out hlt2)
                clear hlt2
                go_wp2_with fail
                all_goals first
                  | (rename_i hbad; exact absurd hbad (by rw [hlt6]; decide))
                  | (go_roundw
                     case rel => exact ⟨i, h, rfl, by go_num, hi, hh1, by omega, H1, Lib.hid (.inr ⟨q, p, HQq.out, by rw [HPH.out]; exact HPp.out, HX.out⟩), B3, o3⟩
                     case measure => simp [intOf]; omega)
            · obtain rfl : i = j := by omega
              clear hlt
              obtain ⟨tt, htt⟩ : ∃ tt, md + m - i = tt := ⟨_, rfl⟩
              have htti : (md : Int) + (m : Int) - (i : Int) = (tt : Int) := by omega
              have hst : i + tt = md + m := by omega
              have hbb : a ≤ i ∧ i ≤ m ∧ m ≤ tt ∧ tt ≤ b := by omega
              have HE1 : Hid (i = a ∨ tt = b ∨ ∃ x y, a < i ∧ xs[i - 1]? = some x ∧ xs[tt]? = some y ∧ R x y) := Lib.hid (by
                rcases H1.out with e | ⟨x, y, e1, e2, e3, e4⟩
                · rcases HB0.out with e5 | e5
                  · exact .inl (by omega)
                  · exact .inr (.inl (by omega))
                · exact .inr (.inr ⟨x, y, e1, e2, by rw [← htt]; exact e3, e4⟩))
              have HE2 : Hid (i = m ∨ tt = m ∨ ∃ x y, xs[i]? = some x ∧ xs[tt - 1]? = some y ∧ R y x) := Lib.hid (by
                rcases H2.out with e | ⟨x, y, e2, e3, e4⟩
                · rcases HB1.out with e5 | e5
                  · exact .inl (by omega)
                  · exact .inr (.inl (by omega))
                · exact .inr (.inr ⟨x, y, e2, by rw [← e3]; congr 1; omega, e4⟩))
              clear htt H1 H2 hij
              by_cases hr1 : i < m
              · by_cases hr2 : m < tt
                · have hr3 : (i : Int) < (m : Int) := by omega
                  have hr4 : (m : Int) < (tt : Int) := by omega
                  go_wp2_with fail
                  refine (rotate_Sector g lb blk c n t xs rest i m tt wr hB HN.out hn2 hr1 hr2 (by omega)).mono ?_
                  rintro e w7 ⟨rfl, zs, B7, ⟨hrz, hpz⟩, o7⟩
                  have HRZ := Lib.hid hrz
                  have HPZ := Lib.hid hpz
                  have o77 := ho.trans o7
                  clear hrz hpz
                  obtain ⟨R1, R2, hcr⟩ := ready_rot HRD.out HRZ.out hbb hst HTR.out HE1.out HE2.out
                  have HR1 := Lib.hid R1
                  have HR2 := Lib.hid R2
                  have HCR := Lib.hid hcr
                  clear R1 R2 hcr
                  by_cases hq1 : a < i
                  · by_cases hq2 : i < md
                    · have hg1 : (a : Int) < (i : Int) := by omega
                      have hg2 : (i : Int) < (md : Int) := by omega
                      go_wp2_with fail
                      refine (IH.out a i md zs w7 (by omega) B7 (HPZ.out.length_eq.trans HN.out) (by omega) (by omega) (by omega) HR1.out (fun x hx => HD.out x (HPZ.out.mem_iff.1 hx))).mono ?_
                      rintro e w8 ⟨rfl, us, B8, M8, o8⟩
                      have HR3 := Lib.hid (HR2.out.same ⟨by omega, by omega⟩ (fun k c1 _ => M8.out k (by omega)))
                      have o88 := o77.trans o8
                      by_cases hq3 : md < tt
                      · by_cases hq4 : tt < b
                        · have hg3 : (md : Int) < (tt : Int) := by omega
                          have hg4 : (tt : Int) < (b : Int) := by omega
                          go_wp2_with fail
                          refine (IH.out md tt b us w8 (by omega) B8 ((M8.perm.trans HPZ.out).length_eq.trans HN.out) (by omega) (by omega) h3 HR3.out (fun x hx => HD.out x ((M8.perm.trans HPZ.out).mem_iff.1 hx))).mono ?_
                          rintro e w9 ⟨rfl, vs, B9, M9, o9⟩
                          go_wp2_with fail
                          go_end0
                          exact ⟨rfl, vs, B9, merged_two HPZ.out HRZ.out hbb hst M8 M9 HCR.out, o88.trans o9⟩
                        · have hg : md = tt ∨ tt = b := .inr (by omega)
                          have hg3 : (md : Int) < (tt : Int) := by omega
                          have hg4 : ¬ (tt : Int) < (b : Int) := by omega
                          go_wp2_with fail
                          go_end0
                          exact ⟨rfl, us, B8, merged_two HPZ.out HRZ.out hbb hst M8 (merged_none (hg.elim (fun e => HR3.out.empty_left e) (fun e => HR3.out.empty_right e))) HCR.out, o88⟩
                      · have hg : md = tt ∨ tt = b := .inl (by omega)
                        have hg3 : ¬ (md : Int) < (tt : Int) := by omega
                        go_wp2_with fail
                        go_end0
                        exact ⟨rfl, us, B8, merged_two HPZ.out HRZ.out hbb hst M8 (merged_none (hg.elim (fun e => HR3.out.empty_left e) (fun e => HR3.out.empty_right e))) HCR.out, o88⟩
                    · have hg1 : (a : Int) < (i : Int) := by omega
                      have hg2 : ¬ (i : Int) < (md : Int) := by omega
                      have hg9 : a = i ∨ i = md := .inr (by omega)
                      have M8 := merged_none (R := R) (hg9.elim (fun e => HR1.out.empty_left e) (fun e => HR1.out.empty_right e))
                      have HR3 := HR2
                      by_cases hq3 : md < tt
                      · by_cases hq4 : tt < b
                        · have hg3 : (md : Int) < (tt : Int) := by omega
                          have hg4 : (tt : Int) < (b : Int) := by omega
                          go_wp2_with fail
                          refine (IH.out md tt b zs w7 (by omega) B7 (HPZ.out.length_eq.trans HN.out) (by omega) (by omega) h3 HR3.out (fun x hx => HD.out x (HPZ.out.mem_iff.1 hx))).mono ?_
                          rintro e w9 ⟨rfl, vs, B9, M9, o9⟩
                          go_wp2_with fail
                          go_end0
                          exact ⟨rfl, vs, B9, merged_two HPZ.out HRZ.out hbb hst M8 M9 HCR.out, o77.trans o9⟩
                        · have hg : md = tt ∨ tt = b := .inr (by omega)
                          have hg3 : (md : Int) < (tt : Int) := by omega
                          have hg4 : ¬ (tt : Int) < (b : Int) := by omega
                          go_wp2_with fail
                          go_end0
                          exact ⟨rfl, zs, B7, merged_two HPZ.out HRZ.out hbb hst M8 (merged_none (hg.elim (fun e => HR3.out.empty_left e) (fun e => HR3.out.empty_right e))) HCR.out, o77⟩
                      · have hg : md = tt ∨ tt = b := .inl (by omega)
                        have hg3 : ¬ (md : Int) < (tt : Int) := by omega
                        go_wp2_with fail
                        go_end0
                        exact ⟨rfl, zs, B7, merged_two HPZ.out HRZ.out hbb hst M8 (merged_none (hg.elim (fun e => HR3.out.empty_left e) (fun e => HR3.out.empty_right e))) HCR.out, o77⟩
                  · have hg1 : ¬ (a : Int) < (i : Int) := by omega
                    have hg9 : a = i ∨ i = md := .inl (by omega)
                    have M8 := merged_none (R := R) (hg9.elim (fun e => HR1.out.empty_left e) (fun e => HR1.out.empty_right e))
                    have HR3 := HR2
                    by_cases hq3 : md < tt
                    · by_cases hq4 : tt < b
                      · have hg3 : (md : Int) < (tt : Int) := by omega
                        have hg4 : (tt : Int) < (b : Int) := by omega
                        go_wp2_with fail
                        refine (IH.out md tt b zs w7 (by omega) B7 (HPZ.out.length_eq.trans HN.out) (by omega) (by omega) h3 HR3.out (fun x hx => HD.out x (HPZ.out.mem_iff.1 hx))).mono ?_
                        rintro e w9 ⟨rfl, vs, B9, M9, o9⟩
                        go_wp2_with fail
                        go_end0
                        exact ⟨rfl, vs, B9, merged_two HPZ.out HRZ.out hbb hst M8 M9 HCR.out, o77.trans o9⟩
                      · have hg : md = tt ∨ tt = b := .inr (by omega)
                        have hg3 : (md : Int) < (tt : Int) := by omega
                        have hg4 : ¬ (tt : Int) < (b : Int) := by omega
                        go_wp2_with fail
                        go_end0
                        exact ⟨rfl, zs, B7, merged_two HPZ.out HRZ.out hbb hst M8 (merged_none (hg.elim (fun e => HR3.out.empty_left e) (fun e => HR3.out.empty_right e))) HCR.out, o77⟩
                    · have hg : md = tt ∨ tt = b := .inl (by omega)
                      have hg3 : ¬ (md : Int) < (tt : Int) := by omega
                      go_wp2_with fail
                      go_end0
                      exact ⟨rfl, zs, B7, merged_two HPZ.out HRZ.out hbb hst M8 (merged_none (hg.elim (fun e => HR3.out.empty_left e) (fun e => HR3.out.empty_right e))) HCR.out, o77⟩
                · have hr3 : (i : Int) < (m : Int) := by omega
                  have hr4 : ¬ (m : Int) < (tt : Int) := by omega
                  have HRZ := Lib.hid (rot_none (d := xs) (a := i) (m := m) (b := tt) (.inr (by omega)) ⟨by omega, by omega⟩)
                  have HPZ := Lib.hid (List.Perm.refl xs)
                  obtain ⟨R1, R2, hcr⟩ := ready_rot HRD.out HRZ.out hbb hst HTR.out HE1.out HE2.out
                  have HR1 := Lib.hid R1
                  have HR2 := Lib.hid R2
                  have HCR := Lib.hid hcr
                  clear R1 R2 hcr
                  by_cases hq1 : a < i
                  · by_cases hq2 : i < md
                    · have hg1 : (a : Int) < (i : Int) := by omega
                      have hg2 : (i : Int) < (md : Int) := by omega
                      go_wp2_with fail
                      refine (IH.out a i md xs wr (by omega) hB (HPZ.out.length_eq.trans HN.out) (by omega) (by omega) (by omega) HR1.out (fun x hx => HD.out x (HPZ.out.mem_iff.1 hx))).mono ?_
                      rintro e w8 ⟨rfl, us, B8, M8, o8⟩
                      have HR3 := Lib.hid (HR2.out.same ⟨by omega, by omega⟩ (fun k c1 _ => M8.out k (by omega)))
                      have o88 := ho.trans o8
                      by_cases hq3 : md < tt
                      · by_cases hq4 : tt < b
                        · have hg3 : (md : Int) < (tt : Int) := by omega
                          have hg4 : (tt : Int) < (b : Int) := by omega
                          go_wp2_with fail
                          refine (IH.out md tt b us w8 (by omega) B8 ((M8.perm.trans HPZ.out).length_eq.trans HN.out) (by omega) (by omega) h3 HR3.out (fun x hx => HD.out x ((M8.perm.trans HPZ.out).mem_iff.1 hx))).mono ?_
                          rintro e w9 ⟨rfl, vs, B9, M9, o9⟩
                          go_wp2_with fail
                          go_end0
                          exact ⟨rfl, vs, B9, merged_two HPZ.out HRZ.out hbb hst M8 M9 HCR.out, o88.trans o9⟩
                        · have hg : md = tt ∨ tt = b := .inr (by omega)
                          have hg3 : (md : Int) < (tt : Int) := by omega
                          have hg4 : ¬ (tt : Int) < (b : Int) := by omega
                          go_wp2_with fail
                          go_end0
                          exact ⟨rfl, us, B8, merged_two HPZ.out HRZ.out hbb hst M8 (merged_none (hg.elim (fun e => HR3.out.empty_left e) (fun e => HR3.out.empty_right e))) HCR.out, o88⟩
                      · have hg : md = tt ∨ tt = b := .inl (by omega)
                        have hg3 : ¬ (md : Int) < (tt : Int) := by omega
                        go_wp2_with fail
                        go_end0
                        exact ⟨rfl, us, B8, merged_two HPZ.out HRZ.out hbb hst M8 (merged_none (hg.elim (fun e => HR3.out.empty_left e) (fun e => HR3.out.empty_right e))) HCR.out, o88⟩
                    · have hg1 : (a : Int) < (i : Int) := by omega
                      have hg2 : ¬ (i : Int) < (md : Int) := by omega
                      have hg9 : a = i ∨ i = md := .inr (by omega)
                      have M8 := merged_none (R := R) (hg9.elim (fun e => HR1.out.empty_left e) (fun e => HR1.out.empty_right e))
                      have HR3 := HR2
                      by_cases hq3 : md < tt
                      · by_cases hq4 : tt < b
                        · have hg3 : (md : Int) < (tt : Int) := by omega
                          have hg4 : (tt : Int) < (b : Int) := by omega
                          go_wp2_with fail
                          refine (IH.out md tt b xs wr (by omega) hB (HPZ.out.length_eq.trans HN.out) (by omega) (by omega) h3 HR3.out (fun x hx => HD.out x (HPZ.out.mem_iff.1 hx))).mono ?_
                          rintro e w9 ⟨rfl, vs, B9, M9, o9⟩
                          go_wp2_with fail
                          go_end0
                          exact ⟨rfl, vs, B9, merged_two HPZ.out HRZ.out hbb hst M8 M9 HCR.out, ho.trans o9⟩
                        · have hg : md = tt ∨ tt = b := .inr (by omega)
                          have hg3 : (md : Int) < (tt : Int) := by omega
                          have hg4 : ¬ (tt : Int) < (b : Int) := by omega
                          go_wp2_with fail
                          go_end0
                          exact ⟨rfl, xs, hB, merged_two HPZ.out HRZ.out hbb hst M8 (merged_none (hg.elim (fun e => HR3.out.empty_left e) (fun e => HR3.out.empty_right e))) HCR.out, ho⟩
                      · have hg : md = tt ∨ tt = b := .inl (by omega)
                        have hg3 : ¬ (md : Int) < (tt : Int) := by omega
                        go_wp2_with fail
                        go_end0
                        exact ⟨rfl, xs, hB, merged_two HPZ.out HRZ.out hbb hst M8 (merged_none (hg.elim (fun e => HR3.out.empty_left e) (fun e => HR3.out.empty_right e))) HCR.out, ho⟩
                  · have hg1 : ¬ (a : Int) < (i : Int) := by omega
                    have hg9 : a = i ∨ i = md := .inl (by omega)
                    have M8 := merged_none (R := R) (hg9.elim (fun e => HR1.out.empty_left e) (fun e => HR1.out.empty_right e))
                    have HR3 := HR2
                    by_cases hq3 : md < tt
                    · by_cases hq4 : tt < b
                      · have hg3 : (md : Int) < (tt : Int) := by omega
                        have hg4 : (tt : Int) < (b : Int) := by omega
                        go_wp2_with fail
                        refine (IH.out md tt b xs wr (by omega) hB (HPZ.out.length_eq.trans HN.out) (by omega) (by omega) h3 HR3.out (fun x hx => HD.out x (HPZ.out.mem_iff.1 hx))).mono ?_
                        rintro e w9 ⟨rfl, vs, B9, M9, o9⟩
                        go_wp2_with fail
                        go_end0
                        exact ⟨rfl, vs, B9, merged_two HPZ.out HRZ.out hbb hst M8 M9 HCR.out, ho.trans o9⟩
                      · have hg : md = tt ∨ tt = b := .inr (by omega)
                        have hg3 : (md : Int) < (tt : Int) := by omega
                        have hg4 : ¬ (tt : Int) < (b : Int) := by omega
                        go_wp2_with fail
                        go_end0
                        exact ⟨rfl, xs, hB, merged_two HPZ.out HRZ.out hbb hst M8 (merged_none (hg.elim (fun e => HR3.out.empty_left e) (fun e => HR3.out.empty_right e))) HCR.out, ho⟩
                    · have hg : md = tt ∨ tt = b := .inl (by omega)
                      have hg3 : ¬ (md : Int) < (tt : Int) := by omega
                      go_wp2_with fail
                      go_end0
                      exact ⟨rfl, xs, hB, merged_two HPZ.out HRZ.out hbb hst M8 (merged_none (hg.elim (fun e => HR3.out.empty_left e) (fun e => HR3.out.empty_right e))) HCR.out, ho⟩
              · have hr3 : ¬ (i : Int) < (m : Int) := by omega
                have HRZ := Lib.hid (rot_none (d := xs) (a := i) (m := m) (b := tt) (.inl (by omega)) ⟨by omega, by omega⟩)
                have HPZ := Lib.hid (List.Perm.refl xs)
                obtain ⟨R1, R2, hcr⟩ := ready_rot HRD.out HRZ.out hbb hst HTR.out HE1.out HE2.out
                have HR1 := Lib.hid R1
                have HR2 := Lib.hid R2
                have HCR := Lib.hid hcr
                clear R1 R2 hcr
                by_cases hq1 : a < i
                · by_cases hq2 : i < md
                  · have hg1 : (a : Int) < (i : Int) := by omega
                    have hg2 : (i : Int) < (md : Int) := by omega
                    go_wp2_with fail
                    refine (IH.out a i md xs wr (by omega) hB (HPZ.out.length_eq.trans HN.out) (by omega) (by omega) (by omega) HR1.out (fun x hx => HD.out x (HPZ.out.mem_iff.1 hx))).mono ?_
                    rintro e w8 ⟨rfl, us, B8, M8, o8⟩
                    have HR3 := Lib.hid (HR2.out.same ⟨by omega, by omega⟩ (fun k c1 _ => M8.out k (by omega)))
                    have o88 := ho.trans o8
                    by_cases hq3 : md < tt
                    · by_cases hq4 : tt < b
                      · have hg3 : (md : Int) < (tt : Int) := by omega
                        have hg4 : (tt : Int) < (b : Int) := by omega
                        go_wp2_with fail
                        refine (IH.out md tt b us w8 (by omega) B8 ((M8.perm.trans HPZ.out).length_eq.trans HN.out) (by omega) (by omega) h3 HR3.out (fun x hx => HD.out x ((M8.perm.trans HPZ.out).mem_iff.1 hx))).mono ?_
                        rintro e w9 ⟨rfl, vs, B9, M9, o9⟩
                        go_wp2_with fail
                        go_end0
                        exact ⟨rfl, vs, B9, merged_two HPZ.out HRZ.out hbb hst M8 M9 HCR.out, o88.trans o9⟩
                      · have hg : md = tt ∨ tt = b := .inr (by omega)
                        have hg3 : (md : Int) < (tt : Int) := by omega
                        have hg4 : ¬ (tt : Int) < (b : Int) := by omega
                        go_wp2_with fail
                        go_end0
                        exact ⟨rfl, us, B8, merged_two HPZ.out HRZ.out hbb hst M8 (merged_none (hg.elim (fun e => HR3.out.empty_left e) (fun e => HR3.out.empty_right e))) HCR.out, o88⟩
                    · have hg : md = tt ∨ tt = b := .inl (by omega)
                      have hg3 : ¬ (md : Int) < (tt : Int) := by omega
                      go_wp2_with fail
                      go_end0
                      exact ⟨rfl, us, B8, merged_two HPZ.out HRZ.out hbb hst M8 (merged_none (hg.elim (fun e => HR3.out.empty_left e) (fun e => HR3.out.empty_right e))) HCR.out, o88⟩
                  · have hg1 : (a : Int) < (i : Int) := by omega
                    have hg2 : ¬ (i : Int) < (md : Int) := by omega
                    have hg9 : a = i ∨ i = md := .inr (by omega)
                    have M8 := merged_none (R := R) (hg9.elim (fun e => HR1.out.empty_left e) (fun e => HR1.out.empty_right e))
                    have HR3 := HR2
                    by_cases hq3 : md < tt
                    · by_cases hq4 : tt < b
                      · have hg3 : (md : Int) < (tt : Int) := by omega
                        have hg4 : (tt : Int) < (b : Int) := by omega
                        go_wp2_with fail
                        refine (IH.out md tt b xs wr (by omega) hB (HPZ.out.length_eq.trans HN.out) (by omega) (by omega) h3 HR3.out (fun x hx => HD.out x (HPZ.out.mem_iff.1 hx))).mono ?_
                        rintro e w9 ⟨rfl, vs, B9, M9, o9⟩
                        go_wp2_with fail
                        go_end0
                        exact ⟨rfl, vs, B9, merged_two HPZ.out HRZ.out hbb hst M8 M9 HCR.out, ho.trans o9⟩
                      · have hg : md = tt ∨ tt = b := .inr (by omega)
                        have hg3 : (md : Int) < (tt : Int) := by omega
                        have hg4 : ¬ (tt : Int) < (b : Int) := by omega
                        go_wp2_with fail
                        go_end0
                        exact ⟨rfl, xs, hB, merged_two HPZ.out HRZ.out hbb hst M8 (merged_none (hg.elim (fun e => HR3.out.empty_left e) (fun e => HR3.out.empty_right e))) HCR.out, ho⟩
                    · have hg : md = tt ∨ tt = b := .inl (by omega)
                      have hg3 : ¬ (md : Int) < (tt : Int) := by omega
                      go_wp2_with fail
                      go_end0
                      exact ⟨rfl, xs, hB, merged_two HPZ.out HRZ.out hbb hst M8 (merged_none (hg.elim (fun e => HR3.out.empty_left e) (fun e => HR3.out.empty_right e))) HCR.out, ho⟩
                · have hg1 : ¬ (a : Int) < (i : Int) := by omega
                  have hg9 : a = i ∨ i = md := .inl (by omega)
                  have M8 := merged_none (R := R) (hg9.elim (fun e => HR1.out.empty_left e) (fun e => HR1.out.empty_right e))
                  have HR3 := HR2
                  by_cases hq3 : md < tt
                  · by_cases hq4 : tt < b
                    · have hg3 : (md : Int) < (tt : Int) := by omega
                      have hg4 : (tt : Int) < (b : Int) := by omega
                      go_wp2_with fail
                      refine (IH.out md tt b xs wr (by omega) hB (HPZ.out.length_eq.trans HN.out) (by omega) (by omega) h3 HR3.out (fun x hx => HD.out x (HPZ.out.mem_iff.1 hx))).mono ?_
                      rintro e w9 ⟨rfl, vs, B9, M9, o9⟩
                      go_wp2_with fail
                      go_end0
                      exact ⟨rfl, vs, B9, merged_two HPZ.out HRZ.out hbb hst M8 M9 HCR.out, ho.trans o9⟩
                    · have hg : md = tt ∨ tt = b := .inr (by omega)
                      have hg3 : (md : Int) < (tt : Int) := by omega
                      have hg4 : ¬ (tt : Int) < (b : Int) := by omega
                      go_wp2_with fail
                      go_end0
                      exact ⟨rfl, xs, hB, merged_two HPZ.out HRZ.out hbb hst M8 (merged_none (hg.elim (fun e => HR3.out.empty_left e) (fun e => HR3.out.empty_right e))) HCR.out, ho⟩
                  · have hg : md = tt ∨ tt = b := .inl (by omega)
                    have hg3 : ¬ (md : Int) < (tt : Int) := by omega
                    go_wp2_with fail
                    go_end0
                    exact ⟨rfl, xs, hB, merged_two HPZ.out HRZ.out hbb hst M8 (merged_none (hg.elim (fun e => HR3.out.empty_left e) (fun e => HR3.out.empty_right e))) HCR.out, ho⟩

end Go.Proofs.Ytjcmlloglnkbfaa
