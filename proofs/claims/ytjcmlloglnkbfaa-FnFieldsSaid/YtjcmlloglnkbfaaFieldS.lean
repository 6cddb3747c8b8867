/- The reference's field. -/
import Derived.Test.YtjcmlloglnkbfaaGrow
import Derived.Test.YtjcmlloglnkbfaaPut
namespace Go.Proofs.Ytjcmlloglnkbfaa
open Go.RowKit

def fieldT (m : MapV) (a : Int) (t : Nat) : List Int := fieldL m.cost.length (nextL m) a t
theorem beside_len (w h c : Int) : (besideL w h c).length ≤ 4 := by
  unfold besideL
  simp only [List.length_append]
  have h1 : ∀ (p : Prop) [Decidable p] (y : Int), (if p then [y] else []).length ≤ 1 := fun p _ y => by split <;> simp
  have := h1 (w ≤ c) (c - w)
  have := h1 (0 < c % w) (c - 1)
  have := h1 (c % w < w - 1) (c + 1)
  have := h1 (c + w < w * h) (c + w)
  omega

set_option maxRecDepth 100000 in
set_option maxHeartbeats 8000000 in
theorem l23Field_any (A1 A2 : Option Addr) (n1 n2 c1 c2 : Nat) (m : MapV) (a s : Int) (w : World) (hm : SeesMap w A1 n1 A2 n2 m) (hM : isMapB m = true) (ha : 0 ≤ a ∧ a < m.cost.length) (hs : 0 ≤ s ∧ s ≤ 100000) :
    Calls Try.prog 83 #[.agg #[.int .i64 m.width, .int .i64 m.height, .slice A1 n1 c1, .slice A2 n2 c2], .int .i64 a, .int .i64 s] w (GivesL w (fieldT m a s.toNat)) := by
  have HL2 := Lib.hid hm.f2.icount
  obtain ⟨k1, k2, k3, k4⟩ := isMapB_size hM
  have HN := Lib.hid (show m.cost.length ≤ 36 by omega)
  have HF0 := Lib.hid (show fieldT m a 0 = [a] from fieldL_zero ha)
  have HFL := Lib.hid (show ∀ t, (fieldT m a t).length ≤ 36 from fun t => Nat.le_trans (fieldL_len _ _ _ _) HN.out)
  have HMM := Lib.hid hM
  have HA := Lib.hid ha
  obtain ⟨sn, rfl⟩ := Int.eq_ofNat_of_zero_le hs.1
  have hs1 : sn ≤ 100000 := by omega
  have HSZ : (1 ≤ m.width ∧ m.width ≤ 6) ∧ (1 ≤ m.height ∧ m.height ≤ 6) := by
    have h7 := hM
    simp only [isMapB, Bool.and_eq_true, decide_eq_true_eq] at h7
    obtain ⟨⟨⟨⟨h1, h2⟩, _⟩, _⟩, _⟩ := h7
    exact ⟨inB_true h1, inB_true h2⟩
  clear k1 k2 k3 k4 hM ha hs
  have K0 : Below w.heap.size w ((w.alloc (.cells #[.int .i64 m.width, .int .i64 m.height, .slice A1 n1 c1, .slice A2 n2 c2] 29)).alloc (.cells #[.int .i64 a] 3)) := ((Below.refl _ _).alloc (Nat.le_refl _) _).alloc (by simp) _
  have M0 : Blk ((w.alloc (.cells #[.int .i64 m.width, .int .i64 m.height, .slice A1 n1 c1, .slice A2 n2 c2] 29)).alloc (.cells #[.int .i64 a] 3)) w.heap.size 29 [.int .i64 m.width, .int .i64 m.height, .slice A1 n1 c1, .slice A2 n2 c2] := (Blk.at_ rfl).alloc _
  have B0 : Blk ((w.alloc (.cells #[.int .i64 m.width, .int .i64 m.height, .slice A1 n1 c1, .slice A2 n2 c2] 29)).alloc (.cells #[.int .i64 a] 3)) (w.heap.size + 1) 3 [.int .i64 a] := Blk.at_ (by simp)
  have O0 : ((w.alloc (.cells #[.int .i64 m.width, .int .i64 m.height, .slice A1 n1 c1, .slice A2 n2 c2] 29)).alloc (.cells #[.int .i64 a] 3)).ownsRow (w.heap.size + 1) 3 1 (.slice (some ⟨w.heap.size + 1, 0, none⟩) 1 1) 1 [.int .i64 a] := B0.own (Nat.le_refl _) rfl (by simp [maxLen])
  go_enter Try.func83, Try.ntmps83
  go_wp2_with fail
  generalize ((w.alloc (.cells #[.int .i64 m.width, .int .i64 m.height, .slice A1 n1 c1, .slice A2 n2 c2] 29)).alloc (.cells #[.int .i64 a] 3)) = w0 at *
  go_loopw [2, 7, 8] (fun sv ov mv wr => ∃ (t : Nat) (A : Option Addr) (c : Nat) (more : Bool), sv = .int .i64 ((sn - t : Nat) : Int) ∧ t ≤ sn ∧ ov = .slice A (fieldT m a t).length c ∧ mv = .bool more ∧ wr.ownsRow (w.heap.size + 1) 3 1 (.slice A (fieldT m a t).length c) (fieldT m a t).length (ints (fieldT m a t)) ∧ Hid (more = false → ∀ u, t ≤ u → fieldT m a u = fieldT m a t) ∧ Blk wr w.heap.size 29 [.int .i64 m.width, .int .i64 m.height, .slice A1 n1 c1, .slice A2 n2 c2] ∧ Below w.heap.size w wr) (fun sv _ _ _ => (intOf sv).toNat)
  case atStart => exact ⟨0, some ⟨w.heap.size + 1, 0, none⟩, 1, true, rfl, Nat.zero_le _, by rw [HF0.out]; rfl, rfl, by rw [HF0.out]; exact O0, Lib.hid (fun h => by cases h), M0, K0⟩
  case round =>
    obtain ⟨t, A, c, more, rfl, ht, rfl, rfl, hown, HS, M, K⟩ := hrel
    cases more
    · have HE := Lib.hid (show fieldT m a sn = fieldT m a t from HS.out rfl sn ht)
      clear HS
      go_wp2_with fail
      go_ret
      rw [show ((sn : Int)).toNat = sn from Int.toNat_natCast sn, HE.out]
      exact ⟨_, _, rfl, own_base hown (Nat.le_succ _), K⟩
    · by_cases hlt : t < sn
      · have hpos : (0 : Int) < ((sn - t : Nat) : Int) := by omega
        have hlen : (fieldT m a t).length ≤ 36 := HFL.out t
        clear HS
        go_wp2_with fail
        refine (l1Own_any _ _ _ _ (fieldT m a t) _ (Sees.of_own hown) (by omega)).mono ?_
        rintro e w1 ⟨A9, c9, rfl, o9, b9⟩
        have K1 := bel_then K b9
        have M1 := M.next b9
        have own1 := own_below hown b9
        have lt0 := M.lt
        have o9' := own_base o9 (show w.heap.size + 1 ≤ wr.heap.size by omega)
        clear o9 K M hown b9
        go_wp2_with fail
        have HFR := Lib.hid (show ∀ x ∈ fieldT m a t, 0 ≤ x ∧ x < m.cost.length from fun x hx => (mem_fieldL.1 hx).1)
        have HG0 := Lib.hid (show Grow m (fieldT m a t) [] 0 0 (fieldT m a t) from .start (fieldL_rising _ _ _ _))
        have HFT := Lib.hid (show fieldT m a t = fieldL m.cost.length (nextL m) a t from rfl)
        obtain ⟨Fx, hFx⟩ : ∃ Fx, fieldT m a t = Fx := ⟨_, rfl⟩
        rw [hFx] at HFR HG0 HFT own1 o9' hlen
        rw [hFx]
        have HX := Lib.hid hFx
        clear hFx
        obtain ⟨wo, hwo⟩ : ∃ wo : World, wo = w1 := ⟨_, rfl⟩
        subst hwo
        go_loopw [9, 10] (fun nv iv wr => ∃ (i : Nat) (Lx : List Int) (A9 : Option Addr) (c9 : Nat), i ≤ Fx.length ∧ iv = .int .i64 (i : Int) ∧ nv = .slice A9 Lx.length c9 ∧ wr.ownsRow (w.heap.size + 1) 3 1 (.slice A9 Lx.length c9) Lx.length (ints Lx) ∧ Hid (Grow m Fx [] i 0 Lx) ∧ Lx.length ≤ 36 + 4 * i ∧ wr.ownsRow (w.heap.size + 1) 3 1 (.slice A Fx.length c) Fx.length (ints Fx) ∧ Blk wr w.heap.size 29 [.int .i64 m.width, .int .i64 m.height, .slice A1 n1 c1, .slice A2 n2 c2] ∧ Below w.heap.size w wr) (fun _ iv _ => Fx.length - (intOf iv).toNat)
        case atStart => exact ⟨0, Fx, A9, c9, Nat.zero_le _, rfl, rfl, o9', HG0, by omega, own1, M1, K1⟩
        case round =>
          obtain ⟨i, Lx, A9, c9, hi, rfl, rfl, ownL, HG, hLx, ownF, M, K⟩ := hrel
          by_cases hlt2 : i < Fx.length
          · have HY := Lib.hid (HFR.out Fx[i] (List.getElem_mem hlt2))
            have HB := Lib.hid (show ∀ x, x ∈ nextL m Fx[i] ↔ x ∈ besideL m.width m.height Fx[i] ∧ m.cost.getD x.toNat 0 ≠ 0 from fun x => next_beside HMM.out HY.out)
            have HBI := Lib.hid (show ∀ x ∈ besideL m.width m.height Fx[i], 0 ≤ x ∧ x < m.cost.length from fun x hx => by
              obtain ⟨k1, k2, k3, k4⟩ := isMapB_size HMM.out
              have h1 := HY.out
              have := beside_in m.width m.height Fx[i] x HSZ.1 (by omega) hx
              omega)
            have HD := Lib.hid (show ∀ (lst L : List Int) (k : Nat), Grow m Fx lst i k L → lst = besideL m.width m.height Fx[i] → lst.length ≤ k → Grow m Fx [] (i + 1) 0 L from fun lst L k h e hk => h.done hk hlt2 (fun x => by rw [e]; exact HB.out x))
            obtain ⟨y, hy⟩ : ∃ y, Fx[i] = y := ⟨_, rfl⟩
            rw [hy] at HY HB HBI HD
            have hyb : 0 ≤ y ∧ y ≤ 1000000 := by have := HY.out; have := HN.out; omega
            have q := (Quiet.one wr).below wr.heap.size
            have K' := bel_then K q
            have M' := M.next q
            have L' := own_below ownL q
            have F' := own_below ownF q
            clear K M ownL ownF q
            obtain ⟨bb, ob, rfl, hBlt, hcF⟩ := (Sees.of_own F').int hlt2
            rw [show Fx[i] = y from hy] at hcF
            have cm := M'.cell
            go_wp2_with fail
            go_region_held3 (fun w' => w'.cell? ⟨bb, ob + i, none⟩ = some (.int .i64 y) ∧ w'.cell? ⟨w.heap.size, 0, none⟩ = some (.int .i64 m.width) ∧ w'.cell? ⟨w.heap.size, 1, none⟩ = some (.int .i64 m.height) ∧ w'.cell? ⟨w.heap.size, 2, none⟩ = some (.slice A1 n1 c1) ∧ w'.cell? ⟨w.heap.size, 3, none⟩ = some (.slice A2 n2 c2)) (go_keep)
              (first
                | (go_at_call 92
                   refine (l23Beside_any _ _ _ _ _ _ m y _ HSZ hyb).mono ?_
                   rintro e w2 ⟨A3, c3, rfl, o3, b3⟩
                   have lt3 := M'.lt
                   clear cm hcF
                   replace K' := bel_then K' b3
                   replace M' := M'.next b3
                   replace L' := own_below L' b3
                   replace F' := own_below F' b3
                   clear b3
                   have cm := M'.cell
                   obtain ⟨b', o', e', _, hcF⟩ := (Sees.of_own F').int hlt2
                   injection e' with e'
                   injection e' with e1 e2
                   subst e1 e2
                   rw [show Fx[i] = y from hy] at hcF))
            go_wp2_with fail
            have o4 := own_base o3 (show w.heap.size + 1 ≤ _ from lt3)
            clear o3 lt3 cm hcF
            have HB4 := Lib.hid (beside_len m.width m.height y)
            obtain ⟨lst, hlst⟩ : ∃ lst, besideL m.width m.height y = lst := ⟨_, rfl⟩
            rw [hlst] at o4 HBI HB4 HB
            rw [hlst]
            have HE := Lib.hid hlst.symm
            clear hlst
            have HGL := Lib.hid (HG.out.list lst)
            have hl4 : lst.length ≤ 4 := HB4.out
            obtain ⟨wo, hwo⟩ : ∃ wo : World, wo = w2 := ⟨_, rfl⟩
            subst hwo
            go_loopw [9, 12] (fun nv kv wr => ∃ (k : Nat) (L1 : List Int) (A8 : Option Addr) (c8 : Nat), k ≤ lst.length ∧ kv = .int .i64 (k : Int) ∧ nv = .slice A8 L1.length c8 ∧ wr.ownsRow (w.heap.size + 1) 3 1 (.slice A8 L1.length c8) L1.length (ints L1) ∧ Hid (Grow m Fx lst i k L1) ∧ L1.length ≤ 36 + 4 * i + k ∧ wr.ownsRow (w.heap.size + 1) 3 1 (.slice (some ⟨bb, ob, none⟩) Fx.length c) Fx.length (ints Fx) ∧ wr.ownsRow (w.heap.size + 1) 3 1 (.slice A3 lst.length c3) lst.length (ints lst) ∧ Blk wr w.heap.size 29 [.int .i64 m.width, .int .i64 m.height, .slice A1 n1 c1, .slice A2 n2 c2] ∧ Below w.heap.size w wr) (fun _ kv _ => lst.length - (intOf kv).toNat)
            case atStart => exact ⟨0, Lx, A9, c9, Nat.zero_le _, rfl, rfl, L', HGL, by omega, F', o4, M', K'⟩
            case round =>
              obtain ⟨k, L1, A8, c8, hk, rfl, rfl, own8, HG1, hL1, ownF, own3, M, K⟩ := hrel
              clear L' F' o4 M' K' HGL HG
              by_cases hlt3 : k < lst.length
              · have HR := Lib.hid (HBI.out lst[k] (List.getElem_mem hlt3))
                have HS0 := Lib.hid (show m.cost.getD lst[k].toNat 0 = 0 → Grow m Fx lst i (k + 1) L1 from fun h => HG1.out.skip0 hlt3 h)
                have HS1 := Lib.hid (show lst[k] ∈ L1 → Grow m Fx lst i (k + 1) L1 from fun h => HG1.out.skip1 hlt3 h)
                have HS2 := Lib.hid (show m.cost.getD lst[k].toNat 0 ≠ 0 → Grow m Fx lst i (k + 1) (putI L1 lst[k]) from fun h => HG1.out.put hlt3 h)
                have hne : L1.length ≠ 0 := fun h => by
                  have h1 := (HG1.out.mem Fx[i]).2 (.inl (.inl (List.getElem_mem hlt2)))
                  rw [List.eq_nil_of_length_eq_zero h] at h1
                  cases h1
                have hcL : L1.length ≤ 180 := by omega
                obtain ⟨x, hx⟩ : ∃ x, lst[k] = x := ⟨_, rfl⟩
                rw [hx] at HR HS0 HS1 HS2
                obtain ⟨xn, rfl⟩ := Int.eq_ofNat_of_zero_le HR.out.1
                have hxl : xn < n2 := by have := HR.out; have := HL2.out; omega
                have hx36 : xn < 36 := by have := HN.out; have := HL2.out; omega
                obtain ⟨bs, os, rfl, _, cs3⟩ := (Sees.of_own own3).int hlt3
                rw [show lst[k] = (xn : Int) from hx] at cs3
                obtain ⟨bc, oc, rfl, hkc, cc⟩ := (hm.next K).f2.int hxl
                have hg : m.cost.getD ((xn : Int)).toNat 0 = m.cost[xn] := by rw [Int.toNat_natCast, List.getD_eq_getElem?_getD, List.getElem?_eq_getElem hkc]; rfl
                rw [hg] at HS0 HS2
                obtain ⟨v, hv⟩ : ∃ v, m.cost[xn] = v := ⟨_, rfl⟩
                rw [hv] at HS0 HS2
                rw [show m.cost[xn] = v from hv] at cc
                have cm := M.cell
                obtain ⟨g8, cur8, rfl, hnc⟩ : ∃ g cur, A8 = some ⟨g, 0, none⟩ ∧ L1.length ≤ c8 ∧ Hid (cur = ints L1) := by
                  rcases own_open own8 with ⟨_, h, _⟩ | ⟨g, cur, h1, _, _, _, h2, _⟩
                  · exact absurd h hne
                  · exact ⟨g, ints L1, h1, h2, Lib.hid rfl⟩
                clear HG1 hg
                by_cases h0 : v = 0
                · subst h0
                  clear hv
                  have HF := Lib.hid (HS0.out rfl)
                  clear HS0 HS1 HS2
                  go_wp2_with fail
                  go_quiet (fail)
                  go_wp2_with fail
                  go_roundw
                  case rel => exact ⟨k + 1, L1, some ⟨g8, 0, none⟩, c8, by omega, by go_num, rfl, own_below own8 ((Quiet.mk _ _).below _), HF, by omega, own_below ownF ((Quiet.mk _ _).below _), own_below own3 ((Quiet.mk _ _).below _), M.next ((Quiet.mk _ _).below _), bel_drewN K _⟩
                  case measure => simp [intOf]; omega
                · have hq0 : (v == 0) = false := by simpa using h0
                  have hq1 : (v != 0) = true := by simp [h0]
                  have HF2 := Lib.hid (HS2.out h0)
                  clear HS0 HS2 hv
                  by_cases hin : (xn : Int) ∈ L1
                  · have hb : hasI L1 (xn : Int) = true := by simpa [hasI] using hin
                    have HF := Lib.hid (HS1.out hin)
                    clear HS1 HF2 hin
                    go_wp2_with fail
                    go_quiet ((go_at_call 76; exact quiet_rightG ((l1Has_any _ _ _ L1 _ _ (((Sees.of_own own8).less (Nat.zero_le _)).quiet (Quiet.mk _ _)) (by omega)).mono fun e w' h => by rw [hb] at h; exact h)))
                    go_wp2_with fail
                    go_roundw
                    case rel => exact ⟨k + 1, L1, some ⟨g8, 0, none⟩, c8, by omega, by go_num, rfl, own_below own8 ((Quiet.mk _ _).below _), HF, by omega, own_below ownF ((Quiet.mk _ _).below _), own_below own3 ((Quiet.mk _ _).below _), M.next ((Quiet.mk _ _).below _), bel_drewN K _⟩
                    case measure => simp [intOf]; omega
                  · have hb : hasI L1 (xn : Int) = false := by
                      unfold hasI
                      rw [List.any_eq_false]
                      intro z hz hh
                      exact hin (by rw [of_decide_eq_true hh]; exact hz)
                    clear HS1
                    go_wp2_with fail
                    go_quiet ((go_at_call 76; exact quiet_rightG ((l1Has_any _ _ _ L1 _ _ (((Sees.of_own own8).less (Nat.zero_le _)).quiet (Quiet.mk _ _)) (by omega)).mono fun e w' h => by rw [hb] at h; exact h)))
                    go_wp2_with fail
                    refine (l1Put_any _ _ _ _ _ L1 _ _ ((Sees.of_own own8).quiet (Quiet.mk _ _)) (by omega) hnc.1 hin).mono ?_
                    rintro e w1 ⟨A7, c7, rfl, o7, b7⟩
                    have q := (Quiet.mk wr nq).below wr.heap.size
                    have K1 := bel_then (bel_then K q) b7
                    have M1 := (M.next q).next b7
                    have F1 := own_below (own_below ownF q) b7
                    have L1' := own_below (own_below own3 q) b7
                    have lt0 := M.lt
                    have o7' := own_base o7 (show w.heap.size + 1 ≤ wr.heap.size from lt0)
                    have hpl : (putI L1 (xn : Int)).length ≤ L1.length + 1 := putI_len
                    go_wp2_with fail
                    go_roundw
                    case rel => exact ⟨k + 1, putI L1 (xn : Int), A7, c7, by omega, by go_num, rfl, o7', HF2, by omega, F1, L1', M1, K1⟩
                    case measure => simp [intOf]; omega
              · have HF := Lib.hid (HD.out lst L1 k HG1.out HE.out (by omega))
                go_wp2_with fail
                go_roundw
                case rel => exact ⟨i + 1, L1, A8, c8, by omega, by go_num, rfl, own8, HF, by omega, ownF, M, K⟩
                case measure => simp [intOf]; omega
          · have hgrow := Lib.hid (show fieldT m a (t + 1) = Lx by
              have h := HG.out
              rw [HFT.out] at h
              exact (Grow.field h (by rw [← HFT.out]; omega)).symm)
            have hst := Lib.hid (show decide (Fx.length < Lx.length) = false → ∀ u, t + 1 ≤ u → fieldT m a u = Lx by
              intro h u hu
              have h1 : ¬ Fx.length < Lx.length := by simpa using h
              have h2 : (fieldL m.cost.length (nextL m) a (t + 1)).length ≤ (fieldL m.cost.length (nextL m) a t).length := by
                rw [← HFT.out, show fieldL m.cost.length (nextL m) a (t + 1) = Lx from hgrow.out]; omega
              have h3 := fieldL_stop h2 (show t ≤ t + 1 by omega)
              have h4 := fieldL_stop h2 (show t ≤ u by omega)
              show fieldL m.cost.length (nextL m) a u = Lx
              rw [h4, ← h3]
              exact hgrow.out)
            have h36 : Lx.length ≤ 36 := by rw [← hgrow.out]; exact HFL.out (t + 1)
            have HST := Lib.hid (show ((sn - t : Nat) : Int) - 1 = ((sn - (t + 1) : Nat) : Int) by omega)
            have hb1 : ((sn - t : Nat) : Int) ≤ 100000 := by omega
            clear HG
            go_wp2_with fail
            go_roundw
            case rel => exact ⟨t + 1, A9, c9, decide (Fx.length < Lx.length), by rw [HST.out], by omega, by rw [hgrow.out], by first | rfl | (congr 1; simp), by rw [hgrow.out]; exact ownL, Lib.hid (fun h u hu => by rw [hgrow.out]; exact hst.out h u hu), M, K⟩
            case measure => simp [intOf]; omega
      · obtain rfl : sn = t := by omega
        have hz : sn - sn = 0 := by omega
        clear HS
        go_wp2_with fail
        go_ret
        rw [show ((sn : Int)).toNat = sn from Int.toNat_natCast sn]
        exact ⟨_, _, rfl, own_base hown (Nat.le_succ _), K⟩

end Go.Proofs.Ytjcmlloglnkbfaa
