/- Joined texts of this proof: RunOS. -/
import Derived.Deep.CutBlock
import Derived.Deep.CutRange
import Derived.Test.YtflpcdffmpfdpaaGreatDoorB22
set_option maxRecDepth 100000
set_option maxHeartbeats 8000000
namespace Go.Proofs.YtflpcdffmpfdpaaGreatDoor
open Go.RowKit
theorem SeesK.take {α : Type} {enc : α → List Value} {w : World} {lo s n : Nat} {A : Option Addr} {xs : List α} (h : Sees w lo s A n (xs.flatMap enc)) (hs : 0 < s) (henc : ∀ x, (enc x).length = s) (k : Nat) (hk : k ≤ n) : Sees w lo s A k ((xs.take k).flatMap enc) := by
 have hl := h.count hs henc
 refine ⟨by rw [jak _ (fun x _ => henc x), List.length_take, Nat.min_eq_left (by omega)], fun h0 => ?_⟩
 obtain ⟨b, off, e, h1, h2, h3⟩ := h.at' (by omega)
 refine ⟨b, off, e, h1, h2, fun j u hu => h3 j u ?_⟩
 have hj : j < k * s := by
  have := (List.getElem?_eq_some_iff.1 hu).1
  rwa [jak _ (fun x _ => henc x), List.length_take, Nat.min_eq_left (by omega)] at this
 have e1 : xs.flatMap enc = (xs.take k).flatMap enc ++ (xs.drop k).flatMap enc := by rw [← List.flatMap_append, List.take_append_drop]
 rw [e1, List.getElem?_append_left (by rw [jak _ (fun x _ => henc x), List.length_take, Nat.min_eq_left (by omega)]; exact hj)]
 exact hu
theorem SeesK.drop {α : Type} {enc : α → List Value} {w : World} {lo s n b : Nat} {xs : List α} (h : Sees w lo s (some ⟨b, 0, none⟩) n (xs.flatMap enc)) (hs : 0 < s) (henc : ∀ x, (enc x).length = s) (k : Nat) (hk : k ≤ n) : Sees w lo s (some ⟨b, k * s, none⟩) (n - k) ((xs.drop k).flatMap enc) := by
 have hl := h.count hs henc
 refine ⟨by rw [jak _ (fun x _ => henc x), List.length_drop, hl], fun h0 => ?_⟩
 obtain ⟨b', off', e, h1, h2, h3⟩ := h.at' (by omega)
 obtain ⟨rfl, rfl⟩ : b = b' ∧ 0 = off' := by simpa using e
 refine ⟨b, k * s, rfl, h1, h2, fun j u hu => ?_⟩
 have hj : j < (n - k) * s := by
  have := (List.getElem?_eq_some_iff.1 hu).1
  rwa [jak _ (fun x _ => henc x), List.length_drop, hl] at this
 have h4 := h3 (k * s + j) u (by
  have e1 : xs.flatMap enc = (xs.take k).flatMap enc ++ (xs.drop k).flatMap enc := by rw [← List.flatMap_append, List.take_append_drop]
  rw [e1, List.getElem?_append_right (by rw [jak _ (fun x _ => henc x), List.length_take]; have : min k xs.length = k := by omega
                                         rw [this]; omega), jak _ (fun x _ => henc x), List.length_take, show min k xs.length = k by omega, Nat.add_sub_cancel_left, hu])
 rwa [Nat.zero_add] at h4
set_option maxHeartbeats 16000000 in
theorem jfk (A : Option Addr) (n c : Nat) (xs : List RunE) (B : Option Addr) (m e : Nat) (cs : List Int) (limit : Int) (w : World) (hx : SeesC w 0 A n xs) (h0 : 0 < n) (hn : n ≤ 1000) (hi : ∀ x ∈ xs, x.punches.length ≤ 1048576) (hy : Sees w 0 1 B m (jb4 cs)) (hm : m ≤ 1048576) :
  Calls Tryz.prog 84 #[.slice A n c, .slice B m e, .int .i64 limit] w (jbj w (jb9 xs cs limit)) := by
 have K0 := nB w (.cells #[] 3)
 have Q0 := nP w [] 3
 have HL := Lib.hid hx.count
 go_enter Tryz.func84, Tryz.ntmps84
 go_wp2_with fail
 refine (jmc A n c xs B m e cs limit _ (hx.next K0) (by omega) hi (hy.next K0) hm).mono ?_
 cases g : jd8 xs cs limit
 ·rintro e9 w1 ⟨rfl, b1⟩
  have Q1 := Q0.next b1
  clear Q0
  go_wp2_with fail
  go_ret2
  rw [show jb9 xs cs limit = none by simp [jb9, g]]
  exact ⟨_, 0, rfl, Q1.own (Nat.le_refl _) rfl (by simp [maxLen]), jaa K0 b1⟩
 ·rintro e9 w1 ⟨rfl, b1⟩
  have hg : jat xs = true := by
   unfold jd8 at g
   simp only [Bool.and_eq_true] at g
   exact g.1
  obtain ⟨rs, hrs, hx2, hin⟩ := hx
  rw [← hrs] at hi hg
  have HG := Lib.hid (goods hin hi hg)
  have HRM := Lib.hid (show jb9 xs cs limit = some ((jbm (jbt cs limit) rs).map fun r => r.x.runner) by unfold jb9; rw [if_pos g, jm1, hrs])
  have hrl : rs.length = n := by have h1 := HL.out; rw [← hrs, List.length_map] at h1; exact h1
  have HRL0 := Lib.hid hrl
  have h10 : n ≤ 10 := by have := (jdk hg).1; rw [List.length_map] at this; omega
  have K1 := (jaa K0 b1).alloc (jaa K0 b1).size (.cells #[] 160)
  have Q1 := (Q0.next b1).alloc (.cells #[] 160)
  have O1 := jax (ja4 w1 160 7) (show w.heap.size + 1 ≤ w1.heap.size from (Q0.next b1).lt)
  clear g K0 Q0 b1 hin hrs hg hi hrl HL
  go_wp2_with fail
  generalize w1.alloc _ = w2 at *
  go_loopw [9, 10] (fun v iv wr => ∃ (i g c' : Nat), i ≤ n ∧ iv = .int .i64 (i : Int) ∧ v = .slice (some ⟨g, 0, none⟩) i c' ∧ wr.ownsRow (w.heap.size + 1) 160 7 (.slice (some ⟨g, 0, none⟩) i c') i ((jbm (jbt cs limit) (rs.take i)).flatMap RunH.enc) ∧ Blk wr w.heap.size 3 [] ∧ Below w.heap.size w wr) (fun _ iv _ => n - (intOf iv).toNat)
  case atStart => exact ⟨0, _, 0, Nat.zero_le _, rfl, rfl, O1, Q1, K1⟩
  case round =>
   obtain ⟨i, g, c', hi, rfl, rfl, own, OB, K⟩ := hrel
   clear O1 Q1 K1
   by_cases hlt : i < n
   ·have hix : i < rs.length := by rw [HRL0.out]; exact hlt
    have HIN := Lib.hid (show jbm (jbt cs limit) (rs.take (i + 1)) = jlv (jbt cs limit) (jbm (jbt cs limit) (rs.take i)) rs[i] from jjv (jbt cs limit) hix)
    have HYL := Lib.hid (show (jbm (jbt cs limit) (rs.take i)).length = i by rw [jc6, List.length_take]; omega)
    have HYM := Lib.hid (show ∀ y ∈ jbm (jbt cs limit) (rs.take i), GoodH w y from fun y hy => HG.out y (List.mem_of_mem_take ((jfu _).1 hy)))
    have HGX := Lib.hid (HG.out rs[i] (List.getElem_mem hix))
    obtain ⟨bx, ox, rfl, hkx, hx0⟩ := (hx2.next K).elem (enc := RunH.enc) (by decide) (fun _ => rfl) hlt
    have x0 := hx0 0 _ rfl
    have x1 := hx0 1 _ rfl
    have x2 := hx0 2 _ rfl
    have x3 := hx0 3 _ rfl
    have x4 := hx0 4 _ rfl
    have x5 := hx0 5 _ rfl
    have x6 := hx0 6 _ rfl
    clear hx0
    simp only [Nat.add_zero] at x0 x1 x2 x3 x4 x5 x6
    have hbx := World.block_lt_of_cell? wr _ x0
    obtain ⟨ys, hys⟩ : ∃ ys, jbm (jbt cs limit) (rs.take i) = ys := ⟨_, rfl⟩
    rw [hys] at own HIN HYL HYM
    obtain ⟨x, hxi⟩ : ∃ x, rs[i] = x := ⟨_, rfl⟩
    rw [hxi] at HIN HGX
    rw [show rs[i] = x from hxi] at x0 x1 x2 x3 x4 x5 x6
    have HXI := Lib.hid hxi
    clear hys hxi
    obtain ⟨hic, hgb⟩ : i ≤ c' ∧ g < wr.heap.size := by
     rcases jby own with ⟨h, _⟩ | ⟨g', cur, h1, h2, h3, h4, h5, h6⟩
     ·cases h
     ·obtain rfl : g = g' := by simpa using h1
      exact ⟨h5, h3.lt⟩
    go_upto_block 2 with fail
    obtain ⟨wo, hwo⟩ : ∃ wo : World, wo = wr := ⟨_, rfl⟩
    subst hwo
    go_cut [11] from 29 to 46 (fun s11 wx => ∃ k : Nat, k ≤ i ∧ s11 = .int .i64 (k : Int) ∧ Hid (jhj (jbt cs limit) ys x ys.length = k) ∧ Below wo.heap.size wo wx)
    case first =>
     go_wp2_with fail
     go_loopw [11] (fun kv wx => ∃ k : Nat, k ≤ i ∧ kv = .int .i64 (k : Int) ∧ Hid (jhj (jbt cs limit) ys x ys.length = jhj (jbt cs limit) ys x k) ∧ Below wo.heap.size wo wx) (fun kv _ => (intOf kv).toNat)
     case atStart => exact ⟨i, Nat.le_refl _, rfl, Lib.hid (by rw [HYL.out]), Below.refl _ _⟩
     case round =>
      obtain ⟨k, hk, rfl, HP, hb⟩ := hrel
      have HHB := Lib.hid hb
      replace own := jad own hb
      replace K := jaa K hb
      replace OB := OB.next hb
      replace x0 := (hb.cell (p := ⟨bx, ox + i * 7, none⟩) hbx).trans x0
      replace x1 := (hb.cell (p := ⟨bx, ox + i * 7 + 1, none⟩) hbx).trans x1
      replace x2 := (hb.cell (p := ⟨bx, ox + i * 7 + 2, none⟩) hbx).trans x2
      replace x3 := (hb.cell (p := ⟨bx, ox + i * 7 + 3, none⟩) hbx).trans x3
      replace x4 := (hb.cell (p := ⟨bx, ox + i * 7 + 4, none⟩) hbx).trans x4
      replace x5 := (hb.cell (p := ⟨bx, ox + i * 7 + 5, none⟩) hbx).trans x5
      replace x6 := (hb.cell (p := ⟨bx, ox + i * 7 + 6, none⟩) hbx).trans x6
      replace hbx := Nat.lt_of_lt_of_le hbx hb.size
      clear hb
      rcases Nat.eq_zero_or_pos k with hk0 | hk0
      ·have HPE := Lib.hid (show jhj (jbt cs limit) ys x ys.length = k by rw [HP.out, hk0]; rfl)
       have hnot : ¬ 0 < k := by omega
       clear HP hk0
       go_wp2_with fail
       go_quiet (fail)
       have bq := (Quiet.mk wr nq).below wr.heap.size
       have BQ := bq
       replace own := jad own bq
       replace K := jaa K bq
       replace OB := OB.next bq
       replace x0 := (bq.cell (p := ⟨bx, ox + i * 7, none⟩) hbx).trans x0
       replace x1 := (bq.cell (p := ⟨bx, ox + i * 7 + 1, none⟩) hbx).trans x1
       replace x2 := (bq.cell (p := ⟨bx, ox + i * 7 + 2, none⟩) hbx).trans x2
       replace x3 := (bq.cell (p := ⟨bx, ox + i * 7 + 3, none⟩) hbx).trans x3
       replace x4 := (bq.cell (p := ⟨bx, ox + i * 7 + 4, none⟩) hbx).trans x4
       replace x5 := (bq.cell (p := ⟨bx, ox + i * 7 + 5, none⟩) hbx).trans x5
       replace x6 := (bq.cell (p := ⟨bx, ox + i * 7 + 6, none⟩) hbx).trans x6
       replace hbx := Nat.lt_of_lt_of_le hbx bq.size
       clear bq
       generalize wr.drewN nq = wv at *
       replace HHB := Lib.hid (jaa HHB.out BQ)
       go_wp2_with fail
       go_meet
       exact ⟨k, hk, rfl, HPE, HHB.out⟩
      ·obtain ⟨q, hkq⟩ : ∃ q, k = q + 1 := ⟨k - 1, by omega⟩
       have hq : q < ys.length := by rw [HYL.out]; omega
       have HPT := Lib.hid (fun (h : (jbt cs limit) x ys[q] = true) => show jhj (jbt cs limit) ys x ys.length = jhj (jbt cs limit) ys x q by rw [HP.out, hkq, jnp (jbt cs limit) hq h])
       have HPF := Lib.hid (fun (h : (jbt cs limit) x ys[q] = false) => show jhj (jbt cs limit) ys x ys.length = k by rw [HP.out, hkq, jov (jbt cs limit) hq h])
       have hw1 : IntKind.i64.wrap ((k : Int) - 1) = (q : Int) := by rw [IntWalk.i64_in _ (by omega)]; omega
       have hgt : decide ((0 : Int) < (k : Int)) = true := decide_eq_true (by omega)
       have hi2 : (0 : Int) ≤ (q : Int) := by omega
       have hi3 : (q : Int) < (i : Int) := by omega
       have bq := (Quiet.one wr).below wr.heap.size
       replace own := jad own bq
       replace K := jaa K bq
       replace OB := OB.next bq
       replace x0 := (bq.cell (p := ⟨bx, ox + i * 7, none⟩) hbx).trans x0
       replace x1 := (bq.cell (p := ⟨bx, ox + i * 7 + 1, none⟩) hbx).trans x1
       replace x2 := (bq.cell (p := ⟨bx, ox + i * 7 + 2, none⟩) hbx).trans x2
       replace x3 := (bq.cell (p := ⟨bx, ox + i * 7 + 3, none⟩) hbx).trans x3
       replace x4 := (bq.cell (p := ⟨bx, ox + i * 7 + 4, none⟩) hbx).trans x4
       replace x5 := (bq.cell (p := ⟨bx, ox + i * 7 + 5, none⟩) hbx).trans x5
       replace x6 := (bq.cell (p := ⟨bx, ox + i * 7 + 6, none⟩) hbx).trans x6
       replace hbx := Nat.lt_of_lt_of_le hbx bq.size
       replace HHB := Lib.hid (jaa HHB.out bq)
       obtain ⟨by_, oy, ey, hky, hx0⟩ := (Sees.of_own own).elem (enc := RunH.enc) (by decide) (fun _ => rfl) (show q < i by omega)
       injection ey with ey
       injection ey with e1 e2
       subst e1 e2
       have y0 := hx0 0 _ rfl
       have y1 := hx0 1 _ rfl
       have y2 := hx0 2 _ rfl
       have y3 := hx0 3 _ rfl
       have y4 := hx0 4 _ rfl
       have y5 := hx0 5 _ rfl
       have y6 := hx0 6 _ rfl
       clear hx0
       simp only [Nat.zero_add, Nat.add_zero] at y0 y1 y2 y3 y4 y5 y6
       obtain ⟨y, hy9⟩ : ∃ y, ys[q] = y := ⟨_, rfl⟩
       have HGY := Lib.hid (show GoodH w y by rw [← hy9]; exact HYM.out _ (List.getElem_mem hq))
       rw [show ys[q] = y from hy9] at y0 y1 y2 y3 y4 y5 y6
       rw [hy9] at HPT HPF
       have HKQ := Lib.hid hkq
       have HY := Lib.hid hy9
       clear bq HP hy9 hkq
       have hgl := hgb
       go_wp2_with fail
       go_region_held3 (fun w' => w'.cell? ⟨bx, ox + i * 7, none⟩ = some (.int .i64 x.x.runner) ∧ w'.cell? ⟨bx, ox + i * 7 + 1, none⟩ = some (.bool x.x.started) ∧ w'.cell? ⟨bx, ox + i * 7 + 2, none⟩ = some (.bool x.x.out) ∧ w'.cell? ⟨bx, ox + i * 7 + 3, none⟩ = some (.int .i64 x.x.number) ∧ w'.cell? ⟨bx, ox + i * 7 + 4, none⟩ = some (.int .i64 x.x.start) ∧ w'.cell? ⟨bx, ox + i * 7 + 5, none⟩ = some (.int .i64 x.x.finish) ∧ w'.cell? ⟨bx, ox + i * 7 + 6, none⟩ = some (.slice x.A x.n x.c) ∧ w'.cell? ⟨g, q * 7, none⟩ = some (.int .i64 y.x.runner) ∧ w'.cell? ⟨g, q * 7 + 1, none⟩ = some (.bool y.x.started) ∧ w'.cell? ⟨g, q * 7 + 2, none⟩ = some (.bool y.x.out) ∧ w'.cell? ⟨g, q * 7 + 3, none⟩ = some (.int .i64 y.x.number) ∧ w'.cell? ⟨g, q * 7 + 4, none⟩ = some (.int .i64 y.x.start) ∧ w'.cell? ⟨g, q * 7 + 5, none⟩ = some (.int .i64 y.x.finish) ∧ w'.cell? ⟨g, q * 7 + 6, none⟩ = some (.slice y.A y.n y.c)) (go_keep)
        (first
          | (go_at_call 125
             refine (jkg x y B m e cs limit _ (GoodH.below HGX.out K) (GoodH.below HGY.out K) (hy.next K) hm).mono ?_
             rintro e9 wv ⟨rfl, b3⟩
             replace own := jad own b3
             replace K := jaa K b3
             replace OB := OB.next b3
             replace x0 := (b3.cell (p := ⟨bx, ox + i * 7, none⟩) hbx).trans x0
             replace x1 := (b3.cell (p := ⟨bx, ox + i * 7 + 1, none⟩) hbx).trans x1
             replace x2 := (b3.cell (p := ⟨bx, ox + i * 7 + 2, none⟩) hbx).trans x2
             replace x3 := (b3.cell (p := ⟨bx, ox + i * 7 + 3, none⟩) hbx).trans x3
             replace x4 := (b3.cell (p := ⟨bx, ox + i * 7 + 4, none⟩) hbx).trans x4
             replace x5 := (b3.cell (p := ⟨bx, ox + i * 7 + 5, none⟩) hbx).trans x5
             replace x6 := (b3.cell (p := ⟨bx, ox + i * 7 + 6, none⟩) hbx).trans x6
             replace hbx := Nat.lt_of_lt_of_le hbx b3.size
             replace HHB := Lib.hid (jaa HHB.out b3)
             clear y0 y1 y2 y3 y4 y5 y6
             obtain ⟨by_, oy, ey, hky, hx0⟩ := (Sees.of_own own).elem (enc := RunH.enc) (by decide) (fun _ => rfl) (show q < i by omega)
             injection ey with ey
             injection ey with e1 e2
             subst e1 e2
             have y0 := hx0 0 _ rfl
             have y1 := hx0 1 _ rfl
             have y2 := hx0 2 _ rfl
             have y3 := hx0 3 _ rfl
             have y4 := hx0 4 _ rfl
             have y5 := hx0 5 _ rfl
             have y6 := hx0 6 _ rfl
             clear hx0
             simp only [Nat.zero_add, Nat.add_zero] at y0 y1 y2 y3 y4 y5 y6
             rw [show ys[q] = y from HY.out] at y0 y1 y2 y3 y4 y5 y6
             clear b3))
       cases hlt2 : (jbt cs limit) x y
       ·have HPE := Lib.hid (HPF.out hlt2)
        clear HPT HPF y0 y1 y2 y3 y4 y5 y6 hw1 hgt hi2 hi3 hlt2
        have hk1' : k ≤ i := hk
        clear HY HKQ
        go_wp2_with fail
        go_meet
        exact ⟨k, hk, rfl, HPE, HHB.out⟩
       ·have HPE := Lib.hid (HPT.out hlt2)
        have hkq := HKQ.out
        clear HPT HPF y0 y1 y2 y3 y4 y5 y6 hgt hlt2
        go_wp2_with fail
        go_roundw
        case rel => exact ⟨q, by omega, rfl, HPE, HHB.out⟩
        case measure => simp [intOf]; omega
    case rest =>
     obtain ⟨k, hk, rfl, HPE, hb⟩ := hcut
     obtain ⟨wv, hwv⟩ : ∃ wv : World, wv = wc := ⟨_, rfl⟩
     subst hwv
     replace own := jad own hb
     replace K := jaa K hb
     replace OB := OB.next hb
     replace x0 := (hb.cell (p := ⟨bx, ox + i * 7, none⟩) hbx).trans x0
     replace x1 := (hb.cell (p := ⟨bx, ox + i * 7 + 1, none⟩) hbx).trans x1
     replace x2 := (hb.cell (p := ⟨bx, ox + i * 7 + 2, none⟩) hbx).trans x2
     replace x3 := (hb.cell (p := ⟨bx, ox + i * 7 + 3, none⟩) hbx).trans x3
     replace x4 := (hb.cell (p := ⟨bx, ox + i * 7 + 4, none⟩) hbx).trans x4
     replace x5 := (hb.cell (p := ⟨bx, ox + i * 7 + 5, none⟩) hbx).trans x5
     replace x6 := (hb.cell (p := ⟨bx, ox + i * 7 + 6, none⟩) hbx).trans x6
     replace hbx := Nat.lt_of_lt_of_le hbx hb.size
     clear hb
     have HR2 := Lib.hid (show (jlv (jbt cs limit) ys x).flatMap RunH.enc = (ys.take k).flatMap RunH.enc ++ [.int .i64 x.x.runner, .bool x.x.started, .bool x.x.out, .int .i64 x.x.number, .int .i64 x.x.start, .int .i64 x.x.finish, .slice x.A x.n x.c] ++ (ys.drop k).flatMap RunH.enc by
      rw [jmy (jbt cs limit) HPE.out, List.flatMap_append, List.flatMap_cons, List.append_assoc]; rfl)
     have hpre := SeesK.take (Sees.of_own own) (by decide) (fun _ => rfl) k hk
     by_cases hck : c' = k
     ·have hsuf : Sees wv 0 7 (some ⟨g, 0, none⟩) 0 ((ys.drop k).flatMap RunH.enc) := by
       rw [List.drop_of_length_le (by rw [HYL.out]; omega)]; exact Sees.nil _ _ _ _
      have hkc : k = c' := hck.symm
      subst hkc
      clear own
      go_wp2_with fail
      have hSS : ∀ w' : World, Below wv.heap.size wv w' → w'.cell? ⟨bx, ox + i * 7, none⟩ = some (.int .i64 x.x.runner) ∧ w'.cell? ⟨bx, ox + i * 7 + 1, none⟩ = some (.bool x.x.started) ∧ w'.cell? ⟨bx, ox + i * 7 + 2, none⟩ = some (.bool x.x.out) ∧ w'.cell? ⟨bx, ox + i * 7 + 3, none⟩ = some (.int .i64 x.x.number) ∧ w'.cell? ⟨bx, ox + i * 7 + 4, none⟩ = some (.int .i64 x.x.start) ∧ w'.cell? ⟨bx, ox + i * 7 + 5, none⟩ = some (.int .i64 x.x.finish) ∧ w'.cell? ⟨bx, ox + i * 7 + 6, none⟩ = some (.slice x.A x.n x.c) := fun _ h => ⟨(h.cell (p := ⟨bx, ox + i * 7, none⟩) hbx).trans x0, (h.cell (p := ⟨bx, ox + i * 7 + 1, none⟩) hbx).trans x1, (h.cell (p := ⟨bx, ox + i * 7 + 2, none⟩) hbx).trans x2, (h.cell (p := ⟨bx, ox + i * 7 + 3, none⟩) hbx).trans x3, (h.cell (p := ⟨bx, ox + i * 7 + 4, none⟩) hbx).trans x4, (h.cell (p := ⟨bx, ox + i * 7 + 5, none⟩) hbx).trans x5, (h.cell (p := ⟨bx, ox + i * 7 + 6, none⟩) hbx).trans x6⟩
      have J1 := (Quiet.one wv).below wv.heap.size
      refine wp_region_held_drew (S := fun w' => w'.cell? ⟨bx, ox + i * 7, none⟩ = some (.int .i64 x.x.runner) ∧ w'.cell? ⟨bx, ox + i * 7 + 1, none⟩ = some (.bool x.x.started) ∧ w'.cell? ⟨bx, ox + i * 7 + 2, none⟩ = some (.bool x.x.out) ∧ w'.cell? ⟨bx, ox + i * 7 + 3, none⟩ = some (.int .i64 x.x.number) ∧ w'.cell? ⟨bx, ox + i * 7 + 4, none⟩ = some (.int .i64 x.x.start) ∧ w'.cell? ⟨bx, ox + i * 7 + 5, none⟩ = some (.int .i64 x.x.finish) ∧ w'.cell? ⟨bx, ox + i * 7 + 6, none⟩ = some (.slice x.A x.n x.c)) (by kernel_rfl) (hSS _ J1) (fun hH => ?_)
      generalize wv.drew = wi1 at *
      refine wQ 1 ?_
      refine wQ 2 ?_
      refine wQ 3 ?_
      refine wQ 5 ?_
      refine wQ 6 ?_
      refine wQ 7 ?_
      refine wQ 8 ?_
      refine wQ 11 ?_
      refine wQ 12 ?_
      refine wQ 13 ?_
      refine wR (rs := [0, 9]) (by kernel_rfl) (by simp) ?_
      refine aC rfl (fun K hK => ?_) ?_
      ·go_simp
       have U2 := nB wi1 (.cells #[] 160)
       have J2 := jaa J1 U2
       refine hK.out _ _ (hSS _ J2) (fun hH => ?_)
       clear hK K
       (try simp only [Act.put, pX])
       have own := jax (ja4 wi1 160 7) (show wv.heap.size ≤ wi1.heap.size from J1.size)
       generalize wi1.alloc _ = wi2 at *
       have ownP := own
       refine wR (rs := [4, 9]) (by kernel_rfl) (by simp) ?_
       refine aC rfl (fun K hK => ?_) ?_
       ·refine jas rfl _ _ _ (by rfl) Tryz.underlying115 jah rfl (by decide) (by rfl) own (by rfl) (m := k) (hpre.next J2) (jb8 _) (by omega) (by omega) (by decide) (by have := J2.size; omega) ?_
        intro A3 c3 wi3 own3 o3 b3 q3
        have J3 := J2.trans b3
        refine hK.out _ _ (hSS _ J3) (fun hH => ?_)
        clear hK K
        (try simp only [Act.put, pX])
        (try simp only [Nat.zero_add])
        simp only [Nat.zero_add, List.nil_append] at own3
        replace own := own3
        clear own3
        replace ownP := own
        refine wR (rs := [9]) (by kernel_rfl) (by simp) ?_
        refine aC rfl (fun K hK => ?_) aN
        go_simp
        have U4 := nB wi3 (.cells #[x.x.runner, x.x.started, x.x.out, x.x.number, x.x.start, x.x.finish, .slice x.A x.n x.c] 160)
        have J4 := jaa J3 U4
        refine hK.out _ _ (hSS _ J4) (fun hH => ?_)
        clear hK K
        (try simp only [Act.put, pX])
        replace own := jad own U4
        have box := nP wi3 [x.x.runner, x.x.started, x.x.out, x.x.number, x.x.start, x.x.finish, .slice x.A x.n x.c] 160
        have lb := box.lt
        have hne : ∀ b, jaj A3 b → b ≠ wi3.heap.size := fun b hb => by have := (jai ownP hb).2; omega
        generalize wi3.alloc _ = wi4 at *
        replace ownP := own
        refine wR (rs := [10]) (by kernel_rfl) (by simp) ?_
        refine aC rfl (fun K hK => ?_) aN
        refine jas rfl _ _ _ (by rfl) Tryz.underlying115 jah rfl (by decide) (by rfl) own (by rfl) (m := 1) (box.sees (s := 7) (Nat.zero_le _) rfl) (by simp [Value.oneCell']) (by omega) (by omega) (by decide) (by have := J4.size; omega) ?_
        intro A5 c5 wi5 own5 o5 b5 q5
        have J5 := J4.trans b5
        refine hK.out _ _ (hSS _ J5) (fun hH => ?_)
        clear hK K
        (try simp only [Act.put, pX])
        replace own := own5
        clear own5
        refine wR (rs := [14]) (by kernel_rfl) (by simp) ?_
        refine aC rfl (fun K hK => ?_) aN
        refine jas rfl _ _ _ (by rfl) Tryz.underlying115 jah rfl (by decide) (by rfl) own (by rfl) (m := 0) (hsuf.next J5) (jb8 _) (by omega) (by omega) (by decide) (by have := J5.size; omega) ?_
        intro A6 c6 wi6 own6 o6 b6 q6
        have J6 := J5.trans b6
        refine hK.out _ _ (hSS _ J6) (fun hH => ?_)
        clear hK K
        (try simp only [Act.put, pX])
        replace own := own6
        clear own6
        refine wQ 15 ?_
        refine wD (by kernel_rfl) ?_ _
        go_wp2_with fail
        rw [show k + 1 + 0 = i + 1 by omega] at own
        obtain ⟨g4, cap4, hv4, -, -⟩ := own.form (Nat.succ_pos _)
        injection hv4 with hA4 _ _
        subst hA4
        go_roundw
        case rel => exact ⟨i + 1, g4, _, by omega, by go_num, by congr 1; omega, by rw [HIN.out, HR2.out]; exact jax own OB.lt, OB.next J6, jaa K J6⟩
        case measure => simp [intOf]; omega
       refine aC rfl (fun K hK => ?_) aN
       ·go_simp
        have U3 := nB wi2 (.cells #[x.x.runner, x.x.started, x.x.out, x.x.number, x.x.start, x.x.finish, .slice x.A x.n x.c] 160)
        have J3 := jaa J2 U3
        refine hK.out _ _ (hSS _ J3) (fun hH => ?_)
        clear hK K
        (try simp only [Act.put, pX])
        replace own := jad own U3
        have box := nP wi2 [x.x.runner, x.x.started, x.x.out, x.x.number, x.x.start, x.x.finish, .slice x.A x.n x.c] 160
        have lb := box.lt
        have hne : ∀ b, jaj (some ⟨wi1.heap.size, 0, none⟩) b → b ≠ wi2.heap.size := fun b hb => by have := (jai ownP hb).2; omega
        generalize wi2.alloc _ = wi3 at *
        replace ownP := own
        refine wR (rs := [4]) (by kernel_rfl) (by simp) ?_
        refine aC rfl (fun K hK => ?_) aN
        refine jas rfl _ _ _ (by rfl) Tryz.underlying115 jah rfl (by decide) (by rfl) own (by rfl) (m := k) (hpre.next J3) (jb8 _) (by omega) (by omega) (by decide) (by have := J3.size; omega) ?_
        intro A4 c4 wi4 own4 o4 b4 q4
        have J4 := J3.trans b4
        refine hK.out _ _ (hSS _ J4) (fun hH => ?_)
        clear hK K
        (try simp only [Act.put, pX])
        (try simp only [Nat.zero_add])
        replace box := box.only o4 (fun h => hne _ h rfl)
        simp only [Nat.zero_add, List.nil_append] at own4
        replace own := own4
        clear own4
        replace ownP := own
        refine wR (rs := [10]) (by kernel_rfl) (by simp) ?_
        refine aC rfl (fun K hK => ?_) aN
        refine jas rfl _ _ _ (by rfl) Tryz.underlying115 jah rfl (by decide) (by rfl) own (by rfl) (m := 1) (box.sees (s := 7) (Nat.zero_le _) rfl) (by simp [Value.oneCell']) (by omega) (by omega) (by decide) (by have := J4.size; omega) ?_
        intro A5 c5 wi5 own5 o5 b5 q5
        have J5 := J4.trans b5
        refine hK.out _ _ (hSS _ J5) (fun hH => ?_)
        clear hK K
        (try simp only [Act.put, pX])
        replace own := own5
        clear own5
        refine wR (rs := [14]) (by kernel_rfl) (by simp) ?_
        refine aC rfl (fun K hK => ?_) aN
        refine jas rfl _ _ _ (by rfl) Tryz.underlying115 jah rfl (by decide) (by rfl) own (by rfl) (m := 0) (hsuf.next J5) (jb8 _) (by omega) (by omega) (by decide) (by have := J5.size; omega) ?_
        intro A6 c6 wi6 own6 o6 b6 q6
        have J6 := J5.trans b6
        refine hK.out _ _ (hSS _ J6) (fun hH => ?_)
        clear hK K
        (try simp only [Act.put, pX])
        replace own := own6
        clear own6
        refine wQ 15 ?_
        refine wD (by kernel_rfl) ?_ _
        go_wp2_with fail
        rw [show k + 1 + 0 = i + 1 by omega] at own
        obtain ⟨g4, cap4, hv4, -, -⟩ := own.form (Nat.succ_pos _)
        injection hv4 with hA4 _ _
        subst hA4
        go_roundw
        case rel => exact ⟨i + 1, g4, _, by omega, by go_num, by congr 1; omega, by rw [HIN.out, HR2.out]; exact jax own OB.lt, OB.next J6, jaa K J6⟩
        case measure => simp [intOf]; omega
      refine aC rfl (fun K hK => ?_) aN
      ·go_simp
       have U2 := nB wi1 (.cells #[x.x.runner, x.x.started, x.x.out, x.x.number, x.x.start, x.x.finish, .slice x.A x.n x.c] 160)
       have J2 := jaa J1 U2
       refine hK.out _ _ (hSS _ J2) (fun hH => ?_)
       clear hK K
       (try simp only [Act.put, pX])
       have box := nP wi1 [x.x.runner, x.x.started, x.x.out, x.x.number, x.x.start, x.x.finish, .slice x.A x.n x.c] 160
       have lb := box.lt
       generalize wi1.alloc _ = wi2 at *
       refine wR (rs := [0]) (by kernel_rfl) (by simp) ?_
       refine aC rfl (fun K hK => ?_) aN
       go_simp
       have U3 := nB wi2 (.cells #[] 160)
       have J3 := jaa J2 U3
       refine hK.out _ _ (hSS _ J3) (fun hH => ?_)
       clear hK K
       (try simp only [Act.put, pX])
       replace box := box.next U3
       have own := jax (ja4 wi2 160 7) (show wv.heap.size ≤ wi2.heap.size from J2.size)
       have hne : ∀ b, jaj (some ⟨wi2.heap.size, 0, none⟩) b → b ≠ wi1.heap.size := fun b hb => by have h4 : wi2.heap.size = b := (by simpa [jaj, Value.ownBlock] using hb); have h5 := lb; omega
       generalize wi2.alloc _ = wi3 at *
       have ownP := own
       refine wR (rs := [4]) (by kernel_rfl) (by simp) ?_
       refine aC rfl (fun K hK => ?_) aN
       refine jas rfl _ _ _ (by rfl) Tryz.underlying115 jah rfl (by decide) (by rfl) own (by rfl) (m := k) (hpre.next J3) (jb8 _) (by omega) (by omega) (by decide) (by have := J3.size; omega) ?_
       intro A4 c4 wi4 own4 o4 b4 q4
       have J4 := J3.trans b4
       refine hK.out _ _ (hSS _ J4) (fun hH => ?_)
       clear hK K
       (try simp only [Act.put, pX])
       (try simp only [Nat.zero_add])
       replace box := box.only o4 (fun h => hne _ h rfl)
       simp only [Nat.zero_add, List.nil_append] at own4
       replace own := own4
       clear own4
       replace ownP := own
       refine wR (rs := [10]) (by kernel_rfl) (by simp) ?_
       refine aC rfl (fun K hK => ?_) aN
       refine jas rfl _ _ _ (by rfl) Tryz.underlying115 jah rfl (by decide) (by rfl) own (by rfl) (m := 1) (box.sees (s := 7) (Nat.zero_le _) rfl) (by simp [Value.oneCell']) (by omega) (by omega) (by decide) (by have := J4.size; omega) ?_
       intro A5 c5 wi5 own5 o5 b5 q5
       have J5 := J4.trans b5
       refine hK.out _ _ (hSS _ J5) (fun hH => ?_)
       clear hK K
       (try simp only [Act.put, pX])
       replace own := own5
       clear own5
       refine wR (rs := [14]) (by kernel_rfl) (by simp) ?_
       refine aC rfl (fun K hK => ?_) aN
       refine jas rfl _ _ _ (by rfl) Tryz.underlying115 jah rfl (by decide) (by rfl) own (by rfl) (m := 0) (hsuf.next J5) (jb8 _) (by omega) (by omega) (by decide) (by have := J5.size; omega) ?_
       intro A6 c6 wi6 own6 o6 b6 q6
       have J6 := J5.trans b6
       refine hK.out _ _ (hSS _ J6) (fun hH => ?_)
       clear hK K
       (try simp only [Act.put, pX])
       replace own := own6
       clear own6
       refine wQ 15 ?_
       refine wD (by kernel_rfl) ?_ _
       go_wp2_with fail
       rw [show k + 1 + 0 = i + 1 by omega] at own
       obtain ⟨g4, cap4, hv4, -, -⟩ := own.form (Nat.succ_pos _)
       injection hv4 with hA4 _ _
       subst hA4
       go_roundw
       case rel => exact ⟨i + 1, g4, _, by omega, by go_num, by congr 1; omega, by rw [HIN.out, HR2.out]; exact jax own OB.lt, OB.next J6, jaa K J6⟩
       case measure => simp [intOf]; omega
     ·have hsuf := SeesK.drop (Sees.of_own own) (by decide) (fun _ => rfl) k hk
      have hk1 : k ≤ c' := by omega
      clear own
      go_wp2_with fail
      have hSS : ∀ w' : World, Below wv.heap.size wv w' → w'.cell? ⟨bx, ox + i * 7, none⟩ = some (.int .i64 x.x.runner) ∧ w'.cell? ⟨bx, ox + i * 7 + 1, none⟩ = some (.bool x.x.started) ∧ w'.cell? ⟨bx, ox + i * 7 + 2, none⟩ = some (.bool x.x.out) ∧ w'.cell? ⟨bx, ox + i * 7 + 3, none⟩ = some (.int .i64 x.x.number) ∧ w'.cell? ⟨bx, ox + i * 7 + 4, none⟩ = some (.int .i64 x.x.start) ∧ w'.cell? ⟨bx, ox + i * 7 + 5, none⟩ = some (.int .i64 x.x.finish) ∧ w'.cell? ⟨bx, ox + i * 7 + 6, none⟩ = some (.slice x.A x.n x.c) := fun _ h => ⟨(h.cell (p := ⟨bx, ox + i * 7, none⟩) hbx).trans x0, (h.cell (p := ⟨bx, ox + i * 7 + 1, none⟩) hbx).trans x1, (h.cell (p := ⟨bx, ox + i * 7 + 2, none⟩) hbx).trans x2, (h.cell (p := ⟨bx, ox + i * 7 + 3, none⟩) hbx).trans x3, (h.cell (p := ⟨bx, ox + i * 7 + 4, none⟩) hbx).trans x4, (h.cell (p := ⟨bx, ox + i * 7 + 5, none⟩) hbx).trans x5, (h.cell (p := ⟨bx, ox + i * 7 + 6, none⟩) hbx).trans x6⟩
      have J1 := (Quiet.one wv).below wv.heap.size
      refine wp_region_held_drew (S := fun w' => w'.cell? ⟨bx, ox + i * 7, none⟩ = some (.int .i64 x.x.runner) ∧ w'.cell? ⟨bx, ox + i * 7 + 1, none⟩ = some (.bool x.x.started) ∧ w'.cell? ⟨bx, ox + i * 7 + 2, none⟩ = some (.bool x.x.out) ∧ w'.cell? ⟨bx, ox + i * 7 + 3, none⟩ = some (.int .i64 x.x.number) ∧ w'.cell? ⟨bx, ox + i * 7 + 4, none⟩ = some (.int .i64 x.x.start) ∧ w'.cell? ⟨bx, ox + i * 7 + 5, none⟩ = some (.int .i64 x.x.finish) ∧ w'.cell? ⟨bx, ox + i * 7 + 6, none⟩ = some (.slice x.A x.n x.c)) (by kernel_rfl) (hSS _ J1) (fun hH => ?_)
      generalize wv.drew = wi1 at *
      refine wQ 1 ?_
      refine wQ 2 ?_
      refine wQ 3 ?_
      refine wQ 5 ?_
      refine wQ 6 ?_
      refine wQ 7 ?_
      refine wQ 8 ?_
      refine wQ 11 ?_
      refine wQ 12 ?_
      refine wQ 13 ?_
      refine wR (rs := [0, 9]) (by kernel_rfl) (by simp) ?_
      refine aC rfl (fun K hK => ?_) ?_
      ·go_simp
       have U2 := nB wi1 (.cells #[] 160)
       have J2 := jaa J1 U2
       refine hK.out _ _ (hSS _ J2) (fun hH => ?_)
       clear hK K
       (try simp only [Act.put, pX])
       have own := jax (ja4 wi1 160 7) (show wv.heap.size ≤ wi1.heap.size from J1.size)
       generalize wi1.alloc _ = wi2 at *
       have ownP := own
       refine wR (rs := [4, 9]) (by kernel_rfl) (by simp) ?_
       refine aC rfl (fun K hK => ?_) ?_
       ·refine jas rfl _ _ _ (by rfl) Tryz.underlying115 jah rfl (by decide) (by rfl) own (by rfl) (m := k) (hpre.next J2) (jb8 _) (by omega) (by omega) (by decide) (by have := J2.size; omega) ?_
        intro A3 c3 wi3 own3 o3 b3 q3
        have J3 := J2.trans b3
        refine hK.out _ _ (hSS _ J3) (fun hH => ?_)
        clear hK K
        (try simp only [Act.put, pX])
        (try simp only [Nat.zero_add])
        simp only [Nat.zero_add, List.nil_append] at own3
        replace own := own3
        clear own3
        replace ownP := own
        refine wR (rs := [9]) (by kernel_rfl) (by simp) ?_
        refine aC rfl (fun K hK => ?_) aN
        go_simp
        have U4 := nB wi3 (.cells #[x.x.runner, x.x.started, x.x.out, x.x.number, x.x.start, x.x.finish, .slice x.A x.n x.c] 160)
        have J4 := jaa J3 U4
        refine hK.out _ _ (hSS _ J4) (fun hH => ?_)
        clear hK K
        (try simp only [Act.put, pX])
        replace own := jad own U4
        have box := nP wi3 [x.x.runner, x.x.started, x.x.out, x.x.number, x.x.start, x.x.finish, .slice x.A x.n x.c] 160
        have lb := box.lt
        have hne : ∀ b, jaj A3 b → b ≠ wi3.heap.size := fun b hb => by have := (jai ownP hb).2; omega
        generalize wi3.alloc _ = wi4 at *
        replace ownP := own
        refine wR (rs := [10]) (by kernel_rfl) (by simp) ?_
        refine aC rfl (fun K hK => ?_) aN
        refine jas rfl _ _ _ (by rfl) Tryz.underlying115 jah rfl (by decide) (by rfl) own (by rfl) (m := 1) (box.sees (s := 7) (Nat.zero_le _) rfl) (by simp [Value.oneCell']) (by omega) (by omega) (by decide) (by have := J4.size; omega) ?_
        intro A5 c5 wi5 own5 o5 b5 q5
        have J5 := J4.trans b5
        refine hK.out _ _ (hSS _ J5) (fun hH => ?_)
        clear hK K
        (try simp only [Act.put, pX])
        replace own := own5
        clear own5
        refine wR (rs := [14]) (by kernel_rfl) (by simp) ?_
        refine aC rfl (fun K hK => ?_) aN
        refine jas rfl _ _ _ (by rfl) Tryz.underlying115 jah rfl (by decide) (by rfl) own (by rfl) (m := (i - k)) (hsuf.next J5) (jb8 _) (by omega) (by omega) (by decide) (by have := J5.size; omega) ?_
        intro A6 c6 wi6 own6 o6 b6 q6
        have J6 := J5.trans b6
        refine hK.out _ _ (hSS _ J6) (fun hH => ?_)
        clear hK K
        (try simp only [Act.put, pX])
        replace own := own6
        clear own6
        refine wQ 15 ?_
        refine wD (by kernel_rfl) ?_ _
        go_wp2_with fail
        rw [show k + 1 + (i - k) = i + 1 by omega] at own
        obtain ⟨g4, cap4, hv4, -, -⟩ := own.form (Nat.succ_pos _)
        injection hv4 with hA4 _ _
        subst hA4
        go_roundw
        case rel => exact ⟨i + 1, g4, _, by omega, by go_num, by congr 1; omega, by rw [HIN.out, HR2.out]; exact jax own OB.lt, OB.next J6, jaa K J6⟩
        case measure => simp [intOf]; omega
       refine aC rfl (fun K hK => ?_) aN
       ·go_simp
        have U3 := nB wi2 (.cells #[x.x.runner, x.x.started, x.x.out, x.x.number, x.x.start, x.x.finish, .slice x.A x.n x.c] 160)
        have J3 := jaa J2 U3
        refine hK.out _ _ (hSS _ J3) (fun hH => ?_)
        clear hK K
        (try simp only [Act.put, pX])
        replace own := jad own U3
        have box := nP wi2 [x.x.runner, x.x.started, x.x.out, x.x.number, x.x.start, x.x.finish, .slice x.A x.n x.c] 160
        have lb := box.lt
        have hne : ∀ b, jaj (some ⟨wi1.heap.size, 0, none⟩) b → b ≠ wi2.heap.size := fun b hb => by have := (jai ownP hb).2; omega
        generalize wi2.alloc _ = wi3 at *
        replace ownP := own
        refine wR (rs := [4]) (by kernel_rfl) (by simp) ?_
        refine aC rfl (fun K hK => ?_) aN
        refine jas rfl _ _ _ (by rfl) Tryz.underlying115 jah rfl (by decide) (by rfl) own (by rfl) (m := k) (hpre.next J3) (jb8 _) (by omega) (by omega) (by decide) (by have := J3.size; omega) ?_
        intro A4 c4 wi4 own4 o4 b4 q4
        have J4 := J3.trans b4
        refine hK.out _ _ (hSS _ J4) (fun hH => ?_)
        clear hK K
        (try simp only [Act.put, pX])
        (try simp only [Nat.zero_add])
        replace box := box.only o4 (fun h => hne _ h rfl)
        simp only [Nat.zero_add, List.nil_append] at own4
        replace own := own4
        clear own4
        replace ownP := own
        refine wR (rs := [10]) (by kernel_rfl) (by simp) ?_
        refine aC rfl (fun K hK => ?_) aN
        refine jas rfl _ _ _ (by rfl) Tryz.underlying115 jah rfl (by decide) (by rfl) own (by rfl) (m := 1) (box.sees (s := 7) (Nat.zero_le _) rfl) (by simp [Value.oneCell']) (by omega) (by omega) (by decide) (by have := J4.size; omega) ?_
        intro A5 c5 wi5 own5 o5 b5 q5
        have J5 := J4.trans b5
        refine hK.out _ _ (hSS _ J5) (fun hH => ?_)
        clear hK K
        (try simp only [Act.put, pX])
        replace own := own5
        clear own5
        refine wR (rs := [14]) (by kernel_rfl) (by simp) ?_
        refine aC rfl (fun K hK => ?_) aN
        refine jas rfl _ _ _ (by rfl) Tryz.underlying115 jah rfl (by decide) (by rfl) own (by rfl) (m := (i - k)) (hsuf.next J5) (jb8 _) (by omega) (by omega) (by decide) (by have := J5.size; omega) ?_
        intro A6 c6 wi6 own6 o6 b6 q6
        have J6 := J5.trans b6
        refine hK.out _ _ (hSS _ J6) (fun hH => ?_)
        clear hK K
        (try simp only [Act.put, pX])
        replace own := own6
        clear own6
        refine wQ 15 ?_
        refine wD (by kernel_rfl) ?_ _
        go_wp2_with fail
        rw [show k + 1 + (i - k) = i + 1 by omega] at own
        obtain ⟨g4, cap4, hv4, -, -⟩ := own.form (Nat.succ_pos _)
        injection hv4 with hA4 _ _
        subst hA4
        go_roundw
        case rel => exact ⟨i + 1, g4, _, by omega, by go_num, by congr 1; omega, by rw [HIN.out, HR2.out]; exact jax own OB.lt, OB.next J6, jaa K J6⟩
        case measure => simp [intOf]; omega
      refine aC rfl (fun K hK => ?_) aN
      ·go_simp
       have U2 := nB wi1 (.cells #[x.x.runner, x.x.started, x.x.out, x.x.number, x.x.start, x.x.finish, .slice x.A x.n x.c] 160)
       have J2 := jaa J1 U2
       refine hK.out _ _ (hSS _ J2) (fun hH => ?_)
       clear hK K
       (try simp only [Act.put, pX])
       have box := nP wi1 [x.x.runner, x.x.started, x.x.out, x.x.number, x.x.start, x.x.finish, .slice x.A x.n x.c] 160
       have lb := box.lt
       generalize wi1.alloc _ = wi2 at *
       refine wR (rs := [0]) (by kernel_rfl) (by simp) ?_
       refine aC rfl (fun K hK => ?_) aN
       go_simp
       have U3 := nB wi2 (.cells #[] 160)
       have J3 := jaa J2 U3
       refine hK.out _ _ (hSS _ J3) (fun hH => ?_)
       clear hK K
       (try simp only [Act.put, pX])
       replace box := box.next U3
       have own := jax (ja4 wi2 160 7) (show wv.heap.size ≤ wi2.heap.size from J2.size)
       have hne : ∀ b, jaj (some ⟨wi2.heap.size, 0, none⟩) b → b ≠ wi1.heap.size := fun b hb => by have h4 : wi2.heap.size = b := (by simpa [jaj, Value.ownBlock] using hb); have h5 := lb; omega
       generalize wi2.alloc _ = wi3 at *
       have ownP := own
       refine wR (rs := [4]) (by kernel_rfl) (by simp) ?_
       refine aC rfl (fun K hK => ?_) aN
       refine jas rfl _ _ _ (by rfl) Tryz.underlying115 jah rfl (by decide) (by rfl) own (by rfl) (m := k) (hpre.next J3) (jb8 _) (by omega) (by omega) (by decide) (by have := J3.size; omega) ?_
       intro A4 c4 wi4 own4 o4 b4 q4
       have J4 := J3.trans b4
       refine hK.out _ _ (hSS _ J4) (fun hH => ?_)
       clear hK K
       (try simp only [Act.put, pX])
       (try simp only [Nat.zero_add])
       replace box := box.only o4 (fun h => hne _ h rfl)
       simp only [Nat.zero_add, List.nil_append] at own4
       replace own := own4
       clear own4
       replace ownP := own
       refine wR (rs := [10]) (by kernel_rfl) (by simp) ?_
       refine aC rfl (fun K hK => ?_) aN
       refine jas rfl _ _ _ (by rfl) Tryz.underlying115 jah rfl (by decide) (by rfl) own (by rfl) (m := 1) (box.sees (s := 7) (Nat.zero_le _) rfl) (by simp [Value.oneCell']) (by omega) (by omega) (by decide) (by have := J4.size; omega) ?_
       intro A5 c5 wi5 own5 o5 b5 q5
       have J5 := J4.trans b5
       refine hK.out _ _ (hSS _ J5) (fun hH => ?_)
       clear hK K
       (try simp only [Act.put, pX])
       replace own := own5
       clear own5
       refine wR (rs := [14]) (by kernel_rfl) (by simp) ?_
       refine aC rfl (fun K hK => ?_) aN
       refine jas rfl _ _ _ (by rfl) Tryz.underlying115 jah rfl (by decide) (by rfl) own (by rfl) (m := (i - k)) (hsuf.next J5) (jb8 _) (by omega) (by omega) (by decide) (by have := J5.size; omega) ?_
       intro A6 c6 wi6 own6 o6 b6 q6
       have J6 := J5.trans b6
       refine hK.out _ _ (hSS _ J6) (fun hH => ?_)
       clear hK K
       (try simp only [Act.put, pX])
       replace own := own6
       clear own6
       refine wQ 15 ?_
       refine wD (by kernel_rfl) ?_ _
       go_wp2_with fail
       rw [show k + 1 + (i - k) = i + 1 by omega] at own
       obtain ⟨g4, cap4, hv4, -, -⟩ := own.form (Nat.succ_pos _)
       injection hv4 with hA4 _ _
       subst hA4
       go_roundw
       case rel => exact ⟨i + 1, g4, _, by omega, by go_num, by congr 1; omega, by rw [HIN.out, HR2.out]; exact jax own OB.lt, OB.next J6, jaa K J6⟩
       case measure => simp [intOf]; omega
   ·obtain rfl : i = n := by omega
    rw [List.take_of_length_le (by rw [HRL0.out]; exact Nat.le_refl _)] at own
    obtain ⟨R, hR⟩ : ∃ R, jbm (jbt cs limit) rs = R := ⟨_, rfl⟩
    rw [hR] at own HRM
    have HRL := Lib.hid (show R.length = i by rw [← hR, jc6]; exact HRL0.out)
    have hO := OB.own (base := w.heap.size) (s := 1) (n := 0) (Nat.le_refl _) rfl (by simp [maxLen])
    have hne : ¬ jaj (some ⟨w.heap.size, 0, none⟩) g := fun hb => by
     have h5 : w.heap.size = g := (by simpa [jaj, Value.ownBlock] using hb)
     have h6 := (jai own (b := g) (by simp [jaj, Value.ownBlock])).1
     omega
    clear hR
    go_wp2_with fail
    obtain ⟨wo, hwo⟩ : ∃ wo : World, wo = wr := ⟨_, rfl⟩
    subst hwo
    go_loopw [8, 12] (fun v iv wr => ∃ (t : Nat) (A' : Option Addr) (cz : Nat), t ≤ i ∧ iv = .int .i64 (t : Int) ∧ v = .slice A' t cz ∧ wr.ownsRow w.heap.size 3 1 (.slice A' t cz) t (jb4 ((R.take t).map fun r => r.x.runner)) ∧ wr.ownsRow (w.heap.size + 1) 160 7 (.slice (some ⟨g, 0, none⟩) i c') i (R.flatMap RunH.enc) ∧ (¬ jaj A' g) ∧ wo.heap.size ≤ wr.heap.size ∧ Below w.heap.size w wr) (fun _ iv _ => i - (intOf iv).toNat)
    case atStart => exact ⟨0, _, 0, Nat.zero_le _, rfl, rfl, hO, own, hne, Nat.le_refl _, K⟩
    case round =>
     obtain ⟨t, A', cz, ht, rfl, rfl, ow, orow, hap, hzr, hb⟩ := hrel
     by_cases hlt3 : t < i
     ·have htR : t < R.length := by rw [HRL.out]; exact hlt3
      obtain ⟨bb, off, ebb, hkx, hx0⟩ := (Sees.of_own orow).elem (enc := RunH.enc) (by decide) (fun _ => rfl) hlt3
      injection ebb with ebb
      injection ebb with e1 e2
      subst e1 e2
      have x0 := hx0 0 _ rfl
      clear hx0
      simp only [Nat.zero_add, Nat.add_zero] at x0
      have HN := Lib.hid (jpo R htR)
      have hblt := World.block_lt_of_cell? wr _ x0
      have hnp : (t : Int) < (i : Int) := by omega
      have hgz := (jai orow (b := g) (by simp [jaj, Value.ownBlock])).2
      have hzo := OB.lt
      go_wp2_with (at_builtin; go_loud (refine jac rfl _ _ _ rfl Tryz.underlying90 ja8 rfl (by decide) rfl ow rfl (by simp) (by rfl) (by rfl) (by omega) (by decide) (by omega) ?_); intro A9 c9 w9 o9 h9 b9 q9)
      go_roundw
      case rel => exact ⟨t + 1, A9, c9, by omega, by go_num, rfl, by rw [HN.out]; simpa [jb4] using o9, jbc orow h9 (fun b' hb' hb2 => by have h5 : g = b' := (by simpa [jaj, Value.ownBlock] using hb'); subst h5; exact hap hb2), (fun hb' => (q9 g hb').elim hap (fun h5 => by omega)), by have h8 := h9.size; omega, hb.trans (b9.mono (by omega))⟩
      case measure => simp [intOf]; omega
     ·obtain rfl : t = i := by omega
      go_wp2_with fail
      go_ret2
      rw [HRM.out]
      have e1 : R.take t = R := List.take_of_length_le (by rw [HRL.out]; exact Nat.le_refl _)
      rw [e1] at ow
      have e2 : (R.map fun r => r.x.runner).length = t := by rw [List.length_map]; exact HRL.out
      exact ⟨A', cz, by show Ending.returned (.tuple #[.slice A' t cz, .bool true]) = .returned (.tuple #[.slice A' (R.map fun r => r.x.runner).length cz, .bool true]); rw [e2], by show wr.ownsRow w.heap.size 3 1 (.slice A' (R.map fun r => r.x.runner).length cz) (R.map fun r => r.x.runner).length (jb4 (R.map fun r => r.x.runner)); rw [e2]; exact ow, hb⟩
end Go.Proofs.YtflpcdffmpfdpaaGreatDoor
