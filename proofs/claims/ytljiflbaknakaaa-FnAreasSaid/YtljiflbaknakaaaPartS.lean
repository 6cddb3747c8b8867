/- LargestPart, as the reference has it. -/
import Derived.Test.YtljiflbaknakaaaPartF
import Derived.Test.YtljiflbaknakaaaWay2
import Derived.Test.YtljiflbaknakaaaPut
namespace Go.Proofs.Ytljiflbaknakaaa
open Go.RowKit

theorem next_beside {m : MapV} {xs : List Area} {day : Int} (hM : isMapB m = true) {c x : Int} (hc : 0 ≤ c ∧ c < m.cost.length) : x ∈ nextL (shutM m xs day) c ↔ x ∈ besideL m.width m.height c ∧ passB (shutM m xs day) x := by
  obtain ⟨k1, k2, k3⟩ := mapB_size hM
  have hw := (mapB_sides hM).1
  rw [mem_nextL, shutM_len]
  constructor
  · rintro ⟨h1, h2, h3⟩
    exact ⟨(beside_gap _ _ _ _ hw (by omega) (by omega)).1 h3, h2⟩
  · rintro ⟨h1, h2⟩
    have h3 := beside_in _ _ _ _ hw (by omega) h1
    exact ⟨by omega, h2, (beside_gap _ _ _ _ hw (by omega) h3).2 h1⟩
theorem near_shut (m : MapV) (xs : List Area) (day : Int) : Near m.cost.length (passB (shutM m xs day)) (nextL (shutM m xs day)) := by
  have h := near_map (shutM m xs day)
  rwa [shutM_len] at h
theorem hasI_not {xs : List Int} {v : Int} (h : v ∉ xs) : hasI xs v = false := by
  cases e : hasI xs v
  · rfl
  · exact absurd ((hasI_mem xs v).1 e) h

set_option maxRecDepth 100000 in
set_option maxHeartbeats 8000000 in
theorem specLargestPart_any (A1 A2 : Option Addr) (n1 n2 c1 c2 : Nat) (m : MapV) (A : Option Addr) (n c : Nat) (xs : List Area) (day : Int) (w : World) (hm : SeesMap w A1 n1 A2 n2 m) (hn' : n1 ≤ 1048576 ∧ n2 ≤ 1048576) (hx : SeesN areaSh w 0 A n xs) (hn : n ≤ 1048576) (hi : ∀ x ∈ xs, x.cnt ≤ 1048576) :
    Calls Try.prog 50 #[.agg #[.int .i64 m.width, .int .i64 m.height, .slice A1 n1 c1, .slice A2 n2 c2], .slice A n c, .int .i64 day] w (GivesInts w (largestM m xs day)) := by
  have HL2 := Lib.hid hm.f2.icount
  go_enter Try.func50, Try.ntmps50
  go_wp2_with fail
  have K0 : Below w.heap.size w (((w.alloc (.cells #[.int .i64 m.width, .int .i64 m.height, .slice A1 n1 c1, .slice A2 n2 c2] 29)).alloc (.cells #[] 3)).alloc (.cells #[] 3)) := (((Below.refl _ _).alloc (Nat.le_refl _) _).alloc (by simp) _).alloc (by simp; omega) _
  have Bm0 : Blk (((w.alloc (.cells #[.int .i64 m.width, .int .i64 m.height, .slice A1 n1 c1, .slice A2 n2 c2] 29)).alloc (.cells #[] 3)).alloc (.cells #[] 3)) w.heap.size 29 [.int .i64 m.width, .int .i64 m.height, .slice A1 n1 c1, .slice A2 n2 c2] := ((Blk.at_ rfl).alloc _).alloc _
  have OA0 : (((w.alloc (.cells #[.int .i64 m.width, .int .i64 m.height, .slice A1 n1 c1, .slice A2 n2 c2] 29)).alloc (.cells #[] 3)).alloc (.cells #[] 3)).ownsRow (w.heap.size + 1) 3 1 (.slice (some ⟨w.heap.size + 1, 0, none⟩) 0 0) 0 (ints []) := own_alloc (own_empty_at 3 1 (by simp)) _
  have OC0 : (((w.alloc (.cells #[.int .i64 m.width, .int .i64 m.height, .slice A1 n1 c1, .slice A2 n2 c2] 29)).alloc (.cells #[] 3)).alloc (.cells #[] 3)).ownsRow (w.heap.size + 1) 3 1 (.slice (some ⟨w.heap.size + 2, 0, none⟩) 0 0) 0 (ints []) := own_base (own_empty_at (g := w.heap.size + 2) 3 1 (by simp)) (by omega)
  refine (l24Good_any _ _ _ _ _ _ m _ _ _ xs _ (hm.next K0) hn' (hx.next K0) hn hi).mono ?_
  cases g1 : areasB m xs
  · rintro e w1 ⟨rfl, b1⟩
    go_wp2_with fail
    go_ret2
    rw [show largestM m xs day = none by simp [largestM, g1]]
    exact ⟨_, 0, rfl, own_base (own_below OA0 b1) (show w.heap.size ≤ w.heap.size + 1 by omega), bel_then K0 b1⟩
  · rintro e w1 ⟨rfl, b1⟩
    have g0 := (areasB_at g1).1
    have K1 := bel_then K0 b1
    have Bm1 := Bm0.next b1
    have OA1 := own_below OA0 b1
    have OC1 := own_below OC0 b1
    cases g3 : inB day 0 364
    · go_wp2_with (go_at_call 71; refine (l24Day_any _ _).mono ?_; rintro e w' ⟨rfl, rfl⟩)
      go_ret2
      rw [show largestM m xs day = none by simp [largestM, g3]]
      exact ⟨_, 0, rfl, own_base OA1 (show w.heap.size ≤ w.heap.size + 1 by omega), K1⟩
    · have HR := Lib.hid (show largestM m xs day = some (bestOf (partsM m.cost.length (passB (shutM m xs day)) (nextL (shutM m xs day)) m.cost.length)) by simp [largestM, g1, g3])
      have G0 := Lib.hid g0
      obtain ⟨hp, hcl, -⟩ := mapB_size g0
      have HM := Lib.hid hcl
      have HN := Lib.hid (show m.cost.length ≤ 36 by omega)
      have HSZ := mapB_sides g0
      obtain ⟨hs1, hs2⟩ := mapB_sides g0
      have hn36 : n2 ≤ 36 := by have := HL2.out; omega
      clear g0 hcl g1 K0 Bm0 OA0 OC0 b1
      have cm := Bm1.cell
      go_wp2_with (go_at_call 71; refine (l24Day_any _ _).mono ?_; rintro e w' ⟨rfl, rfl⟩)
      clear cm
      go_loopw [8, 9, 10] (fun bv sv kv wr => ∃ (k cb cs : Nat) (Ab As : Option Addr) (B Sx : List Int), k ≤ n2 ∧ kv = .int .i64 (k : Int) ∧ bv = .slice Ab B.length cb ∧ sv = .slice As Sx.length cs ∧ wr.ownsRow (w.heap.size + 1) 3 1 (.slice Ab B.length cb) B.length (ints B) ∧ wr.ownsRow (w.heap.size + 1) 3 1 (.slice As Sx.length cs) Sx.length (ints Sx) ∧ Hid (Like B (bestOf (partsM m.cost.length (passB (shutM m xs day)) (nextL (shutM m xs day)) k))) ∧ Hid (∀ c, c ∈ Sx ↔ SeenAt (passB (shutM m xs day)) (nextL (shutM m xs day)) k c) ∧ Hid (Sx.length ≤ 40 * k) ∧ Hid (∀ b, OwnB Ab b → OwnB As b → False) ∧ B.length ≤ 36 ∧ Blk wr w.heap.size 29 [.int .i64 m.width, .int .i64 m.height, .slice A1 n1 c1, .slice A2 n2 c2] ∧ Below w.heap.size w wr) (fun _ _ kv _ => n2 - (intOf kv).toNat)
      case atStart => exact ⟨0, 0, 0, _, _, [], [], Nat.zero_le _, rfl, rfl, rfl, OA1, OC1, Lib.hid Like.nil, Lib.hid (fun c => ⟨fun h => by simp at h, fun h => absurd h seen_zero⟩), Lib.hid (by simp), Lib.hid (fun b h1 h2 => by
        have h1 : w.heap.size + 1 = b := by simpa [OwnB, Value.ownBlock] using h1
        have h2 : w.heap.size + 2 = b := by simpa [OwnB, Value.ownBlock] using h2
        omega), by simp, Bm1, K1⟩
      case round =>
        clear OA1 OC1 Bm1 K1
        obtain ⟨k, cb, cs, Ab, As, B, Sx, hk, rfl, rfl, rfl, OB, OS, HLB, HS, HSL, HFB, hB36, M, K⟩ := hrel
        have cm := M.cell
        have hmul : m.width * m.height = (n2 : Int) := by have := HM.out; have := HL2.out; omega
        have hwr : IntKind.i64.wrap (m.width * m.height) = (n2 : Int) := by rw [hmul]; exact IntWalk.i64_in _ (by omega)
        have hSx : Sx.length ≤ 2000 := by have := HSL.out; omega
        by_cases hlt : k < n2
        · have hkc : k < m.cost.length := by have := HL2.out; omega
          have HQP := Lib.hid (pass_open (xs := xs) (day := day) hkc)
          go_wp2_with fail
          refine (l1Has_any _ _ _ Sx (k : Int) _ ((Sees.of_own OS).less (Nat.zero_le _)) (by omega)).mono ?_
          by_cases hin : (k : Int) ∈ Sx
          · rw [(hasI_mem Sx (k : Int)).2 hin]
            have HNT := Lib.hid (show ¬ Taken (passB (shutM m xs day)) (nextL (shutM m xs day)) k from fun h => h.2 ((HS.out _).1 hin))
            rintro e w1 ⟨rfl, q1⟩
            have b1 := q1.below wr.heap.size
            have M1 := M.next b1
            have K1 := bel_then K b1
            have OB1 := own_below OB b1
            have OS1 := own_below OS b1
            clear hin q1 b1
            have HSK := Lib.hid (show partsM m.cost.length (passB (shutM m xs day)) (nextL (shutM m xs day)) (k + 1) = partsM m.cost.length (passB (shutM m xs day)) (nextL (shutM m xs day)) k from partsM_skip HNT.out)
            have HS2 := Lib.hid (fun c => show c ∈ Sx ↔ SeenAt (passB (shutM m xs day)) (nextL (shutM m xs day)) (k + 1) c from by rw [HS.out, seen_skip HNT.out])
            have HSL2 := Lib.hid (show Sx.length ≤ 40 * (k + 1) by have := HSL.out; omega)
            clear HNT cm
            go_wp2_with fail
            go_roundw
            case rel => exact ⟨k + 1, cb, cs, Ab, As, B, Sx, by omega, by go_num, rfl, rfl, OB1, OS1, Lib.hid (by rw [HSK.out]; exact HLB.out), HS2, HSL2, HFB, hB36, M1, K1⟩
            case measure => simp [intOf]; omega
          · rw [hasI_not hin]
            rintro e w1 ⟨rfl, q1⟩
            have b1 := q1.below wr.heap.size
            have M1 := M.next b1
            have K1 := bel_then K b1
            have OB1 := own_below OB b1
            have OS1 := own_below OS b1
            have HNS := Lib.hid (show ¬ SeenAt (passB (shutM m xs day)) (nextL (shutM m xs day)) k (k : Int) from fun h => hin ((HS.out _).2 h))
            clear hin q1 b1 cm
            have cm := M1.cell
            go_wp2_with fail
            refine (l24Open_any _ _ _ _ _ _ m _ _ _ xs k day _ (hm.next K1) (hx.next K1) hn hi hkc G0.out).mono ?_
            cases hop : openB m xs day k
            · have HNT := Lib.hid (show ¬ Taken (passB (shutM m xs day)) (nextL (shutM m xs day)) k from fun h => by have := HQP.out.1 h.1; rw [hop] at this; cases this)
              rintro e w2 ⟨rfl, b2⟩
              have M2 := M1.next b2
              have K2 := bel_then K1 b2
              have OB2 := own_below OB1 b2
              have OS2 := own_below OS1 b2
              clear b2 hop
              have HSK := Lib.hid (show partsM m.cost.length (passB (shutM m xs day)) (nextL (shutM m xs day)) (k + 1) = partsM m.cost.length (passB (shutM m xs day)) (nextL (shutM m xs day)) k from partsM_skip HNT.out)
              have HS2 := Lib.hid (fun c => show c ∈ Sx ↔ SeenAt (passB (shutM m xs day)) (nextL (shutM m xs day)) (k + 1) c from by rw [HS.out, seen_skip HNT.out])
              have HSL2 := Lib.hid (show Sx.length ≤ 40 * (k + 1) by have := HSL.out; omega)
              clear HNT cm
              go_wp2_with fail
              go_roundw
              case rel => exact ⟨k + 1, cb, cs, Ab, As, B, Sx, by omega, by go_num, rfl, rfl, OB2, OS2, Lib.hid (by rw [HSK.out]; exact HLB.out), HS2, HSL2, HFB, hB36, M2, K2⟩
              case measure => simp [intOf]; omega
            · have HOK := Lib.hid (show (passB (shutM m xs day)) (k : Int) from HQP.out.2 hop)
              have HTA := Lib.hid (show Taken (passB (shutM m xs day)) (nextL (shutM m xs day)) k from ⟨HOK.out, HNS.out⟩)
              have HKR := Lib.hid (show (0 : Int) ≤ (k : Int) ∧ (k : Int) < m.cost.length by omega)
              rintro e wo ⟨rfl, b2⟩
              clear M K OB OS cm
              have M := M1.next b2
              have K := bel_then K1 b2
              have OB := own_below OB1 b2
              have OS := own_below OS1 b2
              have PB : Blk (wo.alloc (.cells #[.int .i64 (k : Int)] 3)) wo.heap.size 3 [.int .i64 (k : Int)] := Blk.at_ rfl
              have PW : (wo.alloc (.cells #[.int .i64 (k : Int)] 3)).ownsRow wo.heap.size 3 1 (.slice (some ⟨wo.heap.size, 0, none⟩) 1 1) 1 (ints [(k : Int)]) := PB.own (Nat.le_refl _) rfl (by simp [maxLen])
              have BW0 : Below wo.heap.size wo (wo.alloc (.cells #[.int .i64 (k : Int)] 3)) := (Below.refl _ _).alloc (Nat.le_refl _) _
              have PS := Lib.hid (Part.start (O := (passB (shutM m xs day))) (nx := (nextL (shutM m xs day))) (S := (fun _ : Int => False)) HKR.out (fun h => h))
              clear hop b2 M1 K1 OB1 OS1 PB HNS
              go_wp2_with fail
              generalize wo.alloc (.cells #[.int .i64 (k : Int)] 3) = w3 at *
              go_loopw [11, 12] (fun pv iv wx => ∃ (i c8 : Nat) (A8 : Option Addr) (P : List Int), i ≤ P.length ∧ iv = .int .i64 (i : Int) ∧ pv = .slice A8 P.length c8 ∧ wx.ownsRow wo.heap.size 3 1 (.slice A8 P.length c8) P.length (ints P) ∧ Hid (Part m.cost.length (passB (shutM m xs day)) (nextL (shutM m xs day)) (k : Int) (fun _ : Int => False) [] i 0 P) ∧ Below wo.heap.size wo wx) (fun _ iv _ => 40 - (intOf iv).toNat)
              case atStart => exact ⟨0, 1, some ⟨wo.heap.size, 0, none⟩, [(k : Int)], Nat.zero_le _, rfl, rfl, PW, PS, BW0⟩
              case round =>
                clear PW PS BW0
                obtain ⟨i, c8, A8, P, hi0, rfl, rfl, own8, PA, BW⟩ := hrel
                have hPL : P.length ≤ 36 := Nat.le_trans PA.out.len HN.out
                have z1 := BW.size
                by_cases hlt2 : i < P.length
                · have HYR := Lib.hid (PA.out.sound P[i] (List.getElem_mem hlt2)).1
                  obtain ⟨y, hy⟩ : ∃ y, P[i] = y := ⟨_, rfl⟩
                  rw [hy] at HYR
                  obtain ⟨yn, rfl⟩ := Int.eq_ofNat_of_zero_le HYR.out.1
                  have hy36 : yn ≤ 36 := by have := HYR.out; have := HN.out; omega
                  have q := (Quiet.one wr).below wr.heap.size
                  have M' := (M.only (Only.of_below (show Below wo.heap.size wo wr from BW)) (S := fun _ => False) (fun h => h)).next q
                  have L' := own_below own8 q
                  have BW' := Lib.hid (BW.trans (q.mono z1))
                  have HTP := Lib.hid (fun b (hb : OwnB A8 b) => (own_top own8 hb).2)
                  clear own8 BW q
                  obtain ⟨bb, ob, rfl, _, hcP⟩ := (Sees.of_own L').int hlt2
                  rw [show P[i] = (yn : Int) from hy] at hcP
                  have HYP := Lib.hid hy
                  clear hy
                  have cm := M'.cell
                  go_wp2_with fail
                  go_region_held3 (fun w' => w'.cell? ⟨bb, ob + i, none⟩ = some (.int .i64 (yn : Int)) ∧ w'.cell? ⟨w.heap.size, 0, none⟩ = some (.int .i64 m.width) ∧ w'.cell? ⟨w.heap.size, 1, none⟩ = some (.int .i64 m.height) ∧ w'.cell? ⟨w.heap.size, 2, none⟩ = some (.slice A1 n1 c1) ∧ w'.cell? ⟨w.heap.size, 3, none⟩ = some (.slice A2 n2 c2)) (go_keep)
                    (first
                      | (go_at_call 89
                         refine (l23Beside_any _ _ _ _ _ _ m yn _ HSZ (by omega)).mono ?_
                         rintro e w5 ⟨A3, c3, rfl, o3, b3⟩
                         clear cm hcP
                         replace M' := M'.next b3
                         replace L' := own_below L' b3
                         have BW3 := Lib.hid (BW'.out.trans (b3.mono z1))
                         clear b3
                         have cm := M'.cell
                         obtain ⟨b', o', e', _, hcP⟩ := (Sees.of_own L').int hlt2
                         injection e' with e'
                         injection e' with e1 e2
                         subst e1 e2
                         rw [show P[i] = (yn : Int) from HYP.out] at hcP))
                  go_wp2_with fail
                  have o3' := own_base o3 (show wo.heap.size ≤ wr.drew.heap.size from z1)
                  have FAR := Lib.hid (show ∀ b, OwnB A3 b → ¬ OwnB (some ⟨bb, ob, none⟩) b from fun b h1 h2 => by
                    have h3 := (own_top o3 h1).1
                    have h4 := HTP.out b h2
                    have h5 : wr.drew.heap.size = wr.heap.size := rfl
                    omega)
                  have HLL := Lib.hid (besideL_len m.width m.height (yn : Int))
                  have HRN := Lib.hid (show ∀ x ∈ besideL m.width m.height (yn : Int), 0 ≤ x ∧ x < m.cost.length from fun x hx => by
                    have h1 := HYR.out
                    have h2 := HM.out
                    have := beside_in m.width m.height (yn : Int) x HSZ.1 (by omega) hx
                    omega)
                  have HE := Lib.hid (fun x => next_beside (xs := xs) (day := day) G0.out (c := (yn : Int)) (x := x) HYR.out)
                  obtain ⟨lst, hlst⟩ : ∃ lst, besideL m.width m.height (yn : Int) = lst := ⟨_, rfl⟩
                  rw [hlst] at o3' HLL HRN
                  rw [hlst]
                  simp only [hlst] at HE
                  have HPA := Lib.hid (PA.out.list lst)
                  have HYQ := Lib.hid (show P[i]? = some (yn : Int) by rw [List.getElem?_eq_getElem hlt2, HYP.out])
                  have hlst36 : lst.length ≤ 36 := by have := HLL.out; omega
                  clear hlst o3 cm hcP BW' HTP PA M'
                  obtain ⟨wp, hwp⟩ : ∃ wp : World, wp = w5 := ⟨_, rfl⟩
                  subst hwp
                  go_loopw [11, 14] (fun pv jv wx => ∃ (j c8 : Nat) (A8 : Option Addr) (P1 : List Int), j ≤ lst.length ∧ jv = .int .i64 (j : Int) ∧ pv = .slice A8 P1.length c8 ∧ wx.ownsRow wo.heap.size 3 1 (.slice A8 P1.length c8) P1.length (ints P1) ∧ wx.ownsRow wo.heap.size 3 1 (.slice A3 lst.length c3) lst.length (ints lst) ∧ Hid (∀ b, OwnB A3 b → ¬ OwnB A8 b) ∧ Hid (Part m.cost.length (passB (shutM m xs day)) (nextL (shutM m xs day)) (k : Int) (fun _ : Int => False) lst i j P1) ∧ Hid (P1[i]? = some (yn : Int)) ∧ Below wo.heap.size wo wx) (fun _ jv _ => lst.length - (intOf jv).toNat)
                  case atStart => exact ⟨0, c8, some ⟨bb, ob, none⟩, P, Nat.zero_le _, rfl, rfl, L', o3', FAR, HPA, HYQ, BW3.out⟩
                  case round =>
                    clear L' o3' FAR HPA HYQ BW3
                    obtain ⟨j, c8, A8, P1, hj, rfl, rfl, own8, own3, FAR, PA, HY, BW⟩ := hrel
                    have hPL : P1.length ≤ 36 := Nat.le_trans PA.out.len HN.out
                    have z1 := BW.size
                    have zz := z1
                    have KV : Below w.heap.size w wr := K.trans (BW.mono K.size)
                    have M' := M.only (Only.of_below (show Below wo.heap.size wo wr from BW)) (S := fun _ => False) (fun h => h)
                    have cm := M'.cell
                    by_cases hlt3 : j < lst.length
                    · have HR := Lib.hid (HRN.out lst[j] (List.getElem_mem hlt3))
                      have HSO := Lib.hid (show (¬ (passB (shutM m xs day)) lst[j] ∨ lst[j] ∈ P1) → Part m.cost.length (passB (shutM m xs day)) (nextL (shutM m xs day)) (k : Int) (fun _ : Int => False) lst i (j + 1) P1 from fun h => PA.out.old hlt3 (h.elim .inl fun h => .inr (.inr h)))
                      have HSN := Lib.hid (show (passB (shutM m xs day)) lst[j] → lst[j] ∉ P1 → Part m.cost.length (passB (shutM m xs day)) (nextL (shutM m xs day)) (k : Int) (fun _ : Int => False) lst i (j + 1) (P1 ++ [lst[j]]) from fun h1 h2 => by
                        obtain ⟨hi1, hy1⟩ := List.getElem?_eq_some_iff.1 HY.out
                        exact PA.out.new (near_shut m xs day) hlt3 hi1 (by rw [hy1]; exact (HE.out _).2 ⟨List.getElem_mem hlt3, h1⟩) (fun h => h) h2)
                      obtain ⟨x, hx0⟩ : ∃ x, lst[j] = x := ⟨_, rfl⟩
                      rw [hx0] at HR HSO HSN
                      obtain ⟨xn, rfl⟩ := Int.eq_ofNat_of_zero_le HR.out.1
                      have hxl : xn < m.cost.length := by have := HR.out; omega
                      have hx36 : xn < 36 := by have := HN.out; omega
                      have HQP := Lib.hid (pass_open (xs := xs) (day := day) hxl)
                      obtain ⟨b3, o3, rfl, _, x3⟩ := (Sees.of_own own3).int hlt3
                      rw [show lst[j] = (xn : Int) from hx0] at x3
                      have hbl := World.block_lt_of_cell? wr _ x3
                      have hj36 : j ≤ 36 := by have := HLL.out; omega
                      have HK := Lib.hid (show j + 1 ≤ lst.length from hlt3)
                      have BB := (Quiet.one wr).below wr.heap.size
                      have KV := bel_then KV BB
                      replace M' := M'.next BB
                      replace own8 := own_below own8 BB
                      replace own3 := own_below own3 BB
                      replace BW := BW.trans (BB.mono zz)
                      replace zz := Nat.le_trans zz BB.size
                      replace x3 := ((bcell BB).1 _ _ hbl).trans x3
                      replace hbl := Nat.lt_of_lt_of_le hbl BB.size
                      clear cm
                      have cm := M'.cell
                      clear BB
                      have hj0 : (0 : Int) ≤ (j : Int) := by omega
                      have hjn : (j : Int) < (lst.length : Int) := by omega
                      cases hop : openB m xs day xn
                      · have HOB := Lib.hid hop
                        have HP2 := Lib.hid (HSO.out (.inl fun h => by have := HQP.out.1 h; rw [hop] at this; cases this))
                        clear HSO HSN PA HR hx0 hop
                        go_wp2_with fail
                        refine wp_region_held_drew (S := fun w' => w'.cell? ⟨w.heap.size, 0, none⟩ = some (.int .i64 m.width) ∧ w'.cell? ⟨w.heap.size, 1, none⟩ = some (.int .i64 m.height) ∧ w'.cell? ⟨w.heap.size, 2, none⟩ = some (.slice A1 n1 c1) ∧ w'.cell? ⟨w.heap.size, 3, none⟩ = some (.slice A2 n2 c2) ∧ w'.cell? ⟨b3, o3 + j, none⟩ = some (.int .i64 (xn : Int))) (by kernel_rfl) (by (try dsimp only); go_keep) (fun hHeld => ?_)
                        refine wpAnyH_take (i := 0) (v := ?_) rfl (by kernel_rfl) (by kernel_rfl) (by kernel_rfl) (fun _ _ _ h => h) (Or.inl ⟨by rfl, ?_⟩) (by assumption) ?_
                        rotate_left 1
                        · (intro w hSw; (try dsimp only at hSw); go_simp; try with_reducible rfl)
                        simp only [Act.put, List.setIfInBounds_toArray, List.set_cons_zero, List.set_cons_succ, List.getElem_toArray, List.getElem_cons_zero]
                        refine wpAnyH_take (i := 1) (v := ?_) rfl (by kernel_rfl) (by kernel_rfl) (by kernel_rfl) (fun _ _ _ h => h) (Or.inl ⟨by rfl, ?_⟩) (by assumption) ?_
                        rotate_left 1
                        · (intro w hSw; (try dsimp only at hSw); go_simp; try with_reducible rfl)
                        simp only [Act.put, List.setIfInBounds_toArray, List.set_cons_zero, List.set_cons_succ, List.getElem_toArray, List.getElem_cons_zero, List.getElem_cons_succ]
                        refine wpAnyH_take (i := 2) (v := ?_) rfl (by kernel_rfl) (by kernel_rfl) (by kernel_rfl) (fun _ _ _ h => h) (Or.inl ⟨by rfl, ?_⟩) (by assumption) ?_
                        rotate_left 1
                        · (intro w hSw; (try dsimp only at hSw); go_simp; try with_reducible rfl)
                        simp only [Act.put, List.setIfInBounds_toArray, List.set_cons_zero, List.set_cons_succ, List.getElem_toArray, List.getElem_cons_zero, List.getElem_cons_succ]
                        refine wpAnyH_take (i := 3) (v := ?_) rfl (by kernel_rfl) (by kernel_rfl) (by kernel_rfl) (fun _ _ _ h => h) (Or.inl ⟨by rfl, ?_⟩) (by assumption) ?_
                        rotate_left 1
                        · (intro w hSw; (try dsimp only at hSw); go_simp; try with_reducible rfl)
                        simp only [Act.put, List.setIfInBounds_toArray, List.set_cons_zero, List.set_cons_succ, List.getElem_toArray, List.getElem_cons_zero, List.getElem_cons_succ]
                        refine wpAnyH_take (i := 4) (v := ?_) rfl (by kernel_rfl) (by kernel_rfl) (by kernel_rfl) (fun _ _ _ h => h) (Or.inl ⟨by rfl, ?_⟩) (by assumption) ?_
                        rotate_left 1
                        · (intro w hSw; (try dsimp only at hSw); go_simp; try with_reducible rfl)
                        simp only [Act.put, List.setIfInBounds_toArray, List.set_cons_zero, List.set_cons_succ, List.getElem_toArray, List.getElem_cons_zero, List.getElem_cons_succ]
                        refine wpAnyH_take (i := 5) (v := ?_) rfl (by kernel_rfl) (by kernel_rfl) (by kernel_rfl) (fun _ _ _ h => h) (Or.inl ⟨by rfl, ?_⟩) (by assumption) ?_
                        rotate_left 1
                        · (intro w hSw; (try dsimp only at hSw); go_simp; try with_reducible rfl)
                        simp only [Act.put, List.setIfInBounds_toArray, List.set_cons_zero, List.set_cons_succ, List.getElem_toArray, List.getElem_cons_zero, List.getElem_cons_succ]
                        refine wpAnyH_take (i := 6) (v := ?_) rfl (by kernel_rfl) (by kernel_rfl) (by kernel_rfl) (fun _ _ _ h => h) (Or.inl ⟨by rfl, ?_⟩) (by assumption) ?_
                        rotate_left 1
                        · (intro w hSw; (try dsimp only at hSw); go_simp; try with_reducible rfl)
                        simp only [Act.put, List.setIfInBounds_toArray, List.set_cons_zero, List.set_cons_succ, List.getElem_toArray, List.getElem_cons_zero, List.getElem_cons_succ]
                        refine wpAnyH_ready (rs := [7]) (by kernel_rfl) (by simp) ?_
                        refine AllReadyH.cons rfl (fun K hK => ?_) AllReadyH.nil
                        go_simp
                        refine (l24Open_any _ _ _ _ _ _ m _ _ _ xs xn day _ (hm.next KV) (hx.next KV) hn hi hxl G0.out).mono ?_
                        rw [HOB.out]
                        rintro e w3 ⟨rfl, BB⟩
                        have KV := bel_then KV BB
                        replace M' := M'.next BB
                        replace own8 := own_below own8 BB
                        replace own3 := own_below own3 BB
                        replace BW := BW.trans (BB.mono zz)
                        replace zz := Nat.le_trans zz BB.size
                        replace x3 := ((bcell BB).1 _ _ hbl).trans x3
                        replace hbl := Nat.lt_of_lt_of_le hbl BB.size
                        clear cm
                        have cm := M'.cell
                        clear BB

                        go_wp2_with fail
                        refine hK.out _ _ (by (try dsimp only); go_keep) (fun hHeld => ?_)
                        clear hK K
                        refine wpAnyH_take (i := 8) (v := ?_) rfl (by kernel_rfl) (by kernel_rfl) (by kernel_rfl) (fun _ _ _ h => h) (Or.inl ⟨by rfl, ?_⟩) (by assumption) ?_
                        rotate_left 1
                        · (intro w hSw; (try dsimp only at hSw); go_simp; try with_reducible rfl)
                        simp only [Act.put, List.setIfInBounds_toArray, List.set_cons_zero, List.set_cons_succ, List.getElem_toArray, List.getElem_cons_zero, List.getElem_cons_succ]
                        refine wpAnyH_take (i := 9) (v := undef) rfl (by kernel_rfl) (by kernel_rfl) (by kernel_rfl) (fun _ _ _ h => h) (Or.inr ⟨by rfl, rfl⟩) (by assumption) ?_
                        simp only [Act.put, List.setIfInBounds_toArray, List.set_cons_zero, List.set_cons_succ, List.getElem_toArray, List.getElem_cons_zero, List.getElem_cons_succ]
                        refine wpAnyH_take (i := 10) (v := undef) rfl (by kernel_rfl) (by kernel_rfl) (by kernel_rfl) (fun _ _ _ h => h) (Or.inr ⟨by rfl, rfl⟩) (by assumption) ?_
                        simp only [Act.put, List.setIfInBounds_toArray, List.set_cons_zero, List.set_cons_succ, List.getElem_toArray, List.getElem_cons_zero, List.getElem_cons_succ]
                        refine wpAnyH_take (i := 11) (v := undef) rfl (by kernel_rfl) (by kernel_rfl) (by kernel_rfl) (fun _ _ _ h => h) (Or.inr ⟨by rfl, rfl⟩) (by assumption) ?_
                        simp only [Act.put, List.setIfInBounds_toArray, List.set_cons_zero, List.set_cons_succ, List.getElem_toArray, List.getElem_cons_zero, List.getElem_cons_succ]
                        refine wpAnyH_take (i := 12) (v := undef) rfl (by kernel_rfl) (by kernel_rfl) (by kernel_rfl) (fun _ _ _ h => h) (Or.inr ⟨by rfl, rfl⟩) (by assumption) ?_
                        simp only [Act.put, List.setIfInBounds_toArray, List.set_cons_zero, List.set_cons_succ, List.getElem_toArray, List.getElem_cons_zero, List.getElem_cons_succ]
                        refine wpAnyH_take (i := 13) (v := undef) rfl (by kernel_rfl) (by kernel_rfl) (by kernel_rfl) (fun _ _ _ h => h) (Or.inr ⟨by rfl, rfl⟩) (by assumption) ?_
                        simp only [Act.put, List.setIfInBounds_toArray, List.set_cons_zero, List.set_cons_succ, List.getElem_toArray, List.getElem_cons_zero, List.getElem_cons_succ]
                        refine wpAnyH_take (i := 14) (v := undef) rfl (by kernel_rfl) (by kernel_rfl) (by kernel_rfl) (fun _ _ _ h => h) (Or.inr ⟨by rfl, rfl⟩) (by assumption) ?_
                        simp only [Act.put, List.setIfInBounds_toArray, List.set_cons_zero, List.set_cons_succ, List.getElem_toArray, List.getElem_cons_zero, List.getElem_cons_succ]
                        refine wpAnyH_take (i := 15) (v := undef) rfl (by kernel_rfl) (by kernel_rfl) (by kernel_rfl) (fun _ _ _ h => h) (Or.inr ⟨by rfl, rfl⟩) (by assumption) ?_
                        simp only [Act.put, List.setIfInBounds_toArray, List.set_cons_zero, List.set_cons_succ, List.getElem_toArray, List.getElem_cons_zero, List.getElem_cons_succ]
                        refine wpAnyH_take (i := 16) (v := ?_) rfl (by kernel_rfl) (by kernel_rfl) (by kernel_rfl) (fun _ _ _ h => h) (Or.inl ⟨by rfl, ?_⟩) (by assumption) ?_
                        rotate_left 1
                        · (intro w hSw; (try dsimp only at hSw); go_simp; try with_reducible rfl)
                        simp only [Act.put, List.setIfInBounds_toArray, List.set_cons_zero, List.set_cons_succ, List.getElem_toArray, List.getElem_cons_zero, List.getElem_cons_succ]
                        refine wpAnyH_done (by kernel_rfl) ?_ _
                        clear x3 hbl cm
                        go_wp2_with fail
                        go_roundw
                        case rel => exact ⟨j + 1, c8, A8, P1, HK.out, by go_num, rfl, own8, own3, FAR, HP2, HY, BW⟩
                        case measure => have := HK.out; simp [intOf]; omega
                      · have HOB := Lib.hid hop
                        have HPX := Lib.hid (HQP.out.2 hop)
                        clear hop
                        by_cases hin : (xn : Int) ∈ P1
                        · have HHB := Lib.hid ((hasI_mem P1 (xn : Int)).2 hin)
                          have HP2 := Lib.hid (HSO.out (.inr hin))
                          clear HSO HSN PA HR hx0 hin
                          go_wp2_with fail
                          refine wp_region_held_drew (S := fun w' => w'.cell? ⟨w.heap.size, 0, none⟩ = some (.int .i64 m.width) ∧ w'.cell? ⟨w.heap.size, 1, none⟩ = some (.int .i64 m.height) ∧ w'.cell? ⟨w.heap.size, 2, none⟩ = some (.slice A1 n1 c1) ∧ w'.cell? ⟨w.heap.size, 3, none⟩ = some (.slice A2 n2 c2) ∧ w'.cell? ⟨b3, o3 + j, none⟩ = some (.int .i64 (xn : Int))) (by kernel_rfl) (by (try dsimp only); go_keep) (fun hHeld => ?_)
                          refine wpAnyH_take (i := 0) (v := ?_) rfl (by kernel_rfl) (by kernel_rfl) (by kernel_rfl) (fun _ _ _ h => h) (Or.inl ⟨by rfl, ?_⟩) (by assumption) ?_
                          rotate_left 1
                          · (intro w hSw; (try dsimp only at hSw); go_simp; try with_reducible rfl)
                          simp only [Act.put, List.setIfInBounds_toArray, List.set_cons_zero, List.set_cons_succ, List.getElem_toArray, List.getElem_cons_zero]
                          refine wpAnyH_take (i := 1) (v := ?_) rfl (by kernel_rfl) (by kernel_rfl) (by kernel_rfl) (fun _ _ _ h => h) (Or.inl ⟨by rfl, ?_⟩) (by assumption) ?_
                          rotate_left 1
                          · (intro w hSw; (try dsimp only at hSw); go_simp; try with_reducible rfl)
                          simp only [Act.put, List.setIfInBounds_toArray, List.set_cons_zero, List.set_cons_succ, List.getElem_toArray, List.getElem_cons_zero, List.getElem_cons_succ]
                          refine wpAnyH_take (i := 2) (v := ?_) rfl (by kernel_rfl) (by kernel_rfl) (by kernel_rfl) (fun _ _ _ h => h) (Or.inl ⟨by rfl, ?_⟩) (by assumption) ?_
                          rotate_left 1
                          · (intro w hSw; (try dsimp only at hSw); go_simp; try with_reducible rfl)
                          simp only [Act.put, List.setIfInBounds_toArray, List.set_cons_zero, List.set_cons_succ, List.getElem_toArray, List.getElem_cons_zero, List.getElem_cons_succ]
                          refine wpAnyH_take (i := 3) (v := ?_) rfl (by kernel_rfl) (by kernel_rfl) (by kernel_rfl) (fun _ _ _ h => h) (Or.inl ⟨by rfl, ?_⟩) (by assumption) ?_
                          rotate_left 1
                          · (intro w hSw; (try dsimp only at hSw); go_simp; try with_reducible rfl)
                          simp only [Act.put, List.setIfInBounds_toArray, List.set_cons_zero, List.set_cons_succ, List.getElem_toArray, List.getElem_cons_zero, List.getElem_cons_succ]
                          refine wpAnyH_take (i := 4) (v := ?_) rfl (by kernel_rfl) (by kernel_rfl) (by kernel_rfl) (fun _ _ _ h => h) (Or.inl ⟨by rfl, ?_⟩) (by assumption) ?_
                          rotate_left 1
                          · (intro w hSw; (try dsimp only at hSw); go_simp; try with_reducible rfl)
                          simp only [Act.put, List.setIfInBounds_toArray, List.set_cons_zero, List.set_cons_succ, List.getElem_toArray, List.getElem_cons_zero, List.getElem_cons_succ]
                          refine wpAnyH_take (i := 5) (v := ?_) rfl (by kernel_rfl) (by kernel_rfl) (by kernel_rfl) (fun _ _ _ h => h) (Or.inl ⟨by rfl, ?_⟩) (by assumption) ?_
                          rotate_left 1
                          · (intro w hSw; (try dsimp only at hSw); go_simp; try with_reducible rfl)
                          simp only [Act.put, List.setIfInBounds_toArray, List.set_cons_zero, List.set_cons_succ, List.getElem_toArray, List.getElem_cons_zero, List.getElem_cons_succ]
                          refine wpAnyH_take (i := 6) (v := ?_) rfl (by kernel_rfl) (by kernel_rfl) (by kernel_rfl) (fun _ _ _ h => h) (Or.inl ⟨by rfl, ?_⟩) (by assumption) ?_
                          rotate_left 1
                          · (intro w hSw; (try dsimp only at hSw); go_simp; try with_reducible rfl)
                          simp only [Act.put, List.setIfInBounds_toArray, List.set_cons_zero, List.set_cons_succ, List.getElem_toArray, List.getElem_cons_zero, List.getElem_cons_succ]
                          refine wpAnyH_ready (rs := [7]) (by kernel_rfl) (by simp) ?_
                          refine AllReadyH.cons rfl (fun K hK => ?_) AllReadyH.nil
                          go_simp
                          refine (l24Open_any _ _ _ _ _ _ m _ _ _ xs xn day _ (hm.next KV) (hx.next KV) hn hi hxl G0.out).mono ?_
                          rw [HOB.out]
                          rintro e w3 ⟨rfl, BB⟩
                          have KV := bel_then KV BB
                          replace M' := M'.next BB
                          replace own8 := own_below own8 BB
                          replace own3 := own_below own3 BB
                          replace BW := BW.trans (BB.mono zz)
                          replace zz := Nat.le_trans zz BB.size
                          replace x3 := ((bcell BB).1 _ _ hbl).trans x3
                          replace hbl := Nat.lt_of_lt_of_le hbl BB.size
                          clear cm
                          have cm := M'.cell
                          clear BB

                          go_wp2_with fail
                          refine hK.out _ _ (by (try dsimp only); go_keep) (fun hHeld => ?_)
                          clear hK K
                          refine wpAnyH_take (i := 8) (v := ?_) rfl (by kernel_rfl) (by kernel_rfl) (by kernel_rfl) (fun _ _ _ h => h) (Or.inl ⟨by rfl, ?_⟩) (by assumption) ?_
                          rotate_left 1
                          · (intro w hSw; (try dsimp only at hSw); go_simp; try with_reducible rfl)
                          simp only [Act.put, List.setIfInBounds_toArray, List.set_cons_zero, List.set_cons_succ, List.getElem_toArray, List.getElem_cons_zero, List.getElem_cons_succ]
                          refine wpAnyH_take (i := 9) (v := ?_) rfl (by kernel_rfl) (by kernel_rfl) (by kernel_rfl) (fun _ _ _ h => h) (Or.inl ⟨by rfl, ?_⟩) (by assumption) ?_
                          rotate_left 1
                          · (intro w hSw; (try dsimp only at hSw); go_simp; try with_reducible rfl)
                          simp only [Act.put, List.setIfInBounds_toArray, List.set_cons_zero, List.set_cons_succ, List.getElem_toArray, List.getElem_cons_zero, List.getElem_cons_succ]
                          refine wpAnyH_take (i := 10) (v := ?_) rfl (by kernel_rfl) (by kernel_rfl) (by kernel_rfl) (fun _ _ _ h => h) (Or.inl ⟨by rfl, ?_⟩) (by assumption) ?_
                          rotate_left 1
                          · (intro w hSw; (try dsimp only at hSw); go_simp; try with_reducible rfl)
                          simp only [Act.put, List.setIfInBounds_toArray, List.set_cons_zero, List.set_cons_succ, List.getElem_toArray, List.getElem_cons_zero, List.getElem_cons_succ]
                          refine wpAnyH_take (i := 11) (v := ?_) rfl (by kernel_rfl) (by kernel_rfl) (by kernel_rfl) (fun _ _ _ h => h) (Or.inl ⟨by rfl, ?_⟩) (by assumption) ?_
                          rotate_left 1
                          · (intro w hSw; (try dsimp only at hSw); go_simp; try with_reducible rfl)
                          simp only [Act.put, List.setIfInBounds_toArray, List.set_cons_zero, List.set_cons_succ, List.getElem_toArray, List.getElem_cons_zero, List.getElem_cons_succ]
                          refine wpAnyH_take (i := 12) (v := ?_) rfl (by kernel_rfl) (by kernel_rfl) (by kernel_rfl) (fun _ _ _ h => h) (Or.inl ⟨by rfl, ?_⟩) (by assumption) ?_
                          rotate_left 1
                          · (intro w hSw; (try dsimp only at hSw); go_simp; try with_reducible rfl)
                          simp only [Act.put, List.setIfInBounds_toArray, List.set_cons_zero, List.set_cons_succ, List.getElem_toArray, List.getElem_cons_zero, List.getElem_cons_succ]
                          refine wpAnyH_take (i := 13) (v := ?_) rfl (by kernel_rfl) (by kernel_rfl) (by kernel_rfl) (fun _ _ _ h => h) (Or.inl ⟨by rfl, ?_⟩) (by assumption) ?_
                          rotate_left 1
                          · (intro w hSw; (try dsimp only at hSw); go_simp; try with_reducible rfl)
                          simp only [Act.put, List.setIfInBounds_toArray, List.set_cons_zero, List.set_cons_succ, List.getElem_toArray, List.getElem_cons_zero, List.getElem_cons_succ]
                          refine wpAnyH_ready (rs := [14]) (by kernel_rfl) (by simp) ?_
                          refine AllReadyH.cons rfl (fun K hK => ?_) AllReadyH.nil
                          go_simp
                          refine (l1Has_any _ _ _ P1 (xn : Int) _ ((Sees.of_own own8).less (Nat.zero_le _)) (by omega)).mono ?_
                          rw [HHB.out]
                          rintro e w4 ⟨rfl, q4⟩
                          have BB := q4.below w3.heap.size
                          clear q4
                          have KV := bel_then KV BB
                          replace M' := M'.next BB
                          replace own8 := own_below own8 BB
                          replace own3 := own_below own3 BB
                          replace BW := BW.trans (BB.mono zz)
                          replace zz := Nat.le_trans zz BB.size
                          replace x3 := ((bcell BB).1 _ _ hbl).trans x3
                          replace hbl := Nat.lt_of_lt_of_le hbl BB.size
                          clear cm
                          have cm := M'.cell
                          clear BB

                          go_wp2_with fail
                          refine hK.out _ _ (by (try dsimp only); go_keep) (fun hHeld => ?_)
                          clear hK K
                          refine wpAnyH_take (i := 15) (v := ?_) rfl (by kernel_rfl) (by kernel_rfl) (by kernel_rfl) (fun _ _ _ h => h) (Or.inl ⟨by rfl, ?_⟩) (by assumption) ?_
                          rotate_left 1
                          · (intro w hSw; (try dsimp only at hSw); go_simp; try with_reducible rfl)
                          simp only [Act.put, List.setIfInBounds_toArray, List.set_cons_zero, List.set_cons_succ, List.getElem_toArray, List.getElem_cons_zero, List.getElem_cons_succ]
                          refine wpAnyH_take (i := 16) (v := ?_) rfl (by kernel_rfl) (by kernel_rfl) (by kernel_rfl) (fun _ _ _ h => h) (Or.inl ⟨by rfl, ?_⟩) (by assumption) ?_
                          rotate_left 1
                          · (intro w hSw; (try dsimp only at hSw); go_simp; try with_reducible rfl)
                          simp only [Act.put, List.setIfInBounds_toArray, List.set_cons_zero, List.set_cons_succ, List.getElem_toArray, List.getElem_cons_zero, List.getElem_cons_succ]
                          refine wpAnyH_done (by kernel_rfl) ?_ _
                          clear x3 hbl cm
                          go_wp2_with fail
                          go_roundw
                          case rel => exact ⟨j + 1, c8, A8, P1, HK.out, by go_num, rfl, own8, own3, FAR, HP2, HY, BW⟩
                          case measure => have := HK.out; simp [intOf]; omega
                        · have HHB := Lib.hid (hasI_not hin)
                          have HP2 := Lib.hid (HSN.out HPX.out hin)
                          have HY2 := Lib.hid (show (P1 ++ [(xn : Int)])[i]? = some (yn : Int) by rw [List.getElem?_append_left (List.getElem?_eq_some_iff.1 HY.out).1]; exact HY.out)
                          clear HSO HSN PA HR hx0 hin HY
                          go_wp2_with fail
                          refine wp_region_held_drew (S := fun w' => w'.cell? ⟨w.heap.size, 0, none⟩ = some (.int .i64 m.width) ∧ w'.cell? ⟨w.heap.size, 1, none⟩ = some (.int .i64 m.height) ∧ w'.cell? ⟨w.heap.size, 2, none⟩ = some (.slice A1 n1 c1) ∧ w'.cell? ⟨w.heap.size, 3, none⟩ = some (.slice A2 n2 c2) ∧ w'.cell? ⟨b3, o3 + j, none⟩ = some (.int .i64 (xn : Int))) (by kernel_rfl) (by (try dsimp only); go_keep) (fun hHeld => ?_)
                          refine wpAnyH_take (i := 0) (v := ?_) rfl (by kernel_rfl) (by kernel_rfl) (by kernel_rfl) (fun _ _ _ h => h) (Or.inl ⟨by rfl, ?_⟩) (by assumption) ?_
                          rotate_left 1
                          · (intro w hSw; (try dsimp only at hSw); go_simp; try with_reducible rfl)
                          simp only [Act.put, List.setIfInBounds_toArray, List.set_cons_zero, List.set_cons_succ, List.getElem_toArray, List.getElem_cons_zero]
                          refine wpAnyH_take (i := 1) (v := ?_) rfl (by kernel_rfl) (by kernel_rfl) (by kernel_rfl) (fun _ _ _ h => h) (Or.inl ⟨by rfl, ?_⟩) (by assumption) ?_
                          rotate_left 1
                          · (intro w hSw; (try dsimp only at hSw); go_simp; try with_reducible rfl)
                          simp only [Act.put, List.setIfInBounds_toArray, List.set_cons_zero, List.set_cons_succ, List.getElem_toArray, List.getElem_cons_zero, List.getElem_cons_succ]
                          refine wpAnyH_take (i := 2) (v := ?_) rfl (by kernel_rfl) (by kernel_rfl) (by kernel_rfl) (fun _ _ _ h => h) (Or.inl ⟨by rfl, ?_⟩) (by assumption) ?_
                          rotate_left 1
                          · (intro w hSw; (try dsimp only at hSw); go_simp; try with_reducible rfl)
                          simp only [Act.put, List.setIfInBounds_toArray, List.set_cons_zero, List.set_cons_succ, List.getElem_toArray, List.getElem_cons_zero, List.getElem_cons_succ]
                          refine wpAnyH_take (i := 3) (v := ?_) rfl (by kernel_rfl) (by kernel_rfl) (by kernel_rfl) (fun _ _ _ h => h) (Or.inl ⟨by rfl, ?_⟩) (by assumption) ?_
                          rotate_left 1
                          · (intro w hSw; (try dsimp only at hSw); go_simp; try with_reducible rfl)
                          simp only [Act.put, List.setIfInBounds_toArray, List.set_cons_zero, List.set_cons_succ, List.getElem_toArray, List.getElem_cons_zero, List.getElem_cons_succ]
                          refine wpAnyH_take (i := 4) (v := ?_) rfl (by kernel_rfl) (by kernel_rfl) (by kernel_rfl) (fun _ _ _ h => h) (Or.inl ⟨by rfl, ?_⟩) (by assumption) ?_
                          rotate_left 1
                          · (intro w hSw; (try dsimp only at hSw); go_simp; try with_reducible rfl)
                          simp only [Act.put, List.setIfInBounds_toArray, List.set_cons_zero, List.set_cons_succ, List.getElem_toArray, List.getElem_cons_zero, List.getElem_cons_succ]
                          refine wpAnyH_take (i := 5) (v := ?_) rfl (by kernel_rfl) (by kernel_rfl) (by kernel_rfl) (fun _ _ _ h => h) (Or.inl ⟨by rfl, ?_⟩) (by assumption) ?_
                          rotate_left 1
                          · (intro w hSw; (try dsimp only at hSw); go_simp; try with_reducible rfl)
                          simp only [Act.put, List.setIfInBounds_toArray, List.set_cons_zero, List.set_cons_succ, List.getElem_toArray, List.getElem_cons_zero, List.getElem_cons_succ]
                          refine wpAnyH_take (i := 6) (v := ?_) rfl (by kernel_rfl) (by kernel_rfl) (by kernel_rfl) (fun _ _ _ h => h) (Or.inl ⟨by rfl, ?_⟩) (by assumption) ?_
                          rotate_left 1
                          · (intro w hSw; (try dsimp only at hSw); go_simp; try with_reducible rfl)
                          simp only [Act.put, List.setIfInBounds_toArray, List.set_cons_zero, List.set_cons_succ, List.getElem_toArray, List.getElem_cons_zero, List.getElem_cons_succ]
                          refine wpAnyH_ready (rs := [7]) (by kernel_rfl) (by simp) ?_
                          refine AllReadyH.cons rfl (fun K hK => ?_) AllReadyH.nil
                          go_simp
                          refine (l24Open_any _ _ _ _ _ _ m _ _ _ xs xn day _ (hm.next KV) (hx.next KV) hn hi hxl G0.out).mono ?_
                          rw [HOB.out]
                          rintro e w3 ⟨rfl, BB⟩
                          have KV := bel_then KV BB
                          replace M' := M'.next BB
                          replace own8 := own_below own8 BB
                          replace own3 := own_below own3 BB
                          replace BW := BW.trans (BB.mono zz)
                          replace zz := Nat.le_trans zz BB.size
                          replace x3 := ((bcell BB).1 _ _ hbl).trans x3
                          replace hbl := Nat.lt_of_lt_of_le hbl BB.size
                          clear cm
                          have cm := M'.cell
                          clear BB

                          go_wp2_with fail
                          refine hK.out _ _ (by (try dsimp only); go_keep) (fun hHeld => ?_)
                          clear hK K
                          refine wpAnyH_take (i := 8) (v := ?_) rfl (by kernel_rfl) (by kernel_rfl) (by kernel_rfl) (fun _ _ _ h => h) (Or.inl ⟨by rfl, ?_⟩) (by assumption) ?_
                          rotate_left 1
                          · (intro w hSw; (try dsimp only at hSw); go_simp; try with_reducible rfl)
                          simp only [Act.put, List.setIfInBounds_toArray, List.set_cons_zero, List.set_cons_succ, List.getElem_toArray, List.getElem_cons_zero, List.getElem_cons_succ]
                          refine wpAnyH_take (i := 9) (v := ?_) rfl (by kernel_rfl) (by kernel_rfl) (by kernel_rfl) (fun _ _ _ h => h) (Or.inl ⟨by rfl, ?_⟩) (by assumption) ?_
                          rotate_left 1
                          · (intro w hSw; (try dsimp only at hSw); go_simp; try with_reducible rfl)
                          simp only [Act.put, List.setIfInBounds_toArray, List.set_cons_zero, List.set_cons_succ, List.getElem_toArray, List.getElem_cons_zero, List.getElem_cons_succ]
                          refine wpAnyH_take (i := 10) (v := ?_) rfl (by kernel_rfl) (by kernel_rfl) (by kernel_rfl) (fun _ _ _ h => h) (Or.inl ⟨by rfl, ?_⟩) (by assumption) ?_
                          rotate_left 1
                          · (intro w hSw; (try dsimp only at hSw); go_simp; try with_reducible rfl)
                          simp only [Act.put, List.setIfInBounds_toArray, List.set_cons_zero, List.set_cons_succ, List.getElem_toArray, List.getElem_cons_zero, List.getElem_cons_succ]
                          refine wpAnyH_take (i := 11) (v := ?_) rfl (by kernel_rfl) (by kernel_rfl) (by kernel_rfl) (fun _ _ _ h => h) (Or.inl ⟨by rfl, ?_⟩) (by assumption) ?_
                          rotate_left 1
                          · (intro w hSw; (try dsimp only at hSw); go_simp; try with_reducible rfl)
                          simp only [Act.put, List.setIfInBounds_toArray, List.set_cons_zero, List.set_cons_succ, List.getElem_toArray, List.getElem_cons_zero, List.getElem_cons_succ]
                          refine wpAnyH_take (i := 12) (v := ?_) rfl (by kernel_rfl) (by kernel_rfl) (by kernel_rfl) (fun _ _ _ h => h) (Or.inl ⟨by rfl, ?_⟩) (by assumption) ?_
                          rotate_left 1
                          · (intro w hSw; (try dsimp only at hSw); go_simp; try with_reducible rfl)
                          simp only [Act.put, List.setIfInBounds_toArray, List.set_cons_zero, List.set_cons_succ, List.getElem_toArray, List.getElem_cons_zero, List.getElem_cons_succ]
                          refine wpAnyH_take (i := 13) (v := ?_) rfl (by kernel_rfl) (by kernel_rfl) (by kernel_rfl) (fun _ _ _ h => h) (Or.inl ⟨by rfl, ?_⟩) (by assumption) ?_
                          rotate_left 1
                          · (intro w hSw; (try dsimp only at hSw); go_simp; try with_reducible rfl)
                          simp only [Act.put, List.setIfInBounds_toArray, List.set_cons_zero, List.set_cons_succ, List.getElem_toArray, List.getElem_cons_zero, List.getElem_cons_succ]
                          refine wpAnyH_ready (rs := [14]) (by kernel_rfl) (by simp) ?_
                          refine AllReadyH.cons rfl (fun K hK => ?_) AllReadyH.nil
                          go_simp
                          refine (l1Has_any _ _ _ P1 (xn : Int) _ ((Sees.of_own own8).less (Nat.zero_le _)) (by omega)).mono ?_
                          rw [HHB.out]
                          rintro e w4 ⟨rfl, q4⟩
                          have BB := q4.below w3.heap.size
                          clear q4
                          have KV := bel_then KV BB
                          replace M' := M'.next BB
                          replace own8 := own_below own8 BB
                          replace own3 := own_below own3 BB
                          replace BW := BW.trans (BB.mono zz)
                          replace zz := Nat.le_trans zz BB.size
                          replace x3 := ((bcell BB).1 _ _ hbl).trans x3
                          replace hbl := Nat.lt_of_lt_of_le hbl BB.size
                          clear cm
                          have cm := M'.cell
                          clear BB

                          go_wp2_with fail
                          refine hK.out _ _ (by (try dsimp only); go_keep) (fun hHeld => ?_)
                          clear hK K
                          refine wpAnyH_take (i := 15) (v := ?_) rfl (by kernel_rfl) (by kernel_rfl) (by kernel_rfl) (fun _ _ _ h => h) (Or.inl ⟨by rfl, ?_⟩) (by assumption) ?_
                          rotate_left 1
                          · (intro w hSw; (try dsimp only at hSw); go_simp; try with_reducible rfl)
                          simp only [Act.put, List.setIfInBounds_toArray, List.set_cons_zero, List.set_cons_succ, List.getElem_toArray, List.getElem_cons_zero, List.getElem_cons_succ]
                          refine wpAnyH_take (i := 16) (v := ?_) rfl (by kernel_rfl) (by kernel_rfl) (by kernel_rfl) (fun _ _ _ h => h) (Or.inl ⟨by rfl, ?_⟩) (by assumption) ?_
                          rotate_left 1
                          · (intro w hSw; (try dsimp only at hSw); go_simp; try with_reducible rfl)
                          simp only [Act.put, List.setIfInBounds_toArray, List.set_cons_zero, List.set_cons_succ, List.getElem_toArray, List.getElem_cons_zero, List.getElem_cons_succ]
                          refine wpAnyH_done (by kernel_rfl) ?_ _
                          clear hbl cm
                          go_wp2_with (at_builtin; go_loud (refine wpList_pushNew rfl _ _ _ rfl Try.underlying22 info_int rfl (by decide) rfl own8 rfl (by simp) (by rfl) (by rfl) (by omega) (by decide) (by omega) ?_); intro A9 c9 w9 o9 h9 b9 q9)
                          clear x3
                          go_roundw
                          case rel => exact ⟨j + 1, c9, A9, P1 ++ [(xn : Int)], HK.out, by go_num, by simp, by simpa [ints] using o9, own_only own3 h9 (fun b hb => FAR.out b hb), Lib.hid (fun b hb hb2 => by
                            rcases q9 b hb2 with h5 | h5
                            · exact FAR.out b hb h5
                            · have := (own_top own3 hb).2; omega), HP2, HY2, BW.trans b9⟩
                          case measure => have := HK.out; simp [intOf]; omega
                    · have HP2 := Lib.hid (show Part m.cost.length (passB (shutM m xs day)) (nextL (shutM m xs day)) (k : Int) (fun _ : Int => False) [] (i + 1) 0 P1 from by
                        obtain ⟨hi1, hy1⟩ := List.getElem?_eq_some_iff.1 HY.out
                        exact PA.out.done (by omega) hi1 (fun z hz => by rw [hy1] at hz; exact (HE.out z).1 hz))
                      have hi1 : i + 1 ≤ P1.length := (List.getElem?_eq_some_iff.1 HY.out).1
                      have hi36 : i ≤ 36 := by omega
                      have HI1 := Lib.hid hi1
                      clear PA hi1 cm
                      go_wp2_with fail
                      go_roundw
                      case rel => exact ⟨i + 1, c8, A8, P1, HI1.out, by go_num, rfl, own8, HP2, BW⟩
                      case measure => simp [intOf]; omega
                · have HLK := Lib.hid (PA.out.like (near_shut m xs day) HOK.out HKR.out (fun _ h => h.elim) (by omega))
                  have HALL := Lib.hid (show ∀ c, SeenAt (passB (shutM m xs day)) (nextL (shutM m xs day)) (k + 1) c ↔ SeenAt (passB (shutM m xs day)) (nextL (shutM m xs day)) k c ∨ c ∈ P from fun c => by rw [seen_taken HOK.out, PA.out.all (near_shut m xs day) HOK.out (fun _ h => h.elim) (by omega)])
                  have HTK := Lib.hid (show bestOf (partsM m.cost.length (passB (shutM m xs day)) (nextL (shutM m xs day)) (k + 1)) = longer (bestOf (partsM m.cost.length (passB (shutM m xs day)) (nextL (shutM m xs day)) k)) (partL m.cost.length (nextL (shutM m xs day)) (k : Int)) from by rw [partsM_taken HTA.out, bestOf_snoc])
                  have HLG := Lib.hid (HLB.out.longer HLK.out)
                  have OS' := own_below OS (show Below wo.heap.size wo wr from BW)
                  have OB' := own_below OB (show Below wo.heap.size wo wr from BW)
                  have HTS := Lib.hid (fun b (hb : OwnB As b) => own_top OS hb)
                  have HTB := Lib.hid (fun b (hb : OwnB Ab b) => own_top OB hb)
                  have HTP := Lib.hid (fun b (hb : OwnB A8 b) => own_top own8 hb)
                  have M' := M.only (Only.of_below (show Below wo.heap.size wo wr from BW)) (S := fun _ => False) (fun h => h)
                  have KV : Below w.heap.size w wr := K.trans (BW.mono K.size)
                  have HSL := Lib.hid (show (Sx ++ P).length ≤ 40 * (k + 1) by rw [List.length_append]; have := HSL.out; omega)
                  have hk0 : w.heap.size + 1 ≤ wr.heap.size := by have := M'.lt; omega
                  clear PA OS OB BW
                  by_cases hlen : B.length < P.length
                  · have HLG2 := Lib.hid (show Like P (bestOf (partsM m.cost.length (passB (shutM m xs day)) (nextL (shutM m xs day)) (k + 1))) from by
                      rw [HTK.out]
                      have h := HLG.out
                      rwa [show longer B P = P from if_pos hlen] at h)
                    clear HLG
                    go_wp2_with (at_builtin; go_loud (refine wpList_cat rfl _ _ _ (by rfl) Try.underlying22 info_int rfl (by decide) (by rfl) OS' (by rfl) (m := P.length) (Sees.of_own own8) (ints_all _) (by omega) (by omega) (by decide) (by omega) ?_); intro A5 c5 w5 o5 h5 b5 q5)
                    have own8' := own_only own8 h5 (fun b hb hb2 => by have := HTS.out b hb2; have := HTP.out b hb; omega)
                    have OB5 := own_only OB' h5 (fun b hb hb2 => HFB.out b hb hb2)
                    have M5 := M'.only h5 (fun hb => by have := HTS.out _ hb; omega)
                    have K5 : Below w.heap.size w w5 := KV.trans (b5.mono (by omega))
                    rw [← List.length_append, ← ints_append] at o5
                    have z5 := b5.size
                    have FA5 := Lib.hid (fun b (h1 : OwnB Ab b) (h2 : OwnB A5 b) => show False by
                      rcases q5 b h2 with h3 | h3
                      · exact HFB.out b h1 h3
                      · have := HTB.out b h1; have := M.lt; omega)
                    have FP5 := Lib.hid (fun b (h1 : OwnB A8 b) (h2 : OwnB A5 b) => show False by
                      rcases q5 b h2 with h3 | h3
                      · have := HTS.out b h3; have := HTP.out b h1; omega
                      · have := HTP.out b h1; omega)
                    have HMS := Lib.hid (fun c => show c ∈ Sx ++ P ↔ SeenAt (passB (shutM m xs day)) (nextL (shutM m xs day)) (k + 1) c from by rw [HALL.out, List.mem_append, HS.out])
                    have own9 := own_base own8' (show w.heap.size + 1 ≤ wo.heap.size from M.lt)
                    clear own8 OB' OS' M' KV h5 b5 q5
                    go_roundw
                    case rel => exact ⟨k + 1, c8, c5, A8, A5, P, Sx ++ P, by omega, by go_num, rfl, by rw [List.length_append], own9, o5, HLG2, HMS, HSL, FP5, by omega, M5, K5⟩
                    case measure => simp [intOf]; omega
                  · have HLG2 := Lib.hid (show Like B (bestOf (partsM m.cost.length (passB (shutM m xs day)) (nextL (shutM m xs day)) (k + 1))) from by
                      rw [HTK.out]
                      have h := HLG.out
                      rwa [show longer B P = B from if_neg hlen] at h)
                    clear HLG
                    go_wp2_with (at_builtin; go_loud (refine wpList_cat rfl _ _ _ (by rfl) Try.underlying22 info_int rfl (by decide) (by rfl) OS' (by rfl) (m := P.length) (Sees.of_own own8) (ints_all _) (by omega) (by omega) (by decide) (by omega) ?_); intro A5 c5 w5 o5 h5 b5 q5)
                    have own8' := own_only own8 h5 (fun b hb hb2 => by have := HTS.out b hb2; have := HTP.out b hb; omega)
                    have OB5 := own_only OB' h5 (fun b hb hb2 => HFB.out b hb hb2)
                    have M5 := M'.only h5 (fun hb => by have := HTS.out _ hb; omega)
                    have K5 : Below w.heap.size w w5 := KV.trans (b5.mono (by omega))
                    rw [← List.length_append, ← ints_append] at o5
                    have z5 := b5.size
                    have FA5 := Lib.hid (fun b (h1 : OwnB Ab b) (h2 : OwnB A5 b) => show False by
                      rcases q5 b h2 with h3 | h3
                      · exact HFB.out b h1 h3
                      · have := HTB.out b h1; have := M.lt; omega)
                    have FP5 := Lib.hid (fun b (h1 : OwnB A8 b) (h2 : OwnB A5 b) => show False by
                      rcases q5 b h2 with h3 | h3
                      · have := HTS.out b h3; have := HTP.out b h1; omega
                      · have := HTP.out b h1; omega)
                    have HMS := Lib.hid (fun c => show c ∈ Sx ++ P ↔ SeenAt (passB (shutM m xs day)) (nextL (shutM m xs day)) (k + 1) c from by rw [HALL.out, List.mem_append, HS.out])
                    have own9 := own_base own8' (show w.heap.size + 1 ≤ wo.heap.size from M.lt)
                    clear own8 OB' OS' M' KV h5 b5 q5
                    go_roundw
                    case rel => exact ⟨k + 1, cb, c5, Ab, A5, B, Sx ++ P, by omega, by go_num, rfl, by rw [List.length_append], OB5, o5, HLG2, HMS, HSL, FA5, hB36, M5, K5⟩
                    case measure => simp [intOf]; omega
        · have HE := Lib.hid (show largestM m xs day = some (putsI B) from by
            have e : k = m.cost.length := by have := HL2.out; omega
            have h := HLB.out.puts
            rw [e] at h
            rw [HR.out, h])
          have HBN := Lib.hid HLB.out.nodup
          have hg := M.lt
          have OE := own_empty wr 3 1
          have OB0 := own_below OB (show Below wr.heap.size wr (wr.alloc (.cells #[] 3)) from (Below.refl _ _).alloc (Nat.le_refl _) _)
          have KE := K.alloc K.size (.cells #[] 3)
          have OE0 := own_base OE K.size
          clear OB OS HLB HS HSL HFB M K OE
          go_wp2_with fail
          clear cm
          generalize wr.alloc (.cells #[] 3) = wq at *
          go_loopw [15, 16] (fun ov iv wx => ∃ (i g co : Nat) (Q : List Int), i ≤ B.length ∧ iv = .int .i64 (i : Int) ∧ ov = .slice (some ⟨g, 0, none⟩) Q.length co ∧ Q.length ≤ co ∧ Q.length ≤ i ∧ Hid (Q = putsI (B.take i)) ∧ wx.ownsRow w.heap.size 3 1 (.slice (some ⟨g, 0, none⟩) Q.length co) Q.length (ints Q) ∧ wx.ownsRow (w.heap.size + 1) 3 1 (.slice Ab B.length cb) B.length (ints B) ∧ Below w.heap.size w wx) (fun _ iv _ => B.length - (intOf iv).toNat)
          case atStart => exact ⟨0, _, 0, [], Nat.zero_le _, rfl, rfl, Nat.le_refl _, Nat.le_refl _, Lib.hid rfl, OE0, OB0, KE⟩
          case round =>
            obtain ⟨i, g, co, Q, hi0, rfl, rfl, hQc, hQi, HQ, OQ, OB, K⟩ := hrel
            clear OE0 OB0 KE
            by_cases hlt2 : i < B.length
            · obtain ⟨bb, ob, rfl, _, hcB⟩ := (Sees.of_own OB).int hlt2
              have HI1 := Lib.hid (show i + 1 ≤ B.length from hlt2)
              obtain ⟨y, hy⟩ : ∃ y, B[i] = y := ⟨_, rfl⟩
              have HNI := Lib.hid (show y ∉ Q from by
                rw [HQ.out, ← hy]
                exact putsI_new HBN.out hlt2)
              have HQN := Lib.hid (show putsI (B.take (i + 1)) = putI Q y from by rw [putsI_next hlt2, HQ.out]; exact congrArg (putI _) hy)
              rw [show B[i] = y from hy] at hcB
              clear hy
              have hi36 : i ≤ 36 := by omega
              go_wp2_with fail
              refine (l1Put_any _ _ _ _ _ Q y _ (Sees.of_own OQ) (by omega) hQc HNI.out).mono ?_
              rintro e w7 ⟨A7, c7, rfl, o7, b7⟩
              have hpos : (putI Q y).length ≠ 0 := fun h => by
                have h1 : y ∈ putI Q y := putI_mem.2 (.inr rfl)
                rw [List.eq_nil_of_length_eq_zero h] at h1
                cases h1
              obtain ⟨g7, rfl, hnc7⟩ : ∃ g7, A7 = some ⟨g7, 0, none⟩ ∧ (putI Q y).length ≤ c7 := by
                rcases own_open o7 with ⟨_, h, _⟩ | ⟨g7, _, h1, _, _, _, h2, _⟩
                · exact absurd h hpos
                · exact ⟨g7, h1, h2⟩
              have o8 := own_base o7 K.size
              have OB8 := own_below OB b7
              have K8 := bel_then K b7
              have hpl : (putI Q y).length ≤ i + 1 := Nat.le_trans putI_len (by omega)
              clear o7 b7 hpos hcB
              go_wp2_with fail
              go_roundw
              case rel => exact ⟨i + 1, g7, c7, putI Q y, HI1.out, by go_num, rfl, hnc7, hpl, Lib.hid HQN.out.symm, o8, OB8, K8⟩
              case measure => have := HI1.out; simp [intOf]; omega
            · have HE2 := Lib.hid (show largestM m xs day = some Q from by rw [HE.out, HQ.out, List.take_of_length_le (by omega)])
              clear HQ
              go_wp2_with fail
              go_ret2
              rw [HE2.out]
              exact ⟨_, _, rfl, OQ, K⟩

end Go.Proofs.Ytljiflbaknakaaa
