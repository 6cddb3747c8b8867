/- The walk of the law FnExactAddArea. -/
import Derived.Test.YtljiflbaknakaaaAddM
namespace Go.Proofs.Ytljiflbaknakaaa
open Go.RowKit

set_option maxRecDepth 100000 in
set_option maxHeartbeats 2000000 in
theorem FnExactAddArea_any (A1m A2m : Option Addr) (n1m n2m c1m c2m : Nat) (m : MapV) (Axs : Option Addr) (nxs cxs : Nat) (xs : List Area) (Aa : Option Addr) (na ca : Nat) (a : Area) (w : World) (hm : SeesMap w A1m n1m A2m n2m m) (hnm : n1m ≤ 9223372036854775807 ∧ n2m ≤ 9223372036854775807) (hxs : SeesN areaSh w 0 Axs nxs xs) (hnxs : nxs ≤ 9223372036854775807) (hkxs : ∀ x ∈ xs, x.cnt ≤ 9223372036854775807) (ha : Sees w 0 1 Aa na (ints a.cells)) (hna : na ≤ 9223372036854775807) :
    Calls Try.prog 10 #[.agg #[.int .i64 m.width, .int .i64 m.height, .slice A1m n1m c1m, .slice A2m n2m c2m], .slice Axs nxs cxs, .agg #[.int .i64 a.id, .slice Aa na ca, .int .i64 a.first, .int .i64 a.last]] w fun e w' => e = .returned (.bool true) ∧ Below w.heap.size w w' := by
  have hR := addArea_len m xs a
  have hRw := addArea_wt m xs a
  have hRi := addArea_cnt m xs a
  have hlxs := hxs.count
  have K0 := Below.refl w.heap.size w
  go_enter Try.func10, Try.ntmps10
  go_wp2_with fail
  replace K0 : Below w.heap.size w ((w.alloc (.cells #[.int .i64 m.width, .int .i64 m.height, .slice A1m n1m c1m, .slice A2m n2m c2m] 24)).alloc (.cells #[.int .i64 a.id, .slice Aa na ca, .int .i64 a.first, .int .i64 a.last] 59)) := (((Below.refl w.heap.size w).alloc (by simp) (.cells #[.int .i64 m.width, .int .i64 m.height, .slice A1m n1m c1m, .slice A2m n2m c2m] 24)).alloc (by simp) (.cells #[.int .i64 a.id, .slice Aa na ca, .int .i64 a.first, .int .i64 a.last] 59))
  have Bm : Blk ((w.alloc (.cells #[.int .i64 m.width, .int .i64 m.height, .slice A1m n1m c1m, .slice A2m n2m c2m] 24)).alloc (.cells #[.int .i64 a.id, .slice Aa na ca, .int .i64 a.first, .int .i64 a.last] 59)) (w.heap.size) 24 [.int .i64 m.width, .int .i64 m.height, .slice A1m n1m c1m, .slice A2m n2m c2m] := ((Blk.at_ (by simp)).alloc _)
  have Ba : Blk ((w.alloc (.cells #[.int .i64 m.width, .int .i64 m.height, .slice A1m n1m c1m, .slice A2m n2m c2m] 24)).alloc (.cells #[.int .i64 a.id, .slice Aa na ca, .int .i64 a.first, .int .i64 a.last] 59)) (w.heap.size + 1) 59 [.int .i64 a.id, .slice Aa na ca, .int .i64 a.first, .int .i64 a.last] := (Blk.at_ (by simp))
  have Y0 : w.heap.size + 2 ≤ ((w.alloc (.cells #[.int .i64 m.width, .int .i64 m.height, .slice A1m n1m c1m, .slice A2m n2m c2m] 24)).alloc (.cells #[.int .i64 a.id, .slice Aa na ca, .int .i64 a.first, .int .i64 a.last] 59)).heap.size := by simp
  generalize ((w.alloc (.cells #[.int .i64 m.width, .int .i64 m.height, .slice A1m n1m c1m, .slice A2m n2m c2m] 24)).alloc (.cells #[.int .i64 a.id, .slice Aa na ca, .int .i64 a.first, .int .i64 a.last] 59)) = w0 at *
  have Cm := Bm.cell
  have Ca := Ba.cell
  go_wp2_with fail
  refine (szMap_any _ _ _ _ _ _ _ _ _ _ hnm (by omega) (by omega)).mono ?_
  rintro e w1 ⟨lm, rfl, b1, rfl | hlm⟩
  · go_wp2_with fail
    go_ret
    exact ⟨rfl, bel_then K0 b1⟩
  have K1 := bel_then K0 b1
  have Z1 := b1.size
  have Y1 := K1.size
  clear Cm Ca
  replace Bm := Bm.next b1
  replace Ba := Ba.next b1
  clear b1
  have Cm := Bm.cell
  have Ca := Ba.cell
  go_wp2_with fail
  refine (szAreaS_any _ _ _ xs _ _ (hxs.below K1 (Nat.le_refl _)) hkxs hnxs (by omega) (by omega)).mono ?_
  rintro e w2 ⟨lxs, rfl, b2, rfl | ⟨pxs, qxs⟩⟩
  · go_wp2_with fail
    go_ret
    exact ⟨rfl, bel_then K1 b2⟩
  have K2 := bel_then K1 b2
  have Z2 := b2.size
  have Y2 := K2.size
  clear Cm Ca
  replace Bm := Bm.next b2
  replace Ba := Ba.next b2
  clear b2
  have Cm := Bm.cell
  have Ca := Ba.cell
  go_wp2_with fail
  refine (szArea_any _ _ _ a _ _ hna (by omega) (by omega)).mono ?_
  rintro e w3 ⟨la, rfl, b3, rfl | hla⟩
  · go_wp2_with fail
    go_ret
    exact ⟨rfl, bel_then K2 b3⟩
  have K3 := bel_then K2 b3
  have Z3 := b3.size
  have Y3 := K3.size
  clear Cm Ca
  replace Bm := Bm.next b3
  replace Ba := Ba.next b3
  clear b3
  have Cm := Bm.cell
  have Ca := Ba.cell
  have hnm' : n1m ≤ 1048576 ∧ n2m ≤ 1048576 := by omega
  have hnxs' : nxs ≤ 1048576 := by omega
  have hixs : ∀ x ∈ xs, x.cnt ≤ 1048576 := fun x hx => by have := wtN_mem Area.cnt hx; omega
  have htxs : wtN Area.wt xs ≤ 100000000 := by rw [Area.wt_total]; omega
  have hna' : na ≤ 1048576 := by omega
  have hca := ha.icount
  have hiR := hRi hixs (by omega)
  clear hRi
  go_wp2_with fail
  have b4 := (Quiet.one w3).below w3.heap.size
  have K4 := bel_then K3 b4
  have Z4 := b4.size
  have Y4 := K4.size
  replace Bm := Bm.next b4
  replace Ba := Ba.next b4
  clear b4
  go_region_held3 (fun w' => w'.cell? ⟨w.heap.size, 0, none⟩ = some (.int .i64 m.width) ∧ w'.cell? ⟨w.heap.size, 1, none⟩ = some (.int .i64 m.height) ∧ w'.cell? ⟨w.heap.size, 2, none⟩ = some (.slice A1m n1m c1m) ∧ w'.cell? ⟨w.heap.size, 3, none⟩ = some (.slice A2m n2m c2m) ∧ w'.cell? ⟨w.heap.size + 1, 0, none⟩ = some (.int .i64 a.id) ∧ w'.cell? ⟨w.heap.size + 1, 1, none⟩ = some (.slice Aa na ca) ∧ w'.cell? ⟨w.heap.size + 1, 2, none⟩ = some (.int .i64 a.first) ∧ w'.cell? ⟨w.heap.size + 1, 3, none⟩ = some (.int .i64 a.last)) (go_keep)
    (first
      | (go_at_call 17
         refine (toMap_any _ _ _ _ _ _ _ _ (hm.below K4 (Nat.le_refl _)) hnm').mono ?_
         rintro e w5 ⟨A5a, A5b, rfl, M5, b5⟩
         have K5 := bel_then K4 b5
         have Z5 := b5.size
         have Y5 := K5.size
         clear Cm Ca
         replace Bm := Bm.next b5
         replace Ba := Ba.next b5
         clear b5
         have Cm := Bm.cell
         have Ca := Ba.cell)
      | (go_at_call 18
         refine (toAreaS_any _ _ _ xs _ (hxs.below K5 (Nat.le_refl _)) hnxs' hixs).mono ?_
         rintro e w6 ⟨A6, rfl, M6, b6⟩
         have K6 := bel_then K5 b6
         have Z6 := b6.size
         have Y6 := K6.size
         clear Cm Ca
         replace Bm := Bm.next b6
         replace Ba := Ba.next b6
         replace M5 := M5.next b6
         clear b6
         have Cm := Bm.cell
         have Ca := Ba.cell)
      | (go_at_call 46
         refine (toArea_any _ _ _ _ a _ (ha.below K6 (Nat.le_refl _)) hna').mono ?_
         rintro e w7 ⟨A7a, rfl, M7, b7⟩
         have K7 := bel_then K6 b7
         have Z7 := b7.size
         have Y7 := K7.size
         clear Cm Ca
         replace Bm := Bm.next b7
         replace Ba := Ba.next b7
         replace M5 := M5.next b7
         replace M6 := M6.next b7
         clear b7
         have Cm := Bm.cell
         have Ca := Ba.cell)
      | (go_at_call 45
         refine (specAddArea_any _ _ _ _ _ _ m _ _ _ xs _ _ _ a _ M5.sees hnm' M6.sees hnxs' hixs M7.sees hna' M6.shape).mono ?_
         generalize hRe : addArea m xs a = R at *
         have HR := Lib.hid hRe
         clear hRe
         rintro e w8 ⟨A8, c8, rfl, M8, b8⟩
         have K8 := bel_then K7 b8
         have Z8 := b8.size
         have Y8 := K8.size
         clear Cm Ca
         replace Bm := Bm.next b8
         replace Ba := Ba.next b8
         replace M5 := M5.next b8
         replace M6 := M6.next b8
         replace M7 := M7.next b8
         clear b8
         have Cm := Bm.cell
         have Ca := Ba.cell))
  go_wp2_with fail
  refine (toMap_any _ _ _ _ _ _ _ _ (hm.below K8 (Nat.le_refl _)) hnm').mono ?_
  rintro e w9 ⟨A9a, A9b, rfl, M9, b9⟩
  have K9 := bel_then K8 b9
  have Z9 := b9.size
  have Y9 := K9.size
  clear Cm Ca
  replace Bm := Bm.next b9
  replace Ba := Ba.next b9
  replace M5 := M5.next b9
  replace M6 := M6.next b9
  replace M7 := M7.next b9
  replace M8 := M8.next b9
  clear b9
  have Cm := Bm.cell
  have Ca := Ba.cell
  go_wp2_with fail
  have b10 : Below w9.heap.size w9 (w9.alloc (.cells #[.int .i64 m.width, .int .i64 m.height, .slice A9a n1m n1m, .slice A9b n2m n2m] 29)) := (Below.refl _ _).alloc (Nat.le_refl _) _
  have BXm : Blk (w9.alloc (.cells #[.int .i64 m.width, .int .i64 m.height, .slice A9a n1m n1m, .slice A9b n2m n2m] 29)) w9.heap.size 29 [.int .i64 m.width, .int .i64 m.height, .slice A9a n1m n1m, .slice A9b n2m n2m] := Blk.at_ rfl
  have K10 := bel_then K9 b10
  have Z10 := b10.size
  have Y10 := K10.size
  clear Cm Ca
  replace Bm := Bm.next b10
  replace Ba := Ba.next b10
  replace M5 := M5.next b10
  replace M6 := M6.next b10
  replace M7 := M7.next b10
  replace M8 := M8.next b10
  replace M9 := M9.next b10
  clear b10
  have Cm := Bm.cell
  have Ca := Ba.cell
  have V10 : w9.heap.size + 1 ≤ (w9.alloc (.cells #[.int .i64 m.width, .int .i64 m.height, .slice A9a n1m n1m, .slice A9b n2m n2m] 29)).heap.size := by simp
  generalize (w9.alloc (.cells #[.int .i64 m.width, .int .i64 m.height, .slice A9a n1m n1m, .slice A9b n2m n2m] 29)) = w10 at *
  have CXm := BXm.cell
  go_wp2_with fail
  refine (toAreaS_any _ _ _ xs _ (hxs.below K10 (Nat.le_refl _)) hnxs' hixs).mono ?_
  rintro e w11 ⟨A11, rfl, M11, b11⟩
  have K11 := bel_then K10 b11
  have Z11 := b11.size
  have Y11 := K11.size
  clear Cm Ca CXm
  replace Bm := Bm.next b11
  replace Ba := Ba.next b11
  replace M5 := M5.next b11
  replace M6 := M6.next b11
  replace M7 := M7.next b11
  replace M8 := M8.next b11
  replace M9 := M9.next b11
  replace BXm := BXm.next b11
  clear b11
  have Cm := Bm.cell
  have Ca := Ba.cell
  have CXm := BXm.cell
  go_wp2_with fail
  refine (toArea_any _ _ _ _ a _ (ha.below K11 (Nat.le_refl _)) hna').mono ?_
  rintro e w12 ⟨A12a, rfl, M12, b12⟩
  have K12 := bel_then K11 b12
  have Z12 := b12.size
  have Y12 := K12.size
  clear Cm Ca CXm
  replace Bm := Bm.next b12
  replace Ba := Ba.next b12
  replace M5 := M5.next b12
  replace M6 := M6.next b12
  replace M7 := M7.next b12
  replace M8 := M8.next b12
  replace M9 := M9.next b12
  replace BXm := BXm.next b12
  replace M11 := M11.next b12
  clear b12
  have Cm := Bm.cell
  have Ca := Ba.cell
  have CXm := BXm.cell
  have l13_0 : w.heap.size < w12.heap.size := by omega
  have l13_1 : w.heap.size + 1 < w12.heap.size := by omega
  have l13_2 : w9.heap.size < w12.heap.size := by omega
  go_wp2_with fail
  have b13 : Below w12.heap.size w12 (w12.alloc (.cells #[.int .i64 a.id, .slice A12a na na, .int .i64 a.first, .int .i64 a.last] 62)) := (Below.refl _ _).alloc (Nat.le_refl _) _
  have BXa : Blk (w12.alloc (.cells #[.int .i64 a.id, .slice A12a na na, .int .i64 a.first, .int .i64 a.last] 62)) w12.heap.size 62 [.int .i64 a.id, .slice A12a na na, .int .i64 a.first, .int .i64 a.last] := Blk.at_ rfl
  have K13 := bel_then K12 b13
  have Z13 := b13.size
  have Y13 := K13.size
  clear Cm Ca CXm
  replace Bm := Bm.next b13
  replace Ba := Ba.next b13
  replace M5 := M5.next b13
  replace M6 := M6.next b13
  replace M7 := M7.next b13
  replace M8 := M8.next b13
  replace M9 := M9.next b13
  replace BXm := BXm.next b13
  replace M11 := M11.next b13
  replace M12 := M12.next b13
  clear b13
  have Cm := Bm.cell
  have Ca := Ba.cell
  have CXm := BXm.cell
  have V13 : w12.heap.size + 1 ≤ (w12.alloc (.cells #[.int .i64 a.id, .slice A12a na na, .int .i64 a.first, .int .i64 a.last] 62)).heap.size := by simp
  generalize (w12.alloc (.cells #[.int .i64 a.id, .slice A12a na na, .int .i64 a.first, .int .i64 a.last] 62)) = w13 at *
  have CXa := BXa.cell
  go_wp2_with fail
  refine (AddArea_any _ _ _ _ _ _ m _ _ _ xs _ _ _ a _ M9.sees hnm' M11.sees hnxs' hixs M12.sees hna').mono ?_
  rw [HR.out]
  rintro e w14 ⟨A14, c14, rfl, M14, b14⟩
  have K14 := bel_then K13 b14
  have Z14 := b14.size
  have Y14 := K14.size
  clear Cm Ca CXm CXa
  replace Bm := Bm.next b14
  replace Ba := Ba.next b14
  replace M5 := M5.next b14
  replace M6 := M6.next b14
  replace M7 := M7.next b14
  replace M8 := M8.next b14
  replace M9 := M9.next b14
  replace BXm := BXm.next b14
  replace M11 := M11.next b14
  replace M12 := M12.next b14
  replace BXa := BXa.next b14
  clear b14
  have Cm := Bm.cell
  have Ca := Ba.cell
  have CXm := BXm.cell
  have CXa := BXa.cell
  go_wp2_with fail
  refine (eqAreaS_any _ _ _ _ _ _ _ _ _ _ _ M14.sees M8.sees rfl (by omega) hiR).mono ?_
  rintro e w15 ⟨rfl, b15⟩
  have K15 := bel_then K14 b15
  have Z15 := b15.size
  have Y15 := K15.size
  clear Cm Ca CXm CXa
  replace Bm := Bm.next b15
  replace Ba := Ba.next b15
  replace M5 := M5.next b15
  replace M6 := M6.next b15
  replace M7 := M7.next b15
  replace M8 := M8.next b15
  replace M9 := M9.next b15
  replace BXm := BXm.next b15
  replace M11 := M11.next b15
  replace M12 := M12.next b15
  replace BXa := BXa.next b15
  replace M14 := M14.next b15
  clear b15
  have Cm := Bm.cell
  have Ca := Ba.cell
  have CXm := BXm.cell
  have CXa := BXa.cell
  go_wp2_with fail
  have b16 := (Quiet.one w15).below w15.heap.size
  have K16 := bel_then K15 b16
  have Z16 := b16.size
  have Y16 := K16.size
  replace Bm := Bm.next b16
  replace Ba := Ba.next b16
  replace M5 := M5.next b16
  replace M6 := M6.next b16
  replace M7 := M7.next b16
  replace M8 := M8.next b16
  replace M9 := M9.next b16
  replace BXm := BXm.next b16
  replace M11 := M11.next b16
  replace M12 := M12.next b16
  replace BXa := BXa.next b16
  replace M14 := M14.next b16
  clear b16
  go_region_held3 (fun w' => w'.cell? ⟨w.heap.size, 0, none⟩ = some (.int .i64 m.width) ∧ w'.cell? ⟨w.heap.size, 1, none⟩ = some (.int .i64 m.height) ∧ w'.cell? ⟨w.heap.size, 2, none⟩ = some (.slice A1m n1m c1m) ∧ w'.cell? ⟨w.heap.size, 3, none⟩ = some (.slice A2m n2m c2m) ∧ w'.cell? ⟨w.heap.size + 1, 0, none⟩ = some (.int .i64 a.id) ∧ w'.cell? ⟨w.heap.size + 1, 1, none⟩ = some (.slice Aa na ca) ∧ w'.cell? ⟨w.heap.size + 1, 2, none⟩ = some (.int .i64 a.first) ∧ w'.cell? ⟨w.heap.size + 1, 3, none⟩ = some (.int .i64 a.last) ∧ w'.cell? ⟨w9.heap.size, 0, none⟩ = some (.int .i64 m.width) ∧ w'.cell? ⟨w9.heap.size, 1, none⟩ = some (.int .i64 m.height) ∧ w'.cell? ⟨w9.heap.size, 2, none⟩ = some (.slice A9a n1m n1m) ∧ w'.cell? ⟨w9.heap.size, 3, none⟩ = some (.slice A9b n2m n2m) ∧ w'.cell? ⟨w12.heap.size, 0, none⟩ = some (.int .i64 a.id) ∧ w'.cell? ⟨w12.heap.size, 1, none⟩ = some (.slice A12a na na) ∧ w'.cell? ⟨w12.heap.size, 2, none⟩ = some (.int .i64 a.first) ∧ w'.cell? ⟨w12.heap.size, 3, none⟩ = some (.int .i64 a.last)) (go_keep)
    (first
      | (go_at_call 17
         refine (toMap_any _ _ _ _ _ _ _ _ (hm.below K16 (Nat.le_refl _)) hnm').mono ?_
         rintro e w17 ⟨A17a, A17b, rfl, M17, b17⟩
         have K17 := bel_then K16 b17
         have Z17 := b17.size
         have Y17 := K17.size
         clear Cm Ca CXm CXa
         replace Bm := Bm.next b17
         replace Ba := Ba.next b17
         replace M5 := M5.next b17
         replace M6 := M6.next b17
         replace M7 := M7.next b17
         replace M8 := M8.next b17
         replace M9 := M9.next b17
         replace BXm := BXm.next b17
         replace M11 := M11.next b17
         replace M12 := M12.next b17
         replace BXa := BXa.next b17
         replace M14 := M14.next b17
         clear b17
         have Cm := Bm.cell
         have Ca := Ba.cell
         have CXm := BXm.cell
         have CXa := BXa.cell)
      | (go_at_call 20
         refine (eqMap_any _ _ _ _ _ _ _ _ _ _ _ _ _ _ _ M9.sees M17.sees rfl hnm').mono ?_
         rintro e w18 ⟨rfl, b18⟩
         have K18 := bel_then K17 b18
         have Z18 := b18.size
         have Y18 := K18.size
         clear Cm Ca CXm CXa
         replace Bm := Bm.next b18
         replace Ba := Ba.next b18
         replace M5 := M5.next b18
         replace M6 := M6.next b18
         replace M7 := M7.next b18
         replace M8 := M8.next b18
         replace M9 := M9.next b18
         replace BXm := BXm.next b18
         replace M11 := M11.next b18
         replace M12 := M12.next b18
         replace BXa := BXa.next b18
         replace M14 := M14.next b18
         replace M17 := M17.next b18
         clear b18
         have Cm := Bm.cell
         have Ca := Ba.cell
         have CXm := BXm.cell
         have CXa := BXa.cell))
  go_wp2_with fail
  refine (toAreaS_any _ _ _ xs _ (hxs.below K18 (Nat.le_refl _)) hnxs' hixs).mono ?_
  rintro e w19 ⟨A19, rfl, M19, b19⟩
  have K19 := bel_then K18 b19
  have Z19 := b19.size
  have Y19 := K19.size
  clear Cm Ca CXm CXa
  replace Bm := Bm.next b19
  replace Ba := Ba.next b19
  replace M5 := M5.next b19
  replace M6 := M6.next b19
  replace M7 := M7.next b19
  replace M8 := M8.next b19
  replace M9 := M9.next b19
  replace BXm := BXm.next b19
  replace M11 := M11.next b19
  replace M12 := M12.next b19
  replace BXa := BXa.next b19
  replace M14 := M14.next b19
  replace M17 := M17.next b19
  clear b19
  have Cm := Bm.cell
  have Ca := Ba.cell
  have CXm := BXm.cell
  have CXa := BXa.cell
  go_wp2_with fail
  refine (eqAreaS_any _ _ _ _ _ _ _ _ _ _ _ M11.sees M19.sees rfl (by omega) hixs).mono ?_
  rintro e w20 ⟨rfl, b20⟩
  have K20 := bel_then K19 b20
  have Z20 := b20.size
  have Y20 := K20.size
  clear Cm Ca CXm CXa
  replace Bm := Bm.next b20
  replace Ba := Ba.next b20
  replace M5 := M5.next b20
  replace M6 := M6.next b20
  replace M7 := M7.next b20
  replace M8 := M8.next b20
  replace M9 := M9.next b20
  replace BXm := BXm.next b20
  replace M11 := M11.next b20
  replace M12 := M12.next b20
  replace BXa := BXa.next b20
  replace M14 := M14.next b20
  replace M17 := M17.next b20
  replace M19 := M19.next b20
  clear b20
  have Cm := Bm.cell
  have Ca := Ba.cell
  have CXm := BXm.cell
  have CXa := BXa.cell
  go_wp2_with fail
  have b21 := (Quiet.one w20).below w20.heap.size
  have K21 := bel_then K20 b21
  have Z21 := b21.size
  have Y21 := K21.size
  replace Bm := Bm.next b21
  replace Ba := Ba.next b21
  replace M5 := M5.next b21
  replace M6 := M6.next b21
  replace M7 := M7.next b21
  replace M8 := M8.next b21
  replace M9 := M9.next b21
  replace BXm := BXm.next b21
  replace M11 := M11.next b21
  replace M12 := M12.next b21
  replace BXa := BXa.next b21
  replace M14 := M14.next b21
  replace M17 := M17.next b21
  replace M19 := M19.next b21
  clear b21
  go_region_held3 (fun w' => w'.cell? ⟨w.heap.size, 0, none⟩ = some (.int .i64 m.width) ∧ w'.cell? ⟨w.heap.size, 1, none⟩ = some (.int .i64 m.height) ∧ w'.cell? ⟨w.heap.size, 2, none⟩ = some (.slice A1m n1m c1m) ∧ w'.cell? ⟨w.heap.size, 3, none⟩ = some (.slice A2m n2m c2m) ∧ w'.cell? ⟨w.heap.size + 1, 0, none⟩ = some (.int .i64 a.id) ∧ w'.cell? ⟨w.heap.size + 1, 1, none⟩ = some (.slice Aa na ca) ∧ w'.cell? ⟨w.heap.size + 1, 2, none⟩ = some (.int .i64 a.first) ∧ w'.cell? ⟨w.heap.size + 1, 3, none⟩ = some (.int .i64 a.last) ∧ w'.cell? ⟨w9.heap.size, 0, none⟩ = some (.int .i64 m.width) ∧ w'.cell? ⟨w9.heap.size, 1, none⟩ = some (.int .i64 m.height) ∧ w'.cell? ⟨w9.heap.size, 2, none⟩ = some (.slice A9a n1m n1m) ∧ w'.cell? ⟨w9.heap.size, 3, none⟩ = some (.slice A9b n2m n2m) ∧ w'.cell? ⟨w12.heap.size, 0, none⟩ = some (.int .i64 a.id) ∧ w'.cell? ⟨w12.heap.size, 1, none⟩ = some (.slice A12a na na) ∧ w'.cell? ⟨w12.heap.size, 2, none⟩ = some (.int .i64 a.first) ∧ w'.cell? ⟨w12.heap.size, 3, none⟩ = some (.int .i64 a.last)) (go_keep)
    (first
      | (go_at_call 46
         refine (toArea_any _ _ _ _ a _ (ha.below K21 (Nat.le_refl _)) hna').mono ?_
         rintro e w22 ⟨A22a, rfl, M22, b22⟩
         have K22 := bel_then K21 b22
         have Z22 := b22.size
         have Y22 := K22.size
         clear Cm Ca CXm CXa
         replace Bm := Bm.next b22
         replace Ba := Ba.next b22
         replace M5 := M5.next b22
         replace M6 := M6.next b22
         replace M7 := M7.next b22
         replace M8 := M8.next b22
         replace M9 := M9.next b22
         replace BXm := BXm.next b22
         replace M11 := M11.next b22
         replace M12 := M12.next b22
         replace BXa := BXa.next b22
         replace M14 := M14.next b22
         replace M17 := M17.next b22
         replace M19 := M19.next b22
         clear b22
         have Cm := Bm.cell
         have Ca := Ba.cell
         have CXm := BXm.cell
         have CXa := BXa.cell)
      | (go_at_call 48
         refine (eqArea_any _ _ _ _ _ _ _ _ _ _ _ M12.sees M22.sees rfl hna').mono ?_
         rintro e w23 ⟨rfl, b23⟩
         have K23 := bel_then K22 b23
         have Z23 := b23.size
         have Y23 := K23.size
         clear Cm Ca CXm CXa
         replace Bm := Bm.next b23
         replace Ba := Ba.next b23
         replace M5 := M5.next b23
         replace M6 := M6.next b23
         replace M7 := M7.next b23
         replace M8 := M8.next b23
         replace M9 := M9.next b23
         replace BXm := BXm.next b23
         replace M11 := M11.next b23
         replace M12 := M12.next b23
         replace BXa := BXa.next b23
         replace M14 := M14.next b23
         replace M17 := M17.next b23
         replace M19 := M19.next b23
         replace M22 := M22.next b23
         clear b23
         have Cm := Bm.cell
         have Ca := Ba.cell
         have CXm := BXm.cell
         have CXa := BXa.cell))
  go_wp2_with fail
  refine (markMap_any _ _ _ _ _ _ _ _ _ _ M9 (by omega) (by omega) hnm').mono ?_
  rintro e w24 ⟨rfl, m24, q24⟩
  replace M9 := m24
  clear m24
  have b24 : Below w.heap.size w23 w24 := q24.below (fun i hi => by have := hi.1; omega) (by omega)
  have K24 := K23.trans b24
  have Z24 := q24.size
  have Y24 := K24.size
  clear b24
  clear Cm Ca CXm CXa
  replace Bm := Bm.only q24 (fun h => by have := h.1; have := h.2; omega)
  replace Ba := Ba.only q24 (fun h => by have := h.1; have := h.2; omega)
  replace M5 := M5.only q24 (fun i h1 h2 => by have := h1.1; have := h1.2; have := h2.1; have := h2.2; omega)
  replace M6 := M6.only q24 (fun i h1 h2 => by have := h1.1; have := h1.2; have := h2.1; have := h2.2; omega)
  replace M7 := M7.only q24 (fun i h1 h2 => by have := h1.1; have := h1.2; have := h2.1; have := h2.2; omega)
  replace M8 := M8.only q24 (fun i h1 h2 => by have := h1.1; have := h1.2; have := h2.1; have := h2.2; omega)
  replace BXm := BXm.only q24 (fun h => by have := h.1; have := h.2; omega)
  replace M11 := M11.only q24 (fun i h1 h2 => by have := h1.1; have := h1.2; have := h2.1; have := h2.2; omega)
  replace M12 := M12.only q24 (fun i h1 h2 => by have := h1.1; have := h1.2; have := h2.1; have := h2.2; omega)
  replace BXa := BXa.only q24 (fun h => by have := h.1; have := h.2; omega)
  replace M14 := M14.only q24 (fun i h1 h2 => by have := h1.1; have := h1.2; have := h2.1; have := h2.2; omega)
  replace M17 := M17.only q24 (fun i h1 h2 => by have := h1.1; have := h1.2; have := h2.1; have := h2.2; omega)
  replace M19 := M19.only q24 (fun i h1 h2 => by have := h1.1; have := h1.2; have := h2.1; have := h2.2; omega)
  replace M22 := M22.only q24 (fun i h1 h2 => by have := h1.1; have := h1.2; have := h2.1; have := h2.2; omega)
  clear q24
  have Cm := Bm.cell
  have Ca := Ba.cell
  have CXm := BXm.cell
  have CXa := BXa.cell
  go_wp2_with fail
  refine (markAreaS_any _ _ _ _ _ _ _ M11 (by omega) (by omega) (by omega)).mono ?_
  rintro e w25 ⟨rfl, m25, q25⟩
  replace M11 := m25
  clear m25
  have b25 : Below w.heap.size w24 w25 := q25.below (fun i hi => by have := hi.1; omega) (by omega)
  have K25 := K24.trans b25
  have Z25 := q25.size
  have Y25 := K25.size
  clear b25
  clear Cm Ca CXm CXa
  replace Bm := Bm.only q25 (fun h => by have := h.1; have := h.2; omega)
  replace Ba := Ba.only q25 (fun h => by have := h.1; have := h.2; omega)
  replace M5 := M5.only q25 (fun i h1 h2 => by have := h1.1; have := h1.2; have := h2.1; have := h2.2; omega)
  replace M6 := M6.only q25 (fun i h1 h2 => by have := h1.1; have := h1.2; have := h2.1; have := h2.2; omega)
  replace M7 := M7.only q25 (fun i h1 h2 => by have := h1.1; have := h1.2; have := h2.1; have := h2.2; omega)
  replace M8 := M8.only q25 (fun i h1 h2 => by have := h1.1; have := h1.2; have := h2.1; have := h2.2; omega)
  replace M9 := M9.only q25 (fun i h1 h2 => by have := h1.1; have := h1.2; have := h2.1; have := h2.2; omega)
  replace BXm := BXm.only q25 (fun h => by have := h.1; have := h.2; omega)
  replace M12 := M12.only q25 (fun i h1 h2 => by have := h1.1; have := h1.2; have := h2.1; have := h2.2; omega)
  replace BXa := BXa.only q25 (fun h => by have := h.1; have := h.2; omega)
  replace M14 := M14.only q25 (fun i h1 h2 => by have := h1.1; have := h1.2; have := h2.1; have := h2.2; omega)
  replace M17 := M17.only q25 (fun i h1 h2 => by have := h1.1; have := h1.2; have := h2.1; have := h2.2; omega)
  replace M19 := M19.only q25 (fun i h1 h2 => by have := h1.1; have := h1.2; have := h2.1; have := h2.2; omega)
  replace M22 := M22.only q25 (fun i h1 h2 => by have := h1.1; have := h1.2; have := h2.1; have := h2.2; omega)
  clear q25
  have Cm := Bm.cell
  have Ca := Ba.cell
  have CXm := BXm.cell
  have CXa := BXa.cell
  go_wp2_with fail
  refine (markArea_any _ _ _ _ _ _ _ M12 (by omega) (by omega) hna').mono ?_
  rintro e w26 ⟨rfl, m26, q26⟩
  replace M12 := m26
  clear m26
  have b26 : Below w.heap.size w25 w26 := q26.below (fun i hi => by have := hi.1; omega) (by omega)
  have K26 := K25.trans b26
  have Z26 := q26.size
  have Y26 := K26.size
  clear b26
  clear Cm Ca CXm CXa
  replace Bm := Bm.only q26 (fun h => by have := h.1; have := h.2; omega)
  replace Ba := Ba.only q26 (fun h => by have := h.1; have := h.2; omega)
  replace M5 := M5.only q26 (fun i h1 h2 => by have := h1.1; have := h1.2; have := h2.1; have := h2.2; omega)
  replace M6 := M6.only q26 (fun i h1 h2 => by have := h1.1; have := h1.2; have := h2.1; have := h2.2; omega)
  replace M7 := M7.only q26 (fun i h1 h2 => by have := h1.1; have := h1.2; have := h2.1; have := h2.2; omega)
  replace M8 := M8.only q26 (fun i h1 h2 => by have := h1.1; have := h1.2; have := h2.1; have := h2.2; omega)
  replace M9 := M9.only q26 (fun i h1 h2 => by have := h1.1; have := h1.2; have := h2.1; have := h2.2; omega)
  replace BXm := BXm.only q26 (fun h => by have := h.1; have := h.2; omega)
  replace M11 := M11.only q26 (fun i h1 h2 => by have := h1.1; have := h1.2; have := h2.1; have := h2.2; omega)
  replace BXa := BXa.only q26 (fun h => by have := h.1; have := h.2; omega)
  replace M14 := M14.only q26 (fun i h1 h2 => by have := h1.1; have := h1.2; have := h2.1; have := h2.2; omega)
  replace M17 := M17.only q26 (fun i h1 h2 => by have := h1.1; have := h1.2; have := h2.1; have := h2.2; omega)
  replace M19 := M19.only q26 (fun i h1 h2 => by have := h1.1; have := h1.2; have := h2.1; have := h2.2; omega)
  replace M22 := M22.only q26 (fun i h1 h2 => by have := h1.1; have := h1.2; have := h2.1; have := h2.2; omega)
  clear q26
  have Cm := Bm.cell
  have Ca := Ba.cell
  have CXm := BXm.cell
  have CXa := BXa.cell
  go_wp2_with fail
  refine (eqAreaS_any _ _ _ _ _ _ _ _ _ _ _ M14.sees M8.sees rfl (by omega) hiR).mono ?_
  rintro e w27 ⟨rfl, b27⟩
  have K27 := bel_then K26 b27
  have Z27 := b27.size
  have Y27 := K27.size
  clear Cm Ca CXm CXa
  replace Bm := Bm.next b27
  replace Ba := Ba.next b27
  replace M5 := M5.next b27
  replace M6 := M6.next b27
  replace M7 := M7.next b27
  replace M8 := M8.next b27
  replace M9 := M9.next b27
  replace BXm := BXm.next b27
  replace M11 := M11.next b27
  replace M12 := M12.next b27
  replace BXa := BXa.next b27
  replace M14 := M14.next b27
  replace M17 := M17.next b27
  replace M19 := M19.next b27
  replace M22 := M22.next b27
  clear b27
  have Cm := Bm.cell
  have Ca := Ba.cell
  have CXm := BXm.cell
  have CXa := BXa.cell
  go_wp2_with fail
  refine (markAreaS_any _ _ _ _ _ _ _ M14 (by omega) (by omega) (by omega)).mono ?_
  rintro e w28 ⟨rfl, m28, q28⟩
  replace M14 := m28
  clear m28
  have b28 : Below w.heap.size w27 w28 := q28.below (fun i hi => by have := hi.1; omega) (by omega)
  have K28 := K27.trans b28
  have Z28 := q28.size
  have Y28 := K28.size
  clear b28
  clear Cm Ca CXm CXa
  replace Bm := Bm.only q28 (fun h => by have := h.1; have := h.2; omega)
  replace Ba := Ba.only q28 (fun h => by have := h.1; have := h.2; omega)
  replace M5 := M5.only q28 (fun i h1 h2 => by have := h1.1; have := h1.2; have := h2.1; have := h2.2; omega)
  replace M6 := M6.only q28 (fun i h1 h2 => by have := h1.1; have := h1.2; have := h2.1; have := h2.2; omega)
  replace M7 := M7.only q28 (fun i h1 h2 => by have := h1.1; have := h1.2; have := h2.1; have := h2.2; omega)
  replace M8 := M8.only q28 (fun i h1 h2 => by have := h1.1; have := h1.2; have := h2.1; have := h2.2; omega)
  replace M9 := M9.only q28 (fun i h1 h2 => by have := h1.1; have := h1.2; have := h2.1; have := h2.2; omega)
  replace BXm := BXm.only q28 (fun h => by have := h.1; have := h.2; omega)
  replace M11 := M11.only q28 (fun i h1 h2 => by have := h1.1; have := h1.2; have := h2.1; have := h2.2; omega)
  replace M12 := M12.only q28 (fun i h1 h2 => by have := h1.1; have := h1.2; have := h2.1; have := h2.2; omega)
  replace BXa := BXa.only q28 (fun h => by have := h.1; have := h.2; omega)
  replace M17 := M17.only q28 (fun i h1 h2 => by have := h1.1; have := h1.2; have := h2.1; have := h2.2; omega)
  replace M19 := M19.only q28 (fun i h1 h2 => by have := h1.1; have := h1.2; have := h2.1; have := h2.2; omega)
  replace M22 := M22.only q28 (fun i h1 h2 => by have := h1.1; have := h1.2; have := h2.1; have := h2.2; omega)
  clear q28
  have Cm := Bm.cell
  have Ca := Ba.cell
  have CXm := BXm.cell
  have CXa := BXa.cell
  go_wp2_with fail
  refine (heldAreaS_any _ _ _ _ _ _ _ M14.sees (by omega) (by omega) (by omega)).mono ?_
  rintro e w29 ⟨rfl, q29⟩
  have b29 := q29.below w28.heap.size
  clear q29
  have K29 := bel_then K28 b29
  have Z29 := b29.size
  have Y29 := K29.size
  clear Cm Ca CXm CXa
  replace Bm := Bm.next b29
  replace Ba := Ba.next b29
  replace M5 := M5.next b29
  replace M6 := M6.next b29
  replace M7 := M7.next b29
  replace M8 := M8.next b29
  replace M9 := M9.next b29
  replace BXm := BXm.next b29
  replace M11 := M11.next b29
  replace M12 := M12.next b29
  replace BXa := BXa.next b29
  replace M14 := M14.next b29
  replace M17 := M17.next b29
  replace M19 := M19.next b29
  replace M22 := M22.next b29
  clear b29
  have Cm := Bm.cell
  have Ca := Ba.cell
  have CXm := BXm.cell
  have CXa := BXa.cell
  go_wp2_with fail
  have b30 := (Quiet.one w29).below w29.heap.size
  have K30 := bel_then K29 b30
  have Z30 := b30.size
  have Y30 := K30.size
  replace Bm := Bm.next b30
  replace Ba := Ba.next b30
  replace M5 := M5.next b30
  replace M6 := M6.next b30
  replace M7 := M7.next b30
  replace M8 := M8.next b30
  replace M9 := M9.next b30
  replace BXm := BXm.next b30
  replace M11 := M11.next b30
  replace M12 := M12.next b30
  replace BXa := BXa.next b30
  replace M14 := M14.next b30
  replace M17 := M17.next b30
  replace M19 := M19.next b30
  replace M22 := M22.next b30
  clear b30
  go_region_held3 (fun w' => w'.cell? ⟨w.heap.size, 0, none⟩ = some (.int .i64 m.width) ∧ w'.cell? ⟨w.heap.size, 1, none⟩ = some (.int .i64 m.height) ∧ w'.cell? ⟨w.heap.size, 2, none⟩ = some (.slice A1m n1m c1m) ∧ w'.cell? ⟨w.heap.size, 3, none⟩ = some (.slice A2m n2m c2m) ∧ w'.cell? ⟨w.heap.size + 1, 0, none⟩ = some (.int .i64 a.id) ∧ w'.cell? ⟨w.heap.size + 1, 1, none⟩ = some (.slice Aa na ca) ∧ w'.cell? ⟨w.heap.size + 1, 2, none⟩ = some (.int .i64 a.first) ∧ w'.cell? ⟨w.heap.size + 1, 3, none⟩ = some (.int .i64 a.last) ∧ w'.cell? ⟨w9.heap.size, 0, none⟩ = some (.int .i64 m.width) ∧ w'.cell? ⟨w9.heap.size, 1, none⟩ = some (.int .i64 m.height) ∧ w'.cell? ⟨w9.heap.size, 2, none⟩ = some (.slice A9a n1m n1m) ∧ w'.cell? ⟨w9.heap.size, 3, none⟩ = some (.slice A9b n2m n2m) ∧ w'.cell? ⟨w12.heap.size, 0, none⟩ = some (.int .i64 a.id) ∧ w'.cell? ⟨w12.heap.size, 1, none⟩ = some (.slice A12a na na) ∧ w'.cell? ⟨w12.heap.size, 2, none⟩ = some (.int .i64 a.first) ∧ w'.cell? ⟨w12.heap.size, 3, none⟩ = some (.int .i64 a.last)) (go_keep)
    (first
      | (go_at_call 17
         refine (toMap_any _ _ _ _ _ _ _ _ (hm.below K30 (Nat.le_refl _)) hnm').mono ?_
         rintro e w31 ⟨A31a, A31b, rfl, M31, b31⟩
         have K31 := bel_then K30 b31
         have Z31 := b31.size
         have Y31 := K31.size
         clear Cm Ca CXm CXa
         replace Bm := Bm.next b31
         replace Ba := Ba.next b31
         replace M5 := M5.next b31
         replace M6 := M6.next b31
         replace M7 := M7.next b31
         replace M8 := M8.next b31
         replace M9 := M9.next b31
         replace BXm := BXm.next b31
         replace M11 := M11.next b31
         replace M12 := M12.next b31
         replace BXa := BXa.next b31
         replace M14 := M14.next b31
         replace M17 := M17.next b31
         replace M19 := M19.next b31
         replace M22 := M22.next b31
         clear b31
         have Cm := Bm.cell
         have Ca := Ba.cell
         have CXm := BXm.cell
         have CXa := BXa.cell)
      | (go_at_call 18
         refine (toAreaS_any _ _ _ xs _ (hxs.below K31 (Nat.le_refl _)) hnxs' hixs).mono ?_
         rintro e w32 ⟨A32, rfl, M32, b32⟩
         have K32 := bel_then K31 b32
         have Z32 := b32.size
         have Y32 := K32.size
         clear Cm Ca CXm CXa
         replace Bm := Bm.next b32
         replace Ba := Ba.next b32
         replace M5 := M5.next b32
         replace M6 := M6.next b32
         replace M7 := M7.next b32
         replace M8 := M8.next b32
         replace M9 := M9.next b32
         replace BXm := BXm.next b32
         replace M11 := M11.next b32
         replace M12 := M12.next b32
         replace BXa := BXa.next b32
         replace M14 := M14.next b32
         replace M17 := M17.next b32
         replace M19 := M19.next b32
         replace M22 := M22.next b32
         replace M31 := M31.next b32
         clear b32
         have Cm := Bm.cell
         have Ca := Ba.cell
         have CXm := BXm.cell
         have CXa := BXa.cell)
      | (go_at_call 46
         refine (toArea_any _ _ _ _ a _ (ha.below K32 (Nat.le_refl _)) hna').mono ?_
         rintro e w33 ⟨A33a, rfl, M33, b33⟩
         have K33 := bel_then K32 b33
         have Z33 := b33.size
         have Y33 := K33.size
         clear Cm Ca CXm CXa
         replace Bm := Bm.next b33
         replace Ba := Ba.next b33
         replace M5 := M5.next b33
         replace M6 := M6.next b33
         replace M7 := M7.next b33
         replace M8 := M8.next b33
         replace M9 := M9.next b33
         replace BXm := BXm.next b33
         replace M11 := M11.next b33
         replace M12 := M12.next b33
         replace BXa := BXa.next b33
         replace M14 := M14.next b33
         replace M17 := M17.next b33
         replace M19 := M19.next b33
         replace M22 := M22.next b33
         replace M31 := M31.next b33
         replace M32 := M32.next b33
         clear b33
         have Cm := Bm.cell
         have Ca := Ba.cell
         have CXm := BXm.cell
         have CXa := BXa.cell)
      | (go_at_call 47
         refine (AddArea_any _ _ _ _ _ _ m _ _ _ xs _ _ _ a _ M31.sees hnm' M32.sees hnxs' hixs M33.sees hna').mono ?_
         rw [HR.out]
         rintro e w34 ⟨A34, c34, rfl, M34, b34⟩
         have K34 := bel_then K33 b34
         have Z34 := b34.size
         have Y34 := K34.size
         clear Cm Ca CXm CXa
         replace Bm := Bm.next b34
         replace Ba := Ba.next b34
         replace M5 := M5.next b34
         replace M6 := M6.next b34
         replace M7 := M7.next b34
         replace M8 := M8.next b34
         replace M9 := M9.next b34
         replace BXm := BXm.next b34
         replace M11 := M11.next b34
         replace M12 := M12.next b34
         replace BXa := BXa.next b34
         replace M14 := M14.next b34
         replace M17 := M17.next b34
         replace M19 := M19.next b34
         replace M22 := M22.next b34
         replace M31 := M31.next b34
         replace M32 := M32.next b34
         replace M33 := M33.next b34
         clear b34
         have Cm := Bm.cell
         have Ca := Ba.cell
         have CXm := BXm.cell
         have CXa := BXa.cell))
  go_wp2_with fail
  refine (eqAreaS_any _ _ _ _ _ _ _ _ _ _ _ M34.sees M8.sees rfl (by omega) hiR).mono ?_
  rintro e w35 ⟨rfl, b35⟩
  have K35 := bel_then K34 b35
  have Z35 := b35.size
  have Y35 := K35.size
  clear Cm Ca CXm CXa
  replace Bm := Bm.next b35
  replace Ba := Ba.next b35
  replace M5 := M5.next b35
  replace M6 := M6.next b35
  replace M7 := M7.next b35
  replace M8 := M8.next b35
  replace M9 := M9.next b35
  replace BXm := BXm.next b35
  replace M11 := M11.next b35
  replace M12 := M12.next b35
  replace BXa := BXa.next b35
  replace M14 := M14.next b35
  replace M17 := M17.next b35
  replace M19 := M19.next b35
  replace M22 := M22.next b35
  replace M31 := M31.next b35
  replace M32 := M32.next b35
  replace M33 := M33.next b35
  replace M34 := M34.next b35
  clear b35
  have Cm := Bm.cell
  have Ca := Ba.cell
  have CXm := BXm.cell
  have CXa := BXa.cell
  go_wp2_with fail
  refine (heldAreaS_any _ _ _ _ _ _ _ M14.sees (by omega) (by omega) (by omega)).mono ?_
  rintro e w36 ⟨rfl, q36⟩
  have b36 := q36.below w35.heap.size
  clear q36
  have K36 := bel_then K35 b36
  have Z36 := b36.size
  have Y36 := K36.size
  clear Cm Ca CXm CXa
  replace Bm := Bm.next b36
  replace Ba := Ba.next b36
  replace M5 := M5.next b36
  replace M6 := M6.next b36
  replace M7 := M7.next b36
  replace M8 := M8.next b36
  replace M9 := M9.next b36
  replace BXm := BXm.next b36
  replace M11 := M11.next b36
  replace M12 := M12.next b36
  replace BXa := BXa.next b36
  replace M14 := M14.next b36
  replace M17 := M17.next b36
  replace M19 := M19.next b36
  replace M22 := M22.next b36
  replace M31 := M31.next b36
  replace M32 := M32.next b36
  replace M33 := M33.next b36
  replace M34 := M34.next b36
  clear b36
  have Cm := Bm.cell
  have Ca := Ba.cell
  have CXm := BXm.cell
  have CXa := BXa.cell
  go_wp2_with fail
  go_ret
  exact ⟨rfl, K36⟩

end Go.Proofs.Ytljiflbaknakaaa
