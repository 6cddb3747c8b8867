/- Joined texts of this proof: RaceS4. -/
import Derived.Test.YtflpcdffmpfdpaaGreatDoorB09
set_option maxRecDepth 100000
set_option maxHeartbeats 8000000
namespace Go.Proofs.YtflpcdffmpfdpaaGreatDoor
open Go.RowKit
theorem jm3 {n : Nat} {k e v : Int} (h : jcq n k e v = true) (h1 : k ≠ 1) (h6 : k ≠ 6) : 2 ≤ k ∧ k ≤ 5 ∧ 0 ≤ e ∧ e < n ∧ (k = 3 → jda v = true) ∧ (k ≠ 3 → v = 0) := by
 unfold jcq inB at h
 rw [if_neg h1, if_neg h6] at h
 by_cases h3 : k = 3
 ·rw [if_pos h3] at h
  simp only [Bool.and_eq_true, decide_eq_true_eq] at h
  exact ⟨by omega, by omega, by omega, by omega, fun _ => h.2, fun h4 => absurd h3 h4⟩
 ·rw [if_neg h3] at h
  simp only [Bool.and_eq_true, decide_eq_true_eq] at h
  exact ⟨by omega, by omega, by omega, by omega, fun h4 => absurd h4 h3, fun _ => h.2.2⟩
theorem jn5 {r : RaceV} {n : Nat} {k e v : Int} (h : jcq n k e v = true) (hk : k = 1 ∨ k = 6) : jfb r k v = jba r k e v := by
 unfold jcq at h
 unfold jfb jba inB
 by_cases h1 : k = 1
 ·rw [if_pos h1] at h ⊢
  rw [if_pos h1]
  simp only [Bool.and_eq_true, decide_eq_true_eq] at h ⊢
  by_cases hc : r.closed = false ∧ v ≤ 36000 - r.clock
  ·rw [if_pos hc, if_pos ⟨hc.1, h.1, h.2, hc.2⟩]
  ·rw [if_neg hc, if_neg (fun g => hc ⟨g.1, g.2.2.2⟩)]
 ·have h6 : k = 6 := hk.resolve_left h1
  rw [if_neg h1, if_pos h6] at h
  rw [if_neg h1, if_neg h1, if_pos h6]
  simp only [Bool.and_eq_true, decide_eq_true_eq] at h
  by_cases hc : r.closed = false ∧ (inL r.field 1).length = 0
  ·rw [if_pos hc, if_pos ⟨hc.1, h.1, h.2, hc.2⟩]
  ·rw [if_neg hc, if_neg (fun g => hc ⟨g.1, g.2.2.2⟩)]
theorem jm8 (t : Int) (cl : Bool) (A : Option Addr) (n c : Nat) (xs : List Entrant) (k e v : Int) (w : World) (hx : SeesN entrantSh w 0 A n xs) (hn1 : 1 ≤ n) (hn : n ≤ 8) (hp : ∀ x ∈ xs, x.punches.length ≤ 12) (ht0 : 0 ≤ t) (ht : t ≤ 36000) (hs : jcq n k e v = true) :
  Calls Tryz.prog 168 #[.agg #[t, cl, .slice A n c], .agg #[k, e, v]] w (jpn w (jba ⟨t, cl, xs⟩ k e v)) := by
 have hi : ∀ x ∈ xs, x.cnt ≤ 1048576 := fun x h => Nat.le_trans (hp x h) (by decide)
 have HLN := Lib.hid hx.count
 have KB := nB3 w (.cells #[t, cl, .slice A n c] 32) (.cells #[k, e, v] 124) (.cells #[.int .i64 0, false, .slice none 0 0] 32)
 have P := nPb w [t, cl, .slice A n c] 32 (.cells #[k, e, v] 124) (.cells #[.int .i64 0, false, .slice none 0 0] 32)
 have Q := nQa w (.cells #[t, cl, .slice A n c] 32) [k, e, v] 124 (.cells #[.int .i64 0, false, .slice none 0 0] 32)
 have Z := nR w (.cells #[t, cl, .slice A n c] 32) (.cells #[k, e, v] 124) [.int .i64 0, false, .slice none 0 0] 32
 have z0 := nZ3 w (.cells #[t, cl, .slice A n c] 32) (.cells #[k, e, v] 124) (.cells #[.int .i64 0, false, .slice none 0 0] 32)
 go_enter Tryz.func168, Tryz.ntmps168
 by_cases k16 : k = 1 ∨ k = 6
 ·have HR := Lib.hid (jn5 (r := ⟨t, cl, xs⟩) hs k16)
  have hv1 : k = 1 → 1 ≤ v := fun h => by
   unfold jcq at hs
   rw [if_pos h] at hs
   simp only [Bool.and_eq_true, decide_eq_true_eq] at hs
   exact hs.2
  have HV1 := Lib.hid hv1
  clear hv1 hs
  have post : ∀ (w1 : World), Blk w1 w.heap.size 32 [.int .i64 t, .bool cl, .slice A n c] → Blk w1 (w.heap.size + 2) 32 [.int .i64 0, .bool false, .slice none 0 0] → Below w.heap.size w w1 → w.heap.size + 3 ≤ w1.heap.size → True := fun _ _ _ _ _ => trivial
  clear post
  rcases k16 with k1 | k6
  ·have f1 : (k == 1) = true := beq_iff_eq.2 k1
   have K1 := Lib.hid k1
   clear k1
   go_wp2_with fail
   generalize ((w.alloc _).alloc _).alloc _ = w1 at *
   refine (jj1 t cl A n c xs k e v w1 (hx.below KB (Nat.le_refl _)) hn1 hn hi ht0 ht HV1.out).mono ?_
   rw [HR.out]
   obtain ⟨o, ho⟩ : ∃ o, jba ⟨t, cl, xs⟩ k e v = o := ⟨_, rfl⟩
   have HO := Lib.hid ho
   rw [ho]
   clear ho HR
   rintro e9 w2 ⟨t2, b2, A2, n2, c2, xs2, rfl, M2, h2, b⟩
   replace KB := jaa KB b
   have zz := b.size
   replace Z := Z.next b
   clear b P Q
   have U := nB w2 (.cells #[t2, b2, .slice A2 n2 c2] 32)
   have O := nP w2 [t2, b2, .slice A2 n2 c2] 32
   replace KB := jaa KB U
   have zu := U.size
   replace Z := Z.next U
   replace M2 := M2.next U
   clear U
   go_upto_region 3 with fail
   generalize w2.alloc _ = w3 at *
   have oc := O.cell
   have zc := Z.cell
   have zf := Z.frozen
   go_wp2_with fail
   have ZG := (((Z.set_ 0 (.int .i64 t2)).set_ 1 (.bool b2)).set_ 2 (.slice A2 n2 c2))
   have EG := ((((Only.refl (fun b => b = w.heap.size + 2) w3).setCell (p := ⟨w.heap.size + 2, 0, none⟩) rfl (.int .i64 t2)).setCell (p := ⟨w.heap.size + 2, 1, none⟩) rfl (.bool b2)).setCell (p := ⟨w.heap.size + 2, 2, none⟩) rfl (.slice A2 n2 c2))
   clear zc zf
   have zc := ZG.cell
   have zh := EG.size
   refine bodyPost_ret (v := .tuple #[.agg #[t2, b2, .slice A2 n2 c2], .bool o.isSome]) (by simp [results, Tryz.results168, go_sem, zc]) rfl ?_
   rw [HO.out]
   exact ⟨t2, b2, A2, n2, c2, xs2, rfl, (M2.only EG (fun b h1 (h2 : b = w.heap.size + 2) => by have := h1.1; omega)).inn2 (fun b hb => by have := hb.1; omega), h2, KB.trans (EG.below (fun b hb => by omega) (by omega))⟩
  ·have f1 : (k == 1) = false := beq_eq_false_iff_ne.2 (by omega)
   have f2 : (k == 6) = true := beq_iff_eq.2 k6
   have K6 := Lib.hid k6
   clear k6
   go_wp2_with fail
   generalize ((w.alloc _).alloc _).alloc _ = w1 at *
   refine (jj1 t cl A n c xs k e v w1 (hx.below KB (Nat.le_refl _)) hn1 hn hi ht0 ht HV1.out).mono ?_
   rw [HR.out]
   obtain ⟨o, ho⟩ : ∃ o, jba ⟨t, cl, xs⟩ k e v = o := ⟨_, rfl⟩
   have HO := Lib.hid ho
   rw [ho]
   clear ho HR
   rintro e9 w2 ⟨t2, b2, A2, n2, c2, xs2, rfl, M2, h2, b⟩
   replace KB := jaa KB b
   have zz := b.size
   replace Z := Z.next b
   clear b P Q
   have U := nB w2 (.cells #[t2, b2, .slice A2 n2 c2] 32)
   have O := nP w2 [t2, b2, .slice A2 n2 c2] 32
   replace KB := jaa KB U
   have zu := U.size
   replace Z := Z.next U
   replace M2 := M2.next U
   clear U
   go_upto_region 3 with fail
   generalize w2.alloc _ = w3 at *
   have oc := O.cell
   have zc := Z.cell
   have zf := Z.frozen
   go_wp2_with fail
   have ZG := (((Z.set_ 0 (.int .i64 t2)).set_ 1 (.bool b2)).set_ 2 (.slice A2 n2 c2))
   have EG := ((((Only.refl (fun b => b = w.heap.size + 2) w3).setCell (p := ⟨w.heap.size + 2, 0, none⟩) rfl (.int .i64 t2)).setCell (p := ⟨w.heap.size + 2, 1, none⟩) rfl (.bool b2)).setCell (p := ⟨w.heap.size + 2, 2, none⟩) rfl (.slice A2 n2 c2))
   clear zc zf
   have zc := ZG.cell
   have zh := EG.size
   refine bodyPost_ret (v := .tuple #[.agg #[t2, b2, .slice A2 n2 c2], .bool o.isSome]) (by simp [results, Tryz.results168, go_sem, zc]) rfl ?_
   rw [HO.out]
   exact ⟨t2, b2, A2, n2, c2, xs2, rfl, (M2.only EG (fun b h1 (h2 : b = w.heap.size + 2) => by have := h1.1; omega)).inn2 (fun b hb => by have := hb.1; omega), h2, KB.trans (EG.below (fun b hb => by omega) (by omega))⟩
 have k1 : ¬ k = 1 := fun h => k16 (.inl h)
 have k6 : ¬ k = 6 := fun h => k16 (.inr h)
 obtain ⟨hk2, hk5, he0, hen, hcv, hv0⟩ := jm3 hs k1 k6
 obtain ⟨i, rfl⟩ : ∃ i : Nat, e = (i : Int) := ⟨e.toNat, by omega⟩
 have f1 : (k == 1) = false := beq_eq_false_iff_ne.2 k1
 have f6 : (k == 6) = false := beq_eq_false_iff_ne.2 k6
 have K1 := Lib.hid k1
 have K6 := Lib.hid k6
 clear k1 k6 k16 hs he0
 have hix : i < n := by omega
 have hii : (i : Int) < (n : Int) := by omega
 go_wp2_with fail
 generalize ((w.alloc _).alloc _).alloc _ = w1 at *
 refine (jgl t cl A n c xs w1 (hx.below KB (Nat.le_refl _)) (by omega) hi).mono ?_
 rintro e9 w2 ⟨A1, c1, rfl, M1, b⟩
 replace M1 := M1.at (show xs.length = n from HLN.out)
 rw [show (⟨t, cl, xs⟩ : RaceV).field.length = n from HLN.out]
 replace KB := jaa KB b
 have zz := b.size
 replace P := P.next b
 replace Q := Q.next b
 replace Z := Z.next b
 clear b
 have U := nB w2 (.cells #[t, cl, .slice A1 n c1] 32)
 have O := nP w2 [t, cl, .slice A1 n c1] 32
 have zu := nZ w2 (.cells #[t, cl, .slice A1 n c1] 32)
 replace KB := jaa KB U
 replace P := P.next U
 replace Q := Q.next U
 replace Z := Z.next U
 obtain ⟨rs, hrs, MR0⟩ := M1
 have MR1 := MR0.next U
 clear U
 go_upto_region 5 with fail
 generalize w2.alloc _ = wo at *
 have zgo : w1.heap.size ≤ w2.heap.size := zz
 have htop : ∀ b, In w1.heap.size w2.heap.size b → b < w2.heap.size := fun b hb => hb.2
 obtain ⟨ga, cur, x, Bp, m, d, rfl, hga, C, ⟨hk, hri⟩, hlc0, hc0, hc1, hc2, hc3, hc4⟩ := MR1.ent hix
 have hga1 := hga.1
 have hga2 := hga.2
 have MR2 := MR1.wide (T := fun b => w1.heap.size ≤ b ∧ b < w2.heap.size) (fun b hb => ⟨hb.1, hb.2⟩)
 clear MR0 MR1 htop hga
 generalize w2.heap.size = go at *
 have hxs : i < xs.length := by have := HLN.out; omega
 have hxi : xs[i] = x := by
  have h1 : (rs.map Hd.x)[i]? = some x := by rw [List.getElem?_map, List.getElem?_eq_getElem hk, hri]; rfl
  rw [hrs, List.getElem?_eq_getElem hxs] at h1
  injection h1
 have HE := Lib.hid ((jfa (r := ⟨t, cl, xs⟩) (k := k) (v := v) rfl hxs).trans (by rw [show (⟨t, cl, xs⟩ : RaceV).field[i] = x from hxi]))
 have hmx : m = x.punches.length := by
  have h1 := (MR2.inners.each rs[i] (List.getElem_mem hk)).sees
  rw [hri] at h1
  exact (h1.count (by decide) (fun _ => rfl)).symm
 have hm12 : m ≤ 12 := by rw [hmx]; exact hp x (hxi ▸ List.getElem_mem hxs)
 have HMX := Lib.hid hmx
 have HK := Lib.hid (show jba ⟨t, cl, xs⟩ k (i : Int) v = (jb6 t (i : Int) x k v).map (fun y => (⟨t, cl, xs.set i y⟩ : RaceV)) by
  unfold jba
  rw [if_neg K1.out, if_neg K6.out]
  exact HE.out)
 clear hmx hxi HE hi hp
 have oc := O.cell
 have qc := Q.cell
 have e0 := (C.cell (i * 5)).trans hc0
 have e1 := (C.cell (i * 5 + 1)).trans hc1
 have e2 := (C.cell (i * 5 + 2)).trans hc2
 have e3 := (C.cell (i * 5 + 3)).trans hc3
 have e4 := (C.cell (i * 5 + 4)).trans hc4
 have U := nB wo (.cells #[x.state, x.number, x.start, x.finish, .slice Bp m d] 108)
 have Ge := nP wo [x.state, x.number, x.start, x.finish, .slice Bp m d] 108
 have zge := nZ wo (.cells #[x.state, x.number, x.start, x.finish, .slice Bp m d] 108)
 have zgo2 := O.lt
 replace KB := jaa KB U
 replace P := P.next U
 replace Q := Q.next U
 replace Z := Z.next U
 replace O := O.next U
 replace C := C.next U
 have MRi := (MR2.next U).wide (T := fun b => w1.heap.size ≤ b ∧ b ≠ go ∧ b ≠ wo.heap.size) (fun b hb => ⟨hb.1, by omega, by omega⟩)
 clear U MR2
 go_upto_region 6 with fail
 clear oc qc e0 e1 e2 e3 e4
 generalize wo.alloc _ = wi at *
 generalize wo.heap.size = ge at *
 have Ci := C
 have gc := Ge.cell
 have gf := Ge.frozen
 have qc := Q.cell
 have pc := P.cell
 by_cases k2 : k = 2
 ·have hgel := Ge.lt
  have f2 : (k == 2) = true := beq_iff_eq.2 k2
  have K2 := Lib.hid k2
  have V0 := Lib.hid (hv0 (by omega))
  clear k2 hv0 hcv
  obtain ⟨okb, hokb⟩ : ∃ okb, (x.state == 0) = okb := ⟨_, rfl⟩
  have HV := Lib.hid (show jb6 t (i : Int) x k v = (if okb = true then some ⟨1, (i : Int) + 1, t, -1, []⟩ else none) from by
   unfold jb6
   rw [if_pos (by exact K2.out)]
   cases okb
   ·rw [if_neg (fun h => absurd (beq_iff_eq.2 h.1) (by rw [hokb]; exact Bool.false_ne_true))]
    rfl
   ·rw [if_pos ⟨eq_of_beq hokb, V0.out⟩]
    rfl)
  have HB := Lib.hid (show (jba ⟨t, cl, xs⟩ k (i : Int) v).isSome = okb by rw [HK.out, HV.out]; cases okb <;> rfl)
  have HRS := Lib.hid (show ∀ r', jba ⟨t, cl, xs⟩ k (i : Int) v = some r' → r' = ⟨t, cl, xs.set i ⟨1, (i : Int) + 1, t, -1, []⟩⟩ from fun r' h => by
   rw [HK.out, HV.out] at h
   cases okb
   ·cases h
   ·injection h with h
    exact h.symm)
  go_upto_region 18 with fail
  clear gc gf qc pc hokb
  have E0 := ((((((Only.refl (fun b => b = ge) wi).setCell (p := ⟨ge, 0, none⟩) rfl (.int .i64 1)).setCell (p := ⟨ge, 1, none⟩) rfl (.int .i64 ((i : Int) + 1))).setCell (p := ⟨ge, 2, none⟩) rfl (.int .i64 t)).setCell (p := ⟨ge, 3, none⟩) rfl (.int .i64 (-1))).setCell (p := ⟨ge, 4, none⟩) rfl (.slice (some ⟨wi.heap.size, 0, none⟩) 0 0))
  have U : Below (((((wi.setCell ⟨ge, 0, none⟩ (.int .i64 1)).setCell ⟨ge, 1, none⟩ (.int .i64 ((i : Int) + 1))).setCell ⟨ge, 2, none⟩ (.int .i64 t)).setCell ⟨ge, 3, none⟩ (.int .i64 (-1))).setCell ⟨ge, 4, none⟩ (.slice (some ⟨wi.heap.size, 0, none⟩) 0 0)).heap.size (((((wi.setCell ⟨ge, 0, none⟩ (.int .i64 1)).setCell ⟨ge, 1, none⟩ (.int .i64 ((i : Int) + 1))).setCell ⟨ge, 2, none⟩ (.int .i64 t)).setCell ⟨ge, 3, none⟩ (.int .i64 (-1))).setCell ⟨ge, 4, none⟩ (.slice (some ⟨wi.heap.size, 0, none⟩) 0 0)) ((((((wi.setCell ⟨ge, 0, none⟩ (.int .i64 1)).setCell ⟨ge, 1, none⟩ (.int .i64 ((i : Int) + 1))).setCell ⟨ge, 2, none⟩ (.int .i64 t)).setCell ⟨ge, 3, none⟩ (.int .i64 (-1))).setCell ⟨ge, 4, none⟩ (.slice (some ⟨wi.heap.size, 0, none⟩) 0 0)).alloc (.cells #[] 188)) := (Below.refl _ _).alloc (Nat.le_refl _) _
  have G0 : Blk ((((((wi.setCell ⟨ge, 0, none⟩ (.int .i64 1)).setCell ⟨ge, 1, none⟩ (.int .i64 ((i : Int) + 1))).setCell ⟨ge, 2, none⟩ (.int .i64 t)).setCell ⟨ge, 3, none⟩ (.int .i64 (-1))).setCell ⟨ge, 4, none⟩ (.slice (some ⟨wi.heap.size, 0, none⟩) 0 0)).alloc (.cells #[] 188)) wi.heap.size 188 [] := Blk.at_ (by simp only [World.size_setCell])
  have zgn : ge < wi.heap.size := Ge.lt
  have zg2 : wi.heap.size + 1 ≤ ((((((wi.setCell ⟨ge, 0, none⟩ (.int .i64 1)).setCell ⟨ge, 1, none⟩ (.int .i64 ((i : Int) + 1))).setCell ⟨ge, 2, none⟩ (.int .i64 t)).setCell ⟨ge, 3, none⟩ (.int .i64 (-1))).setCell ⟨ge, 4, none⟩ (.slice (some ⟨wi.heap.size, 0, none⟩) 0 0)).alloc (.cells #[] 188)).heap.size := by simp only [World.size_alloc, World.size_setCell]; omega
  have EL : Only (fun b => b = ge) wi ((((((wi.setCell ⟨ge, 0, none⟩ (.int .i64 1)).setCell ⟨ge, 1, none⟩ (.int .i64 ((i : Int) + 1))).setCell ⟨ge, 2, none⟩ (.int .i64 t)).setCell ⟨ge, 3, none⟩ (.int .i64 (-1))).setCell ⟨ge, 4, none⟩ (.slice (some ⟨wi.heap.size, 0, none⟩) 0 0)).alloc (.cells #[] 188)) := E0.then_ U
  have GL : Blk ((((((wi.setCell ⟨ge, 0, none⟩ (.int .i64 1)).setCell ⟨ge, 1, none⟩ (.int .i64 ((i : Int) + 1))).setCell ⟨ge, 2, none⟩ (.int .i64 t)).setCell ⟨ge, 3, none⟩ (.int .i64 (-1))).setCell ⟨ge, 4, none⟩ (.slice (some ⟨wi.heap.size, 0, none⟩) 0 0)).alloc (.cells #[] 188)) ge 108 [.int .i64 1, .int .i64 ((i : Int) + 1), .int .i64 t, .int .i64 (-1), .slice (some ⟨wi.heap.size, 0, none⟩) 0 0] := Blk.next (((((Ge.set_ (0) (.int .i64 1)).set_ (1) (.int .i64 ((i : Int) + 1))).set_ (2) (.int .i64 t)).set_ (3) (.int .i64 (-1))).set_ (4) (.slice (some ⟨wi.heap.size, 0, none⟩) 0 0)) U
  have hlow := MRi.inners
  have HR7 : Mine ((((((wi.setCell ⟨ge, 0, none⟩ (.int .i64 1)).setCell ⟨ge, 1, none⟩ (.int .i64 ((i : Int) + 1))).setCell ⟨ge, 2, none⟩ (.int .i64 t)).setCell ⟨ge, 3, none⟩ (.int .i64 (-1))).setCell ⟨ge, 4, none⟩ (.slice (some ⟨wi.heap.size, 0, none⟩) 0 0)).alloc (.cells #[] 188)) (jaj (some ⟨wi.heap.size, 0, none⟩)) 188 2 (some ⟨wi.heap.size, 0, none⟩) 0 0 [] := ⟨jci (Nat.zero_le _) G0 rfl (Nat.le_refl _) (Nat.zero_le _) rfl, fun b hb => hb⟩
  have HQ7 : ∀ b, jaj (some ⟨wi.heap.size, 0, none⟩) b → jaj Bp b ∨ wi.heap.size ≤ b := fun b hb => by
   right
   have h : wi.heap.size = b := by simpa [jaj, Value.ownBlock] using hb
   omega
  have HS7 : ∀ b, jaj (some ⟨wi.heap.size, 0, none⟩) b → (w1.heap.size ≤ b ∧ b ≠ go ∧ b ≠ ge) := fun b hb => by
   have h : wi.heap.size = b := by simpa [jaj, Value.ownBlock] using hb
   exact ⟨by omega, by omega, by omega⟩
  have H7 : Only (fun b => jaj Bp b ∨ b = ge) wi ((((((wi.setCell ⟨ge, 0, none⟩ (.int .i64 1)).setCell ⟨ge, 1, none⟩ (.int .i64 ((i : Int) + 1))).setCell ⟨ge, 2, none⟩ (.int .i64 t)).setCell ⟨ge, 3, none⟩ (.int .i64 (-1))).setCell ⟨ge, 4, none⟩ (.slice (some ⟨wi.heap.size, 0, none⟩) 0 0)).alloc (.cells #[] 188)) := EL.mono (fun b hb => .inr hb)
  replace C := C.only EL (fun h => by omega)
  replace O := O.only EL (fun h => by omega)
  replace Q := Q.only EL (fun h => by omega)
  replace Z := Z.only EL (fun h => by omega)
  replace KB := KB.trans (EL.below (fun b hb => by omega) KB.size)
  have zl := EL.size
  clear Ge G0 U E0 hlow
  have Ge := GL
  clear GL
  generalize (((((wi.setCell ⟨ge, 0, none⟩ (.int .i64 1)).setCell ⟨ge, 1, none⟩ (.int .i64 ((i : Int) + 1))).setCell ⟨ge, 2, none⟩ (.int .i64 t)).setCell ⟨ge, 3, none⟩ (.int .i64 (-1))).setCell ⟨ge, 4, none⟩ (.slice (some ⟨wi.heap.size, 0, none⟩) 0 0)).alloc (.cells #[] 188) = wl at *
  have MRx := MRi.regrowD (y := (⟨1, (i : Int) + 1, t, -1, []⟩ : Entrant)) (D := fun b => jaj Bp b ∨ b = ge) (A7 := some ⟨wi.heap.size, 0, none⟩) (m7 := 0) (c7 := 0) (w8 := (((((wl.setCell ⟨ga, i * 5, none⟩ (.int .i64 1)).setCell ⟨ga, i * 5 + 1, none⟩ (.int .i64 ((i : Int) + 1))).setCell ⟨ga, i * 5 + 2, none⟩ (.int .i64 t)).setCell ⟨ga, i * 5 + 3, none⟩ (.int .i64 (-1))).setCell ⟨ga, i * 5 + 4, none⟩ (.slice (some ⟨wi.heap.size, 0, none⟩) 0 0))) (cs' := (((((cur.set (i * 5) (.int .i64 1)).set (i * 5 + 1) (.int .i64 ((i : Int) + 1))).set (i * 5 + 2) (.int .i64 t)).set (i * 5 + 3) (.int .i64 (-1))).set (i * 5 + 4) (.slice (some ⟨wi.heap.size, 0, none⟩) 0 0))) Ci hk H7 (fun b hb => by
   rcases hb with hb | hb
   ·left; rw [hri]; exact hb
   ·right; exact ⟨by omega, fun r hr h => ((MRi.inners.each r hr).top b h).2.2 hb⟩) HR7 (by rw [hri]; exact HQ7) ((((((Only.refl (fun b => b = ga) wl).setCell (p := ⟨ga, i * 5, none⟩) rfl (.int .i64 1)).setCell (p := ⟨ga, i * 5 + 1, none⟩) rfl (.int .i64 ((i : Int) + 1))).setCell (p := ⟨ga, i * 5 + 2, none⟩) rfl (.int .i64 t)).setCell (p := ⟨ga, i * 5 + 3, none⟩) rfl (.int .i64 (-1))).setCell (p := ⟨ga, i * 5 + 4, none⟩) rfl (.slice (some ⟨wi.heap.size, 0, none⟩) 0 0)) (((((C.set_ (i * 5) (.int .i64 1)).set_ (i * 5 + 1) (.int .i64 ((i : Int) + 1))).set_ (i * 5 + 2) (.int .i64 t)).set_ (i * 5 + 3) (.int .i64 (-1))).set_ (i * 5 + 4) (.slice (some ⟨wi.heap.size, 0, none⟩) 0 0)) (by simp only [List.length_set]) (by
    intro z hz
    have hz5 : z < 5 := hz
    have hlt0 : i * 5 < cur.length := by omega
    have hlt1 : i * 5 + 1 < cur.length := by omega
    have hlt2 : i * 5 + 2 < cur.length := by omega
    have hlt3 : i * 5 + 3 < cur.length := by omega
    have hlt4 : i * 5 + 4 < cur.length := by omega
    match z, hz5 with
    | 0, _ => exact ((List.getElem?_set_ne (show i * 5 + 4 ≠ i * 5 + 0 by omega)).trans ((List.getElem?_set_ne (show i * 5 + 3 ≠ i * 5 + 0 by omega)).trans ((List.getElem?_set_ne (show i * 5 + 2 ≠ i * 5 + 0 by omega)).trans ((List.getElem?_set_ne (show i * 5 + 1 ≠ i * 5 + 0 by omega)).trans (List.getElem?_set_self (by (try simp only [List.length_set]); exact hlt0))))))
    | 1, _ => exact ((List.getElem?_set_ne (show i * 5 + 4 ≠ i * 5 + 1 by omega)).trans ((List.getElem?_set_ne (show i * 5 + 3 ≠ i * 5 + 1 by omega)).trans ((List.getElem?_set_ne (show i * 5 + 2 ≠ i * 5 + 1 by omega)).trans (List.getElem?_set_self (by (try simp only [List.length_set]); exact hlt1)))))
    | 2, _ => exact ((List.getElem?_set_ne (show i * 5 + 4 ≠ i * 5 + 2 by omega)).trans ((List.getElem?_set_ne (show i * 5 + 3 ≠ i * 5 + 2 by omega)).trans (List.getElem?_set_self (by (try simp only [List.length_set]); exact hlt2))))
    | 3, _ => exact ((List.getElem?_set_ne (show i * 5 + 4 ≠ i * 5 + 3 by omega)).trans (List.getElem?_set_self (by (try simp only [List.length_set]); exact hlt3)))
    | 4, _ => exact (List.getElem?_set_self (by (try simp only [List.length_set]); exact hlt4))) (fun z hz => by
    have hz5 : ¬ (i * 5 ≤ z ∧ z < i * 5 + 5) := hz
    rw [List.getElem?_set_ne (by omega), List.getElem?_set_ne (by omega), List.getElem?_set_ne (by omega), List.getElem?_set_ne (by omega), List.getElem?_set_ne (by omega)]) HS7
  have CF := (((((C.set_ (i * 5) (.int .i64 1)).set_ (i * 5 + 1) (.int .i64 ((i : Int) + 1))).set_ (i * 5 + 2) (.int .i64 t)).set_ (i * 5 + 3) (.int .i64 (-1))).set_ (i * 5 + 4) (.slice (some ⟨wi.heap.size, 0, none⟩) 0 0))
  have EF := ((((((Only.refl (fun b => b = ga) wl).setCell (p := ⟨ga, i * 5, none⟩) rfl (.int .i64 1)).setCell (p := ⟨ga, i * 5 + 1, none⟩) rfl (.int .i64 ((i : Int) + 1))).setCell (p := ⟨ga, i * 5 + 2, none⟩) rfl (.int .i64 t)).setCell (p := ⟨ga, i * 5 + 3, none⟩) rfl (.int .i64 (-1))).setCell (p := ⟨ga, i * 5 + 4, none⟩) rfl (.slice (some ⟨wi.heap.size, 0, none⟩) 0 0))
  have OF := O.only EF (fun h => by omega)
  have ZF := Z.only EF (fun h => by omega)
  have KF := KB.trans (EF.below (fun b hb => by omega) KB.size)
  have zs := EF.size
  have gc := Ge.cell
  have oc := O.cell
  have qc := Q.cell
  have cf := C.frozen
  have e0 := (C.cell (i * 5)).trans hc0
  have e1 := (C.cell (i * 5 + 1)).trans hc1
  have e2 := (C.cell (i * 5 + 2)).trans hc2
  have e3 := (C.cell (i * 5 + 3)).trans hc3
  have e4 := (C.cell (i * 5 + 4)).trans hc4
  go_upto_region 19 with fail
  clear gc oc qc cf e0 e1 e2 e3 e4 CF EF
  generalize ((((wl.setCell _ _).setCell _ _).setCell _ _).setCell _ _).setCell _ _ = wm at *
  have oc := OF.cell
  have zc := ZF.cell
  have zf := ZF.frozen
  go_wp2_with fail
  have ZG := (((ZF.set_ 0 (.int .i64 t)).set_ 1 (.bool cl)).set_ 2 (.slice (some ⟨ga, 0, none⟩) n c1))
  have EG := ((((Only.refl (fun b => b = w.heap.size + 2) wm).setCell (p := ⟨w.heap.size + 2, 0, none⟩) rfl (.int .i64 t)).setCell (p := ⟨w.heap.size + 2, 1, none⟩) rfl (.bool cl)).setCell (p := ⟨w.heap.size + 2, 2, none⟩) rfl (.slice (some ⟨ga, 0, none⟩) n c1))
  clear zc zf
  have zc := ZG.cell
  have zh := EG.size
  refine bodyPost_ret (v := .tuple #[.agg #[t, cl, .slice (some ⟨ga, 0, none⟩) n c1], .bool okb]) (by simp [results, Tryz.results168, go_sem, zc]) rfl ?_
  have MG : MineN entrantSh wm (fun b => w1.heap.size ≤ b ∧ b ≠ go ∧ b ≠ ge) 108 188 (some ⟨ga, 0, none⟩) n c1 (xs.set i ⟨1, (i : Int) + 1, t, -1, []⟩) := ⟨_, by rw [List.map_set, hrs], MRx⟩
  exact ⟨t, cl, some ⟨ga, 0, none⟩, n, c1, xs.set i ⟨1, (i : Int) + 1, t, -1, []⟩, by rw [HB.out], (MG.only EG (fun b h1 (h2 : b = w.heap.size + 2) => by omega)).inn2 (fun b hb => by omega), HRS.out, KF.trans (EG.below (fun b hb => by omega) (by omega))⟩
 have f2 : (k == 2) = false := beq_eq_false_iff_ne.2 k2
 have N2 := Lib.hid k2
 by_cases k3 : k = 3
 ·clear k2
  have CB := Lib.hid (hcv k3)
  have f4 : (k == 3) = true := beq_iff_eq.2 k3
  have K3 := Lib.hid k3
  clear k3
  by_cases s1 : x.state = 1
  rotate_left 1
  ·have f5 : (x.state == 1) = false := beq_eq_false_iff_ne.2 s1
   have S1 := Lib.hid s1
   clear s1
   obtain ⟨okb, hok0⟩ : ∃ okb : Bool, okb = false := ⟨_, rfl⟩
   have HV := Lib.hid (show jb6 t (i : Int) x k v = (if okb = true then some { x with punches := x.punches ++ [⟨v, t⟩] } else none) from by
    rw [hok0]
    unfold jb6
    rw [if_neg N2.out, if_neg (fun h => S1.out h.1)]
    rfl)
   have HB := Lib.hid (show (jba ⟨t, cl, xs⟩ k (i : Int) v).isSome = okb by rw [HK.out, HV.out]; cases okb <;> rfl)
   have HRS := Lib.hid (show ∀ r', jba ⟨t, cl, xs⟩ k (i : Int) v = some r' → r' = ⟨t, cl, xs.set i { x with punches := x.punches ++ [⟨v, t⟩] }⟩ from fun r' h => by
    rw [HK.out, HV.out] at h
    cases okb
    ·cases h
    ·injection h with h
     exact h.symm)
   clear hcv hv0
   have HOK0 := Lib.hid hok0
   clear hok0
   have hlow := MRi.inners.each rs[i] (List.getElem_mem hk)
   rw [hri] at hlow
   have hlowlt : ∀ b, jaj Bp b → b < wi.heap.size := fun b hb => hlow.lt b hb
   have HNG : ¬ jaj Bp ge := fun h => (hlow.top _ h).2.2 rfl
   have HNX : ∀ b, b < w1.heap.size → ¬ jaj Bp b := fun b hb h => by have := (hlow.top _ h).1; omega
   have HNO : ¬ jaj Bp go := fun h => (hlow.top _ h).2.1 rfl
   have HNA : ¬ jaj Bp ga := fun h => by
    have h2 := MRi.apart rs[i] (List.getElem_mem hk) ga
    rw [hri] at h2
    exact h2 h rfl
   clear gc gf qc
   have gc := Ge.cell
   have gf := Ge.frozen
   have qc := Q.cell
   go_upto_region 18 with (at_builtin; go_loud (refine jac rfl _ _ _ rfl Tryz.underlying104 jbg rfl (by decide) rfl hlow.own rfl (by simp) (by rfl) (by rfl) (show m ≤ 1000000000 by omega) (by decide) (Nat.zero_le _) ?_); intro A7 c7 w7 o7 h7 b7 q7; have G7 := Ge.only h7 HNG; have Q7 := Q.only h7 (HNX _ (by omega)); have gc := G7.cell; have gf := G7.frozen; have qc := Q7.cell)
   clear gc gf qc pc
   have EL := (Only.refl (fun b => b = ge) w7).setCell (p := ⟨ge, 1 + 3, none⟩) rfl (.slice A7 (m + 1) c7)
   have GL : Blk (w7.setCell ⟨ge, 1 + 3, none⟩ (.slice A7 (m + 1) c7)) ge 108 [.int .i64 x.state, .int .i64 x.number, .int .i64 x.start, .int .i64 x.finish, .slice A7 (m + 1) c7] := G7.set_ (1 + 3) _
   have z7 := h7.size
   have H7 : Only (fun b => jaj Bp b ∨ b = ge) wi (w7.setCell ⟨ge, 1 + 3, none⟩ (.slice A7 (m + 1) c7)) := (h7.mono (fun b hb => .inl hb)).trans (EL.mono (fun b hb => .inr hb))
   have HR7 : Mine (w7.setCell ⟨ge, 1 + 3, none⟩ (.slice A7 (m + 1) c7)) (jaj A7) 188 2 A7 (m + 1) c7 (List.flatMap Punch.enc (x.punches ++ [⟨v, t⟩])) := ⟨by
    rw [List.flatMap_append]
    exact jbc o7 EL (fun b hb (h : b = ge) => by
     rcases q7 b hb with h2 | h2
     ·exact HNG (h ▸ h2)
     ·omega), fun b hb => hb⟩
   have HQ7 : ∀ b, jaj A7 b → jaj Bp b ∨ wi.heap.size ≤ b := fun b hb => q7 b hb
   have HS7 : ∀ b, jaj A7 b → (w1.heap.size ≤ b ∧ b ≠ go ∧ b ≠ ge) := fun b hb => by
    rcases q7 b hb with h | h
    ·exact hlow.top b h
    ·exact ⟨by omega, by omega, by omega⟩
   replace C := (C.only h7 HNA).only EL (fun h => by omega)
   replace O := (O.only h7 HNO).only EL (fun h => by omega)
   replace Q := (Q.only h7 (HNX _ (by omega))).only EL (fun h => by omega)
   replace Z := (Z.only h7 (HNX _ (by omega))).only EL (fun h => by omega)
   replace KB := (KB.trans (h7.below (fun b hb => by have := (hlow.top b hb).1; omega) KB.size)).trans (EL.below (fun b hb => by omega) (by have := KB.size; omega))
   have zl := EL.size
   clear Ge G7 Q7
   have Ge := GL
   clear GL
   generalize w7.setCell _ _ = wl at *
   have MRx := MRi.regrowD (y := ({ x with punches := x.punches ++ [⟨v, t⟩] } : Entrant)) (D := fun b => jaj Bp b ∨ b = ge) (A7 := A7) (m7 := m + 1) (c7 := c7) (w8 := (((((wl.setCell ⟨ga, i * 5, none⟩ (.int .i64 x.state)).setCell ⟨ga, i * 5 + 1, none⟩ (.int .i64 x.number)).setCell ⟨ga, i * 5 + 2, none⟩ (.int .i64 x.start)).setCell ⟨ga, i * 5 + 3, none⟩ (.int .i64 x.finish)).setCell ⟨ga, i * 5 + 4, none⟩ (.slice A7 (m + 1) c7))) (cs' := (((((cur.set (i * 5) (.int .i64 x.state)).set (i * 5 + 1) (.int .i64 x.number)).set (i * 5 + 2) (.int .i64 x.start)).set (i * 5 + 3) (.int .i64 x.finish)).set (i * 5 + 4) (.slice A7 (m + 1) c7))) Ci hk H7 (fun b hb => by
    rcases hb with hb | hb
    ·left; rw [hri]; exact hb
    ·right; exact ⟨by omega, fun r hr h => ((MRi.inners.each r hr).top b h).2.2 hb⟩) HR7 (by rw [hri]; exact HQ7) ((((((Only.refl (fun b => b = ga) wl).setCell (p := ⟨ga, i * 5, none⟩) rfl (.int .i64 x.state)).setCell (p := ⟨ga, i * 5 + 1, none⟩) rfl (.int .i64 x.number)).setCell (p := ⟨ga, i * 5 + 2, none⟩) rfl (.int .i64 x.start)).setCell (p := ⟨ga, i * 5 + 3, none⟩) rfl (.int .i64 x.finish)).setCell (p := ⟨ga, i * 5 + 4, none⟩) rfl (.slice A7 (m + 1) c7)) (((((C.set_ (i * 5) (.int .i64 x.state)).set_ (i * 5 + 1) (.int .i64 x.number)).set_ (i * 5 + 2) (.int .i64 x.start)).set_ (i * 5 + 3) (.int .i64 x.finish)).set_ (i * 5 + 4) (.slice A7 (m + 1) c7)) (by simp only [List.length_set]) (by
     intro z hz
     have hz5 : z < 5 := hz
     have hlt0 : i * 5 < cur.length := by omega
     have hlt1 : i * 5 + 1 < cur.length := by omega
     have hlt2 : i * 5 + 2 < cur.length := by omega
     have hlt3 : i * 5 + 3 < cur.length := by omega
     have hlt4 : i * 5 + 4 < cur.length := by omega
     match z, hz5 with
     | 0, _ => exact ((List.getElem?_set_ne (show i * 5 + 4 ≠ i * 5 + 0 by omega)).trans ((List.getElem?_set_ne (show i * 5 + 3 ≠ i * 5 + 0 by omega)).trans ((List.getElem?_set_ne (show i * 5 + 2 ≠ i * 5 + 0 by omega)).trans ((List.getElem?_set_ne (show i * 5 + 1 ≠ i * 5 + 0 by omega)).trans (List.getElem?_set_self (by (try simp only [List.length_set]); exact hlt0))))))
     | 1, _ => exact ((List.getElem?_set_ne (show i * 5 + 4 ≠ i * 5 + 1 by omega)).trans ((List.getElem?_set_ne (show i * 5 + 3 ≠ i * 5 + 1 by omega)).trans ((List.getElem?_set_ne (show i * 5 + 2 ≠ i * 5 + 1 by omega)).trans (List.getElem?_set_self (by (try simp only [List.length_set]); exact hlt1)))))
     | 2, _ => exact ((List.getElem?_set_ne (show i * 5 + 4 ≠ i * 5 + 2 by omega)).trans ((List.getElem?_set_ne (show i * 5 + 3 ≠ i * 5 + 2 by omega)).trans (List.getElem?_set_self (by (try simp only [List.length_set]); exact hlt2))))
     | 3, _ => exact ((List.getElem?_set_ne (show i * 5 + 4 ≠ i * 5 + 3 by omega)).trans (List.getElem?_set_self (by (try simp only [List.length_set]); exact hlt3)))
     | 4, _ => exact (List.getElem?_set_self (by (try simp only [List.length_set]); exact hlt4))) (fun z hz => by
     have hz5 : ¬ (i * 5 ≤ z ∧ z < i * 5 + 5) := hz
     rw [List.getElem?_set_ne (by omega), List.getElem?_set_ne (by omega), List.getElem?_set_ne (by omega), List.getElem?_set_ne (by omega), List.getElem?_set_ne (by omega)]) HS7
   have CF := (((((C.set_ (i * 5) (.int .i64 x.state)).set_ (i * 5 + 1) (.int .i64 x.number)).set_ (i * 5 + 2) (.int .i64 x.start)).set_ (i * 5 + 3) (.int .i64 x.finish)).set_ (i * 5 + 4) (.slice A7 (m + 1) c7))
   have EF := ((((((Only.refl (fun b => b = ga) wl).setCell (p := ⟨ga, i * 5, none⟩) rfl (.int .i64 x.state)).setCell (p := ⟨ga, i * 5 + 1, none⟩) rfl (.int .i64 x.number)).setCell (p := ⟨ga, i * 5 + 2, none⟩) rfl (.int .i64 x.start)).setCell (p := ⟨ga, i * 5 + 3, none⟩) rfl (.int .i64 x.finish)).setCell (p := ⟨ga, i * 5 + 4, none⟩) rfl (.slice A7 (m + 1) c7))
   have OF := O.only EF (fun h => by omega)
   have ZF := Z.only EF (fun h => by omega)
   have KF := KB.trans (EF.below (fun b hb => by omega) KB.size)
   have zs := EF.size
   have gc := Ge.cell
   have oc := O.cell
   have qc := Q.cell
   have cf := C.frozen
   have e0 := (C.cell (i * 5)).trans hc0
   have e1 := (C.cell (i * 5 + 1)).trans hc1
   have e2 := (C.cell (i * 5 + 2)).trans hc2
   have e3 := (C.cell (i * 5 + 3)).trans hc3
   have e4 := (C.cell (i * 5 + 4)).trans hc4
   go_upto_region 19 with fail
   clear gc oc qc cf e0 e1 e2 e3 e4 CF EF
   generalize ((((wl.setCell _ _).setCell _ _).setCell _ _).setCell _ _).setCell _ _ = wm at *
   have oc := OF.cell
   have zc := ZF.cell
   have zf := ZF.frozen
   go_wp2_with fail
   have ZG := (((ZF.set_ 0 (.int .i64 t)).set_ 1 (.bool cl)).set_ 2 (.slice (some ⟨ga, 0, none⟩) n c1))
   have EG := ((((Only.refl (fun b => b = w.heap.size + 2) wm).setCell (p := ⟨w.heap.size + 2, 0, none⟩) rfl (.int .i64 t)).setCell (p := ⟨w.heap.size + 2, 1, none⟩) rfl (.bool cl)).setCell (p := ⟨w.heap.size + 2, 2, none⟩) rfl (.slice (some ⟨ga, 0, none⟩) n c1))
   clear zc zf
   have zc := ZG.cell
   have zh := EG.size
   refine bodyPost_ret (v := .tuple #[.agg #[t, cl, .slice (some ⟨ga, 0, none⟩) n c1], .bool false]) (by simp [results, Tryz.results168, go_sem, zc]) rfl ?_
   have MG : MineN entrantSh wm (fun b => w1.heap.size ≤ b ∧ b ≠ go ∧ b ≠ ge) 108 188 (some ⟨ga, 0, none⟩) n c1 (xs.set i { x with punches := x.punches ++ [⟨v, t⟩] }) := ⟨_, by rw [List.map_set, hrs], MRx⟩
   exact ⟨t, cl, some ⟨ga, 0, none⟩, n, c1, xs.set i { x with punches := x.punches ++ [⟨v, t⟩] }, by rw [HB.out, HOK0.out], (MG.only EG (fun b h1 (h2 : b = w.heap.size + 2) => by omega)).inn2 (fun b hb => by omega), HRS.out, KF.trans (EG.below (fun b hb => by omega) (by omega))⟩
  have f5 : (x.state == 1) = true := beq_iff_eq.2 s1
  have S1 := Lib.hid s1
  clear s1
  by_cases ml : m < 12
  ·have f6 : (m : Int) < 12 := by omega
   obtain ⟨okb, hok0⟩ : ∃ okb : Bool, okb = true := ⟨_, rfl⟩
   have HV := Lib.hid (show jb6 t (i : Int) x k v = (if okb = true then some { x with punches := x.punches ++ [⟨v, t⟩] } else none) from by
    rw [hok0]
    unfold jb6
    rw [if_neg N2.out, if_pos ⟨S1.out, .inl K3.out⟩, if_pos K3.out, if_pos ⟨CB.out, by have := HMX.out; omega⟩]
    rfl)
   have HB := Lib.hid (show (jba ⟨t, cl, xs⟩ k (i : Int) v).isSome = okb by rw [HK.out, HV.out]; cases okb <;> rfl)
   have HRS := Lib.hid (show ∀ r', jba ⟨t, cl, xs⟩ k (i : Int) v = some r' → r' = ⟨t, cl, xs.set i { x with punches := x.punches ++ [⟨v, t⟩] }⟩ from fun r' h => by
    rw [HK.out, HV.out] at h
    cases okb
    ·cases h
    ·injection h with h
     exact h.symm)
   clear hcv hv0
   have HOK0 := Lib.hid hok0
   clear hok0
   have hlow := MRi.inners.each rs[i] (List.getElem_mem hk)
   rw [hri] at hlow
   have hlowlt : ∀ b, jaj Bp b → b < wi.heap.size := fun b hb => hlow.lt b hb
   have HNG : ¬ jaj Bp ge := fun h => (hlow.top _ h).2.2 rfl
   have HNX : ∀ b, b < w1.heap.size → ¬ jaj Bp b := fun b hb h => by have := (hlow.top _ h).1; omega
   have HNO : ¬ jaj Bp go := fun h => (hlow.top _ h).2.1 rfl
   have HNA : ¬ jaj Bp ga := fun h => by
    have h2 := MRi.apart rs[i] (List.getElem_mem hk) ga
    rw [hri] at h2
    exact h2 h rfl
   clear gc gf qc
   have gc := Ge.cell
   have gf := Ge.frozen
   have qc := Q.cell
   go_upto_region 18 with (at_builtin; go_loud (refine jac rfl _ _ _ rfl Tryz.underlying104 jbg rfl (by decide) rfl hlow.own rfl (by simp) (by rfl) (by rfl) (show m ≤ 1000000000 by omega) (by decide) (Nat.zero_le _) ?_); intro A7 c7 w7 o7 h7 b7 q7; have G7 := Ge.only h7 HNG; have Q7 := Q.only h7 (HNX _ (by omega)); have gc := G7.cell; have gf := G7.frozen; have qc := Q7.cell)
   clear gc gf qc pc
   have EL := (Only.refl (fun b => b = ge) w7).setCell (p := ⟨ge, 1 + 3, none⟩) rfl (.slice A7 (m + 1) c7)
   have GL : Blk (w7.setCell ⟨ge, 1 + 3, none⟩ (.slice A7 (m + 1) c7)) ge 108 [.int .i64 x.state, .int .i64 x.number, .int .i64 x.start, .int .i64 x.finish, .slice A7 (m + 1) c7] := G7.set_ (1 + 3) _
   have z7 := h7.size
   have H7 : Only (fun b => jaj Bp b ∨ b = ge) wi (w7.setCell ⟨ge, 1 + 3, none⟩ (.slice A7 (m + 1) c7)) := (h7.mono (fun b hb => .inl hb)).trans (EL.mono (fun b hb => .inr hb))
   have HR7 : Mine (w7.setCell ⟨ge, 1 + 3, none⟩ (.slice A7 (m + 1) c7)) (jaj A7) 188 2 A7 (m + 1) c7 (List.flatMap Punch.enc (x.punches ++ [⟨v, t⟩])) := ⟨by
    rw [List.flatMap_append]
    exact jbc o7 EL (fun b hb (h : b = ge) => by
     rcases q7 b hb with h2 | h2
     ·exact HNG (h ▸ h2)
     ·omega), fun b hb => hb⟩
   have HQ7 : ∀ b, jaj A7 b → jaj Bp b ∨ wi.heap.size ≤ b := fun b hb => q7 b hb
   have HS7 : ∀ b, jaj A7 b → (w1.heap.size ≤ b ∧ b ≠ go ∧ b ≠ ge) := fun b hb => by
    rcases q7 b hb with h | h
    ·exact hlow.top b h
    ·exact ⟨by omega, by omega, by omega⟩
   replace C := (C.only h7 HNA).only EL (fun h => by omega)
   replace O := (O.only h7 HNO).only EL (fun h => by omega)
   replace Q := (Q.only h7 (HNX _ (by omega))).only EL (fun h => by omega)
   replace Z := (Z.only h7 (HNX _ (by omega))).only EL (fun h => by omega)
   replace KB := (KB.trans (h7.below (fun b hb => by have := (hlow.top b hb).1; omega) KB.size)).trans (EL.below (fun b hb => by omega) (by have := KB.size; omega))
   have zl := EL.size
   clear Ge G7 Q7
   have Ge := GL
   clear GL
   generalize w7.setCell _ _ = wl at *
   have MRx := MRi.regrowD (y := ({ x with punches := x.punches ++ [⟨v, t⟩] } : Entrant)) (D := fun b => jaj Bp b ∨ b = ge) (A7 := A7) (m7 := m + 1) (c7 := c7) (w8 := (((((wl.setCell ⟨ga, i * 5, none⟩ (.int .i64 x.state)).setCell ⟨ga, i * 5 + 1, none⟩ (.int .i64 x.number)).setCell ⟨ga, i * 5 + 2, none⟩ (.int .i64 x.start)).setCell ⟨ga, i * 5 + 3, none⟩ (.int .i64 x.finish)).setCell ⟨ga, i * 5 + 4, none⟩ (.slice A7 (m + 1) c7))) (cs' := (((((cur.set (i * 5) (.int .i64 x.state)).set (i * 5 + 1) (.int .i64 x.number)).set (i * 5 + 2) (.int .i64 x.start)).set (i * 5 + 3) (.int .i64 x.finish)).set (i * 5 + 4) (.slice A7 (m + 1) c7))) Ci hk H7 (fun b hb => by
    rcases hb with hb | hb
    ·left; rw [hri]; exact hb
    ·right; exact ⟨by omega, fun r hr h => ((MRi.inners.each r hr).top b h).2.2 hb⟩) HR7 (by rw [hri]; exact HQ7) ((((((Only.refl (fun b => b = ga) wl).setCell (p := ⟨ga, i * 5, none⟩) rfl (.int .i64 x.state)).setCell (p := ⟨ga, i * 5 + 1, none⟩) rfl (.int .i64 x.number)).setCell (p := ⟨ga, i * 5 + 2, none⟩) rfl (.int .i64 x.start)).setCell (p := ⟨ga, i * 5 + 3, none⟩) rfl (.int .i64 x.finish)).setCell (p := ⟨ga, i * 5 + 4, none⟩) rfl (.slice A7 (m + 1) c7)) (((((C.set_ (i * 5) (.int .i64 x.state)).set_ (i * 5 + 1) (.int .i64 x.number)).set_ (i * 5 + 2) (.int .i64 x.start)).set_ (i * 5 + 3) (.int .i64 x.finish)).set_ (i * 5 + 4) (.slice A7 (m + 1) c7)) (by simp only [List.length_set]) (by
     intro z hz
     have hz5 : z < 5 := hz
     have hlt0 : i * 5 < cur.length := by omega
     have hlt1 : i * 5 + 1 < cur.length := by omega
     have hlt2 : i * 5 + 2 < cur.length := by omega
     have hlt3 : i * 5 + 3 < cur.length := by omega
     have hlt4 : i * 5 + 4 < cur.length := by omega
     match z, hz5 with
     | 0, _ => exact ((List.getElem?_set_ne (show i * 5 + 4 ≠ i * 5 + 0 by omega)).trans ((List.getElem?_set_ne (show i * 5 + 3 ≠ i * 5 + 0 by omega)).trans ((List.getElem?_set_ne (show i * 5 + 2 ≠ i * 5 + 0 by omega)).trans ((List.getElem?_set_ne (show i * 5 + 1 ≠ i * 5 + 0 by omega)).trans (List.getElem?_set_self (by (try simp only [List.length_set]); exact hlt0))))))
     | 1, _ => exact ((List.getElem?_set_ne (show i * 5 + 4 ≠ i * 5 + 1 by omega)).trans ((List.getElem?_set_ne (show i * 5 + 3 ≠ i * 5 + 1 by omega)).trans ((List.getElem?_set_ne (show i * 5 + 2 ≠ i * 5 + 1 by omega)).trans (List.getElem?_set_self (by (try simp only [List.length_set]); exact hlt1)))))
     | 2, _ => exact ((List.getElem?_set_ne (show i * 5 + 4 ≠ i * 5 + 2 by omega)).trans ((List.getElem?_set_ne (show i * 5 + 3 ≠ i * 5 + 2 by omega)).trans (List.getElem?_set_self (by (try simp only [List.length_set]); exact hlt2))))
     | 3, _ => exact ((List.getElem?_set_ne (show i * 5 + 4 ≠ i * 5 + 3 by omega)).trans (List.getElem?_set_self (by (try simp only [List.length_set]); exact hlt3)))
     | 4, _ => exact (List.getElem?_set_self (by (try simp only [List.length_set]); exact hlt4))) (fun z hz => by
     have hz5 : ¬ (i * 5 ≤ z ∧ z < i * 5 + 5) := hz
     rw [List.getElem?_set_ne (by omega), List.getElem?_set_ne (by omega), List.getElem?_set_ne (by omega), List.getElem?_set_ne (by omega), List.getElem?_set_ne (by omega)]) HS7
   have CF := (((((C.set_ (i * 5) (.int .i64 x.state)).set_ (i * 5 + 1) (.int .i64 x.number)).set_ (i * 5 + 2) (.int .i64 x.start)).set_ (i * 5 + 3) (.int .i64 x.finish)).set_ (i * 5 + 4) (.slice A7 (m + 1) c7))
   have EF := ((((((Only.refl (fun b => b = ga) wl).setCell (p := ⟨ga, i * 5, none⟩) rfl (.int .i64 x.state)).setCell (p := ⟨ga, i * 5 + 1, none⟩) rfl (.int .i64 x.number)).setCell (p := ⟨ga, i * 5 + 2, none⟩) rfl (.int .i64 x.start)).setCell (p := ⟨ga, i * 5 + 3, none⟩) rfl (.int .i64 x.finish)).setCell (p := ⟨ga, i * 5 + 4, none⟩) rfl (.slice A7 (m + 1) c7))
   have OF := O.only EF (fun h => by omega)
   have ZF := Z.only EF (fun h => by omega)
   have KF := KB.trans (EF.below (fun b hb => by omega) KB.size)
   have zs := EF.size
   have gc := Ge.cell
   have oc := O.cell
   have qc := Q.cell
   have cf := C.frozen
   have e0 := (C.cell (i * 5)).trans hc0
   have e1 := (C.cell (i * 5 + 1)).trans hc1
   have e2 := (C.cell (i * 5 + 2)).trans hc2
   have e3 := (C.cell (i * 5 + 3)).trans hc3
   have e4 := (C.cell (i * 5 + 4)).trans hc4
   go_upto_region 19 with fail
   clear gc oc qc cf e0 e1 e2 e3 e4 CF EF
   generalize ((((wl.setCell _ _).setCell _ _).setCell _ _).setCell _ _).setCell _ _ = wm at *
   have oc := OF.cell
   have zc := ZF.cell
   have zf := ZF.frozen
   go_wp2_with fail
   have ZG := (((ZF.set_ 0 (.int .i64 t)).set_ 1 (.bool cl)).set_ 2 (.slice (some ⟨ga, 0, none⟩) n c1))
   have EG := ((((Only.refl (fun b => b = w.heap.size + 2) wm).setCell (p := ⟨w.heap.size + 2, 0, none⟩) rfl (.int .i64 t)).setCell (p := ⟨w.heap.size + 2, 1, none⟩) rfl (.bool cl)).setCell (p := ⟨w.heap.size + 2, 2, none⟩) rfl (.slice (some ⟨ga, 0, none⟩) n c1))
   clear zc zf
   have zc := ZG.cell
   have zh := EG.size
   refine bodyPost_ret (v := .tuple #[.agg #[t, cl, .slice (some ⟨ga, 0, none⟩) n c1], .bool true]) (by simp [results, Tryz.results168, go_sem, zc]) rfl ?_
   have MG : MineN entrantSh wm (fun b => w1.heap.size ≤ b ∧ b ≠ go ∧ b ≠ ge) 108 188 (some ⟨ga, 0, none⟩) n c1 (xs.set i { x with punches := x.punches ++ [⟨v, t⟩] }) := ⟨_, by rw [List.map_set, hrs], MRx⟩
   exact ⟨t, cl, some ⟨ga, 0, none⟩, n, c1, xs.set i { x with punches := x.punches ++ [⟨v, t⟩] }, by rw [HB.out, HOK0.out], (MG.only EG (fun b h1 (h2 : b = w.heap.size + 2) => by omega)).inn2 (fun b hb => by omega), HRS.out, KF.trans (EG.below (fun b hb => by omega) (by omega))⟩
  ·have f6 : ¬ (m : Int) < 12 := by omega
   obtain ⟨okb, hok0⟩ : ∃ okb : Bool, okb = false := ⟨_, rfl⟩
   have HV := Lib.hid (show jb6 t (i : Int) x k v = (if okb = true then some { x with punches := x.punches ++ [⟨v, t⟩] } else none) from by
    rw [hok0]
    unfold jb6
    rw [if_neg N2.out, if_pos ⟨S1.out, .inl K3.out⟩, if_pos K3.out, if_neg (fun h => by have := HMX.out; omega)]
    rfl)
   have HB := Lib.hid (show (jba ⟨t, cl, xs⟩ k (i : Int) v).isSome = okb by rw [HK.out, HV.out]; cases okb <;> rfl)
   have HRS := Lib.hid (show ∀ r', jba ⟨t, cl, xs⟩ k (i : Int) v = some r' → r' = ⟨t, cl, xs.set i { x with punches := x.punches ++ [⟨v, t⟩] }⟩ from fun r' h => by
    rw [HK.out, HV.out] at h
    cases okb
    ·cases h
    ·injection h with h
     exact h.symm)
   clear hcv hv0
   have HOK0 := Lib.hid hok0
   clear hok0
   have hlow := MRi.inners.each rs[i] (List.getElem_mem hk)
   rw [hri] at hlow
   have hlowlt : ∀ b, jaj Bp b → b < wi.heap.size := fun b hb => hlow.lt b hb
   have HNG : ¬ jaj Bp ge := fun h => (hlow.top _ h).2.2 rfl
   have HNX : ∀ b, b < w1.heap.size → ¬ jaj Bp b := fun b hb h => by have := (hlow.top _ h).1; omega
   have HNO : ¬ jaj Bp go := fun h => (hlow.top _ h).2.1 rfl
   have HNA : ¬ jaj Bp ga := fun h => by
    have h2 := MRi.apart rs[i] (List.getElem_mem hk) ga
    rw [hri] at h2
    exact h2 h rfl
   clear gc gf qc
   have gc := Ge.cell
   have gf := Ge.frozen
   have qc := Q.cell
   go_upto_region 18 with (at_builtin; go_loud (refine jac rfl _ _ _ rfl Tryz.underlying104 jbg rfl (by decide) rfl hlow.own rfl (by simp) (by rfl) (by rfl) (show m ≤ 1000000000 by omega) (by decide) (Nat.zero_le _) ?_); intro A7 c7 w7 o7 h7 b7 q7; have G7 := Ge.only h7 HNG; have Q7 := Q.only h7 (HNX _ (by omega)); have gc := G7.cell; have gf := G7.frozen; have qc := Q7.cell)
   clear gc gf qc pc
   have EL := (Only.refl (fun b => b = ge) w7).setCell (p := ⟨ge, 1 + 3, none⟩) rfl (.slice A7 (m + 1) c7)
   have GL : Blk (w7.setCell ⟨ge, 1 + 3, none⟩ (.slice A7 (m + 1) c7)) ge 108 [.int .i64 x.state, .int .i64 x.number, .int .i64 x.start, .int .i64 x.finish, .slice A7 (m + 1) c7] := G7.set_ (1 + 3) _
   have z7 := h7.size
   have H7 : Only (fun b => jaj Bp b ∨ b = ge) wi (w7.setCell ⟨ge, 1 + 3, none⟩ (.slice A7 (m + 1) c7)) := (h7.mono (fun b hb => .inl hb)).trans (EL.mono (fun b hb => .inr hb))
   have HR7 : Mine (w7.setCell ⟨ge, 1 + 3, none⟩ (.slice A7 (m + 1) c7)) (jaj A7) 188 2 A7 (m + 1) c7 (List.flatMap Punch.enc (x.punches ++ [⟨v, t⟩])) := ⟨by
    rw [List.flatMap_append]
    exact jbc o7 EL (fun b hb (h : b = ge) => by
     rcases q7 b hb with h2 | h2
     ·exact HNG (h ▸ h2)
     ·omega), fun b hb => hb⟩
   have HQ7 : ∀ b, jaj A7 b → jaj Bp b ∨ wi.heap.size ≤ b := fun b hb => q7 b hb
   have HS7 : ∀ b, jaj A7 b → (w1.heap.size ≤ b ∧ b ≠ go ∧ b ≠ ge) := fun b hb => by
    rcases q7 b hb with h | h
    ·exact hlow.top b h
    ·exact ⟨by omega, by omega, by omega⟩
   replace C := (C.only h7 HNA).only EL (fun h => by omega)
   replace O := (O.only h7 HNO).only EL (fun h => by omega)
   replace Q := (Q.only h7 (HNX _ (by omega))).only EL (fun h => by omega)
   replace Z := (Z.only h7 (HNX _ (by omega))).only EL (fun h => by omega)
   replace KB := (KB.trans (h7.below (fun b hb => by have := (hlow.top b hb).1; omega) KB.size)).trans (EL.below (fun b hb => by omega) (by have := KB.size; omega))
   have zl := EL.size
   clear Ge G7 Q7
   have Ge := GL
   clear GL
   generalize w7.setCell _ _ = wl at *
   have MRx := MRi.regrowD (y := ({ x with punches := x.punches ++ [⟨v, t⟩] } : Entrant)) (D := fun b => jaj Bp b ∨ b = ge) (A7 := A7) (m7 := m + 1) (c7 := c7) (w8 := (((((wl.setCell ⟨ga, i * 5, none⟩ (.int .i64 x.state)).setCell ⟨ga, i * 5 + 1, none⟩ (.int .i64 x.number)).setCell ⟨ga, i * 5 + 2, none⟩ (.int .i64 x.start)).setCell ⟨ga, i * 5 + 3, none⟩ (.int .i64 x.finish)).setCell ⟨ga, i * 5 + 4, none⟩ (.slice A7 (m + 1) c7))) (cs' := (((((cur.set (i * 5) (.int .i64 x.state)).set (i * 5 + 1) (.int .i64 x.number)).set (i * 5 + 2) (.int .i64 x.start)).set (i * 5 + 3) (.int .i64 x.finish)).set (i * 5 + 4) (.slice A7 (m + 1) c7))) Ci hk H7 (fun b hb => by
    rcases hb with hb | hb
    ·left; rw [hri]; exact hb
    ·right; exact ⟨by omega, fun r hr h => ((MRi.inners.each r hr).top b h).2.2 hb⟩) HR7 (by rw [hri]; exact HQ7) ((((((Only.refl (fun b => b = ga) wl).setCell (p := ⟨ga, i * 5, none⟩) rfl (.int .i64 x.state)).setCell (p := ⟨ga, i * 5 + 1, none⟩) rfl (.int .i64 x.number)).setCell (p := ⟨ga, i * 5 + 2, none⟩) rfl (.int .i64 x.start)).setCell (p := ⟨ga, i * 5 + 3, none⟩) rfl (.int .i64 x.finish)).setCell (p := ⟨ga, i * 5 + 4, none⟩) rfl (.slice A7 (m + 1) c7)) (((((C.set_ (i * 5) (.int .i64 x.state)).set_ (i * 5 + 1) (.int .i64 x.number)).set_ (i * 5 + 2) (.int .i64 x.start)).set_ (i * 5 + 3) (.int .i64 x.finish)).set_ (i * 5 + 4) (.slice A7 (m + 1) c7)) (by simp only [List.length_set]) (by
     intro z hz
     have hz5 : z < 5 := hz
     have hlt0 : i * 5 < cur.length := by omega
     have hlt1 : i * 5 + 1 < cur.length := by omega
     have hlt2 : i * 5 + 2 < cur.length := by omega
     have hlt3 : i * 5 + 3 < cur.length := by omega
     have hlt4 : i * 5 + 4 < cur.length := by omega
     match z, hz5 with
     | 0, _ => exact ((List.getElem?_set_ne (show i * 5 + 4 ≠ i * 5 + 0 by omega)).trans ((List.getElem?_set_ne (show i * 5 + 3 ≠ i * 5 + 0 by omega)).trans ((List.getElem?_set_ne (show i * 5 + 2 ≠ i * 5 + 0 by omega)).trans ((List.getElem?_set_ne (show i * 5 + 1 ≠ i * 5 + 0 by omega)).trans (List.getElem?_set_self (by (try simp only [List.length_set]); exact hlt0))))))
     | 1, _ => exact ((List.getElem?_set_ne (show i * 5 + 4 ≠ i * 5 + 1 by omega)).trans ((List.getElem?_set_ne (show i * 5 + 3 ≠ i * 5 + 1 by omega)).trans ((List.getElem?_set_ne (show i * 5 + 2 ≠ i * 5 + 1 by omega)).trans (List.getElem?_set_self (by (try simp only [List.length_set]); exact hlt1)))))
     | 2, _ => exact ((List.getElem?_set_ne (show i * 5 + 4 ≠ i * 5 + 2 by omega)).trans ((List.getElem?_set_ne (show i * 5 + 3 ≠ i * 5 + 2 by omega)).trans (List.getElem?_set_self (by (try simp only [List.length_set]); exact hlt2))))
     | 3, _ => exact ((List.getElem?_set_ne (show i * 5 + 4 ≠ i * 5 + 3 by omega)).trans (List.getElem?_set_self (by (try simp only [List.length_set]); exact hlt3)))
     | 4, _ => exact (List.getElem?_set_self (by (try simp only [List.length_set]); exact hlt4))) (fun z hz => by
     have hz5 : ¬ (i * 5 ≤ z ∧ z < i * 5 + 5) := hz
     rw [List.getElem?_set_ne (by omega), List.getElem?_set_ne (by omega), List.getElem?_set_ne (by omega), List.getElem?_set_ne (by omega), List.getElem?_set_ne (by omega)]) HS7
   have CF := (((((C.set_ (i * 5) (.int .i64 x.state)).set_ (i * 5 + 1) (.int .i64 x.number)).set_ (i * 5 + 2) (.int .i64 x.start)).set_ (i * 5 + 3) (.int .i64 x.finish)).set_ (i * 5 + 4) (.slice A7 (m + 1) c7))
   have EF := ((((((Only.refl (fun b => b = ga) wl).setCell (p := ⟨ga, i * 5, none⟩) rfl (.int .i64 x.state)).setCell (p := ⟨ga, i * 5 + 1, none⟩) rfl (.int .i64 x.number)).setCell (p := ⟨ga, i * 5 + 2, none⟩) rfl (.int .i64 x.start)).setCell (p := ⟨ga, i * 5 + 3, none⟩) rfl (.int .i64 x.finish)).setCell (p := ⟨ga, i * 5 + 4, none⟩) rfl (.slice A7 (m + 1) c7))
   have OF := O.only EF (fun h => by omega)
   have ZF := Z.only EF (fun h => by omega)
   have KF := KB.trans (EF.below (fun b hb => by omega) KB.size)
   have zs := EF.size
   have gc := Ge.cell
   have oc := O.cell
   have qc := Q.cell
   have cf := C.frozen
   have e0 := (C.cell (i * 5)).trans hc0
   have e1 := (C.cell (i * 5 + 1)).trans hc1
   have e2 := (C.cell (i * 5 + 2)).trans hc2
   have e3 := (C.cell (i * 5 + 3)).trans hc3
   have e4 := (C.cell (i * 5 + 4)).trans hc4
   go_upto_region 19 with fail
   clear gc oc qc cf e0 e1 e2 e3 e4 CF EF
   generalize ((((wl.setCell _ _).setCell _ _).setCell _ _).setCell _ _).setCell _ _ = wm at *
   have oc := OF.cell
   have zc := ZF.cell
   have zf := ZF.frozen
   go_wp2_with fail
   have ZG := (((ZF.set_ 0 (.int .i64 t)).set_ 1 (.bool cl)).set_ 2 (.slice (some ⟨ga, 0, none⟩) n c1))
   have EG := ((((Only.refl (fun b => b = w.heap.size + 2) wm).setCell (p := ⟨w.heap.size + 2, 0, none⟩) rfl (.int .i64 t)).setCell (p := ⟨w.heap.size + 2, 1, none⟩) rfl (.bool cl)).setCell (p := ⟨w.heap.size + 2, 2, none⟩) rfl (.slice (some ⟨ga, 0, none⟩) n c1))
   clear zc zf
   have zc := ZG.cell
   have zh := EG.size
   refine bodyPost_ret (v := .tuple #[.agg #[t, cl, .slice (some ⟨ga, 0, none⟩) n c1], .bool false]) (by simp [results, Tryz.results168, go_sem, zc]) rfl ?_
   have MG : MineN entrantSh wm (fun b => w1.heap.size ≤ b ∧ b ≠ go ∧ b ≠ ge) 108 188 (some ⟨ga, 0, none⟩) n c1 (xs.set i { x with punches := x.punches ++ [⟨v, t⟩] }) := ⟨_, by rw [List.map_set, hrs], MRx⟩
   exact ⟨t, cl, some ⟨ga, 0, none⟩, n, c1, xs.set i { x with punches := x.punches ++ [⟨v, t⟩] }, by rw [HB.out, HOK0.out], (MG.only EG (fun b h1 (h2 : b = w.heap.size + 2) => by omega)).inn2 (fun b hb => by omega), HRS.out, KF.trans (EG.below (fun b hb => by omega) (by omega))⟩
 have f3 : (k == 3) = false := beq_eq_false_iff_ne.2 k3
 have N3 := Lib.hid k3
 by_cases k4 : k = 4
 ·have f4 : (k == 4) = true := beq_iff_eq.2 k4
  have K4 := Lib.hid k4
  obtain ⟨okb, hokb⟩ : ∃ okb, (x.state == 1) = okb := ⟨_, rfl⟩
  have V0 := Lib.hid (hv0 (by omega))
  clear k2 k3 k4
  have HV := Lib.hid (show jb6 t (i : Int) x k v = (if okb = true then some { x with state := 2, finish := t } else none) from by
   unfold jb6
   cases okb
   ·rw [if_neg N2.out, if_neg (fun h => absurd (beq_iff_eq.2 h.1) (by rw [hokb]; exact Bool.false_ne_true))]
    rfl
   ·rw [if_neg N2.out, if_pos ⟨eq_of_beq hokb, .inr V0.out⟩, if_neg N3.out, if_pos K4.out]
    rfl)
  have HB := Lib.hid (show (jba ⟨t, cl, xs⟩ k (i : Int) v).isSome = okb by rw [HK.out, HV.out]; cases okb <;> rfl)
  have HRS := Lib.hid (show ∀ r', jba ⟨t, cl, xs⟩ k (i : Int) v = some r' → r' = ⟨t, cl, xs.set i { x with state := 2, finish := t }⟩ from fun r' h => by
   rw [HK.out, HV.out] at h
   cases okb
   ·cases h
   ·injection h with h
    exact h.symm)
  clear hv0 hcv
  go_upto_region 18 with fail
  clear gc gf qc pc
  have EL := (((Only.refl (fun b => b = ge) wi).setCell (p := ⟨ge, 0, none⟩) rfl (.int .i64 2)).setCell (p := ⟨ge, 1 + 2, none⟩) rfl (.int .i64 t))
  have GL : Blk ((wi.setCell ⟨ge, 0, none⟩ (.int .i64 2)).setCell ⟨ge, 1 + 2, none⟩ (.int .i64 t)) ge 108 [.int .i64 2, .int .i64 x.number, .int .i64 x.start, .int .i64 t, .slice Bp m d] := ((Ge.set_ (0) (.int .i64 2)).set_ (1 + 2) (.int .i64 t))
  replace C := C.only EL (fun h => by omega)
  replace O := O.only EL (fun h => by omega)
  replace Q := Q.only EL (fun h => by omega)
  replace Z := Z.only EL (fun h => by omega)
  replace KB := KB.trans (EL.below (fun b hb => by omega) KB.size)
  have zl := EL.size
  clear Ge
  have Ge := GL
  clear GL
  generalize (wi.setCell _ _).setCell _ _ = wl at *
  clear hokb
  have HR7 : Mine wl (jaj Bp) 188 2 Bp m d (List.flatMap Punch.enc x.punches) := by
   have h := (MRi.inners.each rs[i] (List.getElem_mem hk)).exact_
   rw [hri] at h
   exact h.only EL (fun b h1 (h2 : b = ge) => by
    have h3 := (MRi.inners.each rs[i] (List.getElem_mem hk)).top b
    rw [hri] at h3
    exact (h3 h1).2.2 h2)
  have HQ7 : ∀ b, jaj Bp b → jaj Bp b ∨ wi.heap.size ≤ b := fun b hb => .inl hb
  have HS7 : ∀ b, jaj Bp b → (w1.heap.size ≤ b ∧ b ≠ go ∧ b ≠ ge) := fun b hb => by
   have h := (MRi.inners.each rs[i] (List.getElem_mem hk)).top b
   rw [hri] at h
   exact h hb
  have H7 : Only (fun b => jaj Bp b ∨ b = ge) wi wl := EL.mono (fun b hb => .inr hb)
  have MRx := MRi.regrowD (y := ({ x with state := 2, finish := t } : Entrant)) (D := fun b => jaj Bp b ∨ b = ge) (A7 := Bp) (m7 := m) (c7 := d) (w8 := (((((wl.setCell ⟨ga, i * 5, none⟩ (.int .i64 2)).setCell ⟨ga, i * 5 + 1, none⟩ (.int .i64 x.number)).setCell ⟨ga, i * 5 + 2, none⟩ (.int .i64 x.start)).setCell ⟨ga, i * 5 + 3, none⟩ (.int .i64 t)).setCell ⟨ga, i * 5 + 4, none⟩ (.slice Bp m d))) (cs' := (((((cur.set (i * 5) (.int .i64 2)).set (i * 5 + 1) (.int .i64 x.number)).set (i * 5 + 2) (.int .i64 x.start)).set (i * 5 + 3) (.int .i64 t)).set (i * 5 + 4) (.slice Bp m d))) Ci hk H7 (fun b hb => by
   rcases hb with hb | hb
   ·left; rw [hri]; exact hb
   ·right; exact ⟨by omega, fun r hr h => ((MRi.inners.each r hr).top b h).2.2 hb⟩) HR7 (by rw [hri]; exact HQ7) ((((((Only.refl (fun b => b = ga) wl).setCell (p := ⟨ga, i * 5, none⟩) rfl (.int .i64 2)).setCell (p := ⟨ga, i * 5 + 1, none⟩) rfl (.int .i64 x.number)).setCell (p := ⟨ga, i * 5 + 2, none⟩) rfl (.int .i64 x.start)).setCell (p := ⟨ga, i * 5 + 3, none⟩) rfl (.int .i64 t)).setCell (p := ⟨ga, i * 5 + 4, none⟩) rfl (.slice Bp m d)) (((((C.set_ (i * 5) (.int .i64 2)).set_ (i * 5 + 1) (.int .i64 x.number)).set_ (i * 5 + 2) (.int .i64 x.start)).set_ (i * 5 + 3) (.int .i64 t)).set_ (i * 5 + 4) (.slice Bp m d)) (by simp only [List.length_set]) (by
    intro z hz
    have hz5 : z < 5 := hz
    have hlt0 : i * 5 < cur.length := by omega
    have hlt1 : i * 5 + 1 < cur.length := by omega
    have hlt2 : i * 5 + 2 < cur.length := by omega
    have hlt3 : i * 5 + 3 < cur.length := by omega
    have hlt4 : i * 5 + 4 < cur.length := by omega
    match z, hz5 with
    | 0, _ => exact ((List.getElem?_set_ne (show i * 5 + 4 ≠ i * 5 + 0 by omega)).trans ((List.getElem?_set_ne (show i * 5 + 3 ≠ i * 5 + 0 by omega)).trans ((List.getElem?_set_ne (show i * 5 + 2 ≠ i * 5 + 0 by omega)).trans ((List.getElem?_set_ne (show i * 5 + 1 ≠ i * 5 + 0 by omega)).trans (List.getElem?_set_self (by (try simp only [List.length_set]); exact hlt0))))))
    | 1, _ => exact ((List.getElem?_set_ne (show i * 5 + 4 ≠ i * 5 + 1 by omega)).trans ((List.getElem?_set_ne (show i * 5 + 3 ≠ i * 5 + 1 by omega)).trans ((List.getElem?_set_ne (show i * 5 + 2 ≠ i * 5 + 1 by omega)).trans (List.getElem?_set_self (by (try simp only [List.length_set]); exact hlt1)))))
    | 2, _ => exact ((List.getElem?_set_ne (show i * 5 + 4 ≠ i * 5 + 2 by omega)).trans ((List.getElem?_set_ne (show i * 5 + 3 ≠ i * 5 + 2 by omega)).trans (List.getElem?_set_self (by (try simp only [List.length_set]); exact hlt2))))
    | 3, _ => exact ((List.getElem?_set_ne (show i * 5 + 4 ≠ i * 5 + 3 by omega)).trans (List.getElem?_set_self (by (try simp only [List.length_set]); exact hlt3)))
    | 4, _ => exact (List.getElem?_set_self (by (try simp only [List.length_set]); exact hlt4))) (fun z hz => by
    have hz5 : ¬ (i * 5 ≤ z ∧ z < i * 5 + 5) := hz
    rw [List.getElem?_set_ne (by omega), List.getElem?_set_ne (by omega), List.getElem?_set_ne (by omega), List.getElem?_set_ne (by omega), List.getElem?_set_ne (by omega)]) HS7
  have CF := (((((C.set_ (i * 5) (.int .i64 2)).set_ (i * 5 + 1) (.int .i64 x.number)).set_ (i * 5 + 2) (.int .i64 x.start)).set_ (i * 5 + 3) (.int .i64 t)).set_ (i * 5 + 4) (.slice Bp m d))
  have EF := ((((((Only.refl (fun b => b = ga) wl).setCell (p := ⟨ga, i * 5, none⟩) rfl (.int .i64 2)).setCell (p := ⟨ga, i * 5 + 1, none⟩) rfl (.int .i64 x.number)).setCell (p := ⟨ga, i * 5 + 2, none⟩) rfl (.int .i64 x.start)).setCell (p := ⟨ga, i * 5 + 3, none⟩) rfl (.int .i64 t)).setCell (p := ⟨ga, i * 5 + 4, none⟩) rfl (.slice Bp m d))
  have OF := O.only EF (fun h => by omega)
  have ZF := Z.only EF (fun h => by omega)
  have KF := KB.trans (EF.below (fun b hb => by omega) KB.size)
  have zs := EF.size
  have gc := Ge.cell
  have oc := O.cell
  have qc := Q.cell
  have cf := C.frozen
  have e0 := (C.cell (i * 5)).trans hc0
  have e1 := (C.cell (i * 5 + 1)).trans hc1
  have e2 := (C.cell (i * 5 + 2)).trans hc2
  have e3 := (C.cell (i * 5 + 3)).trans hc3
  have e4 := (C.cell (i * 5 + 4)).trans hc4
  go_upto_region 19 with fail
  clear gc oc qc cf e0 e1 e2 e3 e4 CF EF
  generalize ((((wl.setCell _ _).setCell _ _).setCell _ _).setCell _ _).setCell _ _ = wm at *
  have oc := OF.cell
  have zc := ZF.cell
  have zf := ZF.frozen
  go_wp2_with fail
  have ZG := (((ZF.set_ 0 (.int .i64 t)).set_ 1 (.bool cl)).set_ 2 (.slice (some ⟨ga, 0, none⟩) n c1))
  have EG := ((((Only.refl (fun b => b = w.heap.size + 2) wm).setCell (p := ⟨w.heap.size + 2, 0, none⟩) rfl (.int .i64 t)).setCell (p := ⟨w.heap.size + 2, 1, none⟩) rfl (.bool cl)).setCell (p := ⟨w.heap.size + 2, 2, none⟩) rfl (.slice (some ⟨ga, 0, none⟩) n c1))
  clear zc zf
  have zc := ZG.cell
  have zh := EG.size
  refine bodyPost_ret (v := .tuple #[.agg #[t, cl, .slice (some ⟨ga, 0, none⟩) n c1], .bool okb]) (by simp [results, Tryz.results168, go_sem, zc]) rfl ?_
  have MG : MineN entrantSh wm (fun b => w1.heap.size ≤ b ∧ b ≠ go ∧ b ≠ ge) 108 188 (some ⟨ga, 0, none⟩) n c1 (xs.set i { x with state := 2, finish := t }) := ⟨_, by rw [List.map_set, hrs], MRx⟩
  exact ⟨t, cl, some ⟨ga, 0, none⟩, n, c1, xs.set i { x with state := 2, finish := t }, by rw [HB.out], (MG.only EG (fun b h1 (h2 : b = w.heap.size + 2) => by omega)).inn2 (fun b hb => by omega), HRS.out, KF.trans (EG.below (fun b hb => by omega) (by omega))⟩
 have f4 : (k == 4) = false := beq_eq_false_iff_ne.2 k4
 have N4 := Lib.hid k4
 have K5 := Lib.hid (show k = 5 by omega)
 have hkk : k = 5 := K5.out
 obtain ⟨okb, hokb⟩ : ∃ okb, (x.state == 1) = okb := ⟨_, rfl⟩
 have V0 := Lib.hid (hv0 (by omega))
 clear k2 k3 k4 hkk hk2 hk5
 have HV := Lib.hid (show jb6 t (i : Int) x k v = (if okb = true then some { x with state := 3 } else none) from by
  unfold jb6
  cases okb
  ·rw [if_neg N2.out, if_neg (fun h => absurd (beq_iff_eq.2 h.1) (by rw [hokb]; exact Bool.false_ne_true))]
   rfl
  ·rw [if_neg N2.out, if_pos ⟨eq_of_beq hokb, .inr V0.out⟩, if_neg N3.out, if_neg N4.out, if_pos K5.out]
   rfl)
 have HB := Lib.hid (show (jba ⟨t, cl, xs⟩ k (i : Int) v).isSome = okb by rw [HK.out, HV.out]; cases okb <;> rfl)
 have HRS := Lib.hid (show ∀ r', jba ⟨t, cl, xs⟩ k (i : Int) v = some r' → r' = ⟨t, cl, xs.set i { x with state := 3 }⟩ from fun r' h => by
  rw [HK.out, HV.out] at h
  cases okb
  ·cases h
  ·injection h with h
   exact h.symm)
 clear hv0 hcv
 go_upto_region 18 with fail
 clear gc gf qc pc
 have EL := ((Only.refl (fun b => b = ge) wi).setCell (p := ⟨ge, 0, none⟩) rfl (.int .i64 3))
 have GL : Blk (wi.setCell ⟨ge, 0, none⟩ (.int .i64 3)) ge 108 [.int .i64 3, .int .i64 x.number, .int .i64 x.start, .int .i64 x.finish, .slice Bp m d] := (Ge.set_ (0) (.int .i64 3))
 replace C := C.only EL (fun h => by omega)
 replace O := O.only EL (fun h => by omega)
 replace Q := Q.only EL (fun h => by omega)
 replace Z := Z.only EL (fun h => by omega)
 replace KB := KB.trans (EL.below (fun b hb => by omega) KB.size)
 have zl := EL.size
 clear Ge
 have Ge := GL
 clear GL
 generalize wi.setCell _ _ = wl at *
 clear hokb
 have HR7 : Mine wl (jaj Bp) 188 2 Bp m d (List.flatMap Punch.enc x.punches) := by
  have h := (MRi.inners.each rs[i] (List.getElem_mem hk)).exact_
  rw [hri] at h
  exact h.only EL (fun b h1 (h2 : b = ge) => by
   have h3 := (MRi.inners.each rs[i] (List.getElem_mem hk)).top b
   rw [hri] at h3
   exact (h3 h1).2.2 h2)
 have HQ7 : ∀ b, jaj Bp b → jaj Bp b ∨ wi.heap.size ≤ b := fun b hb => .inl hb
 have HS7 : ∀ b, jaj Bp b → (w1.heap.size ≤ b ∧ b ≠ go ∧ b ≠ ge) := fun b hb => by
  have h := (MRi.inners.each rs[i] (List.getElem_mem hk)).top b
  rw [hri] at h
  exact h hb
 have H7 : Only (fun b => jaj Bp b ∨ b = ge) wi wl := EL.mono (fun b hb => .inr hb)
 have MRx := MRi.regrowD (y := ({ x with state := 3 } : Entrant)) (D := fun b => jaj Bp b ∨ b = ge) (A7 := Bp) (m7 := m) (c7 := d) (w8 := (((((wl.setCell ⟨ga, i * 5, none⟩ (.int .i64 3)).setCell ⟨ga, i * 5 + 1, none⟩ (.int .i64 x.number)).setCell ⟨ga, i * 5 + 2, none⟩ (.int .i64 x.start)).setCell ⟨ga, i * 5 + 3, none⟩ (.int .i64 x.finish)).setCell ⟨ga, i * 5 + 4, none⟩ (.slice Bp m d))) (cs' := (((((cur.set (i * 5) (.int .i64 3)).set (i * 5 + 1) (.int .i64 x.number)).set (i * 5 + 2) (.int .i64 x.start)).set (i * 5 + 3) (.int .i64 x.finish)).set (i * 5 + 4) (.slice Bp m d))) Ci hk H7 (fun b hb => by
  rcases hb with hb | hb
  ·left; rw [hri]; exact hb
  ·right; exact ⟨by omega, fun r hr h => ((MRi.inners.each r hr).top b h).2.2 hb⟩) HR7 (by rw [hri]; exact HQ7) ((((((Only.refl (fun b => b = ga) wl).setCell (p := ⟨ga, i * 5, none⟩) rfl (.int .i64 3)).setCell (p := ⟨ga, i * 5 + 1, none⟩) rfl (.int .i64 x.number)).setCell (p := ⟨ga, i * 5 + 2, none⟩) rfl (.int .i64 x.start)).setCell (p := ⟨ga, i * 5 + 3, none⟩) rfl (.int .i64 x.finish)).setCell (p := ⟨ga, i * 5 + 4, none⟩) rfl (.slice Bp m d)) (((((C.set_ (i * 5) (.int .i64 3)).set_ (i * 5 + 1) (.int .i64 x.number)).set_ (i * 5 + 2) (.int .i64 x.start)).set_ (i * 5 + 3) (.int .i64 x.finish)).set_ (i * 5 + 4) (.slice Bp m d)) (by simp only [List.length_set]) (by
   intro z hz
   have hz5 : z < 5 := hz
   have hlt0 : i * 5 < cur.length := by omega
   have hlt1 : i * 5 + 1 < cur.length := by omega
   have hlt2 : i * 5 + 2 < cur.length := by omega
   have hlt3 : i * 5 + 3 < cur.length := by omega
   have hlt4 : i * 5 + 4 < cur.length := by omega
   match z, hz5 with
   | 0, _ => exact ((List.getElem?_set_ne (show i * 5 + 4 ≠ i * 5 + 0 by omega)).trans ((List.getElem?_set_ne (show i * 5 + 3 ≠ i * 5 + 0 by omega)).trans ((List.getElem?_set_ne (show i * 5 + 2 ≠ i * 5 + 0 by omega)).trans ((List.getElem?_set_ne (show i * 5 + 1 ≠ i * 5 + 0 by omega)).trans (List.getElem?_set_self (by (try simp only [List.length_set]); exact hlt0))))))
   | 1, _ => exact ((List.getElem?_set_ne (show i * 5 + 4 ≠ i * 5 + 1 by omega)).trans ((List.getElem?_set_ne (show i * 5 + 3 ≠ i * 5 + 1 by omega)).trans ((List.getElem?_set_ne (show i * 5 + 2 ≠ i * 5 + 1 by omega)).trans (List.getElem?_set_self (by (try simp only [List.length_set]); exact hlt1)))))
   | 2, _ => exact ((List.getElem?_set_ne (show i * 5 + 4 ≠ i * 5 + 2 by omega)).trans ((List.getElem?_set_ne (show i * 5 + 3 ≠ i * 5 + 2 by omega)).trans (List.getElem?_set_self (by (try simp only [List.length_set]); exact hlt2))))
   | 3, _ => exact ((List.getElem?_set_ne (show i * 5 + 4 ≠ i * 5 + 3 by omega)).trans (List.getElem?_set_self (by (try simp only [List.length_set]); exact hlt3)))
   | 4, _ => exact (List.getElem?_set_self (by (try simp only [List.length_set]); exact hlt4))) (fun z hz => by
   have hz5 : ¬ (i * 5 ≤ z ∧ z < i * 5 + 5) := hz
   rw [List.getElem?_set_ne (by omega), List.getElem?_set_ne (by omega), List.getElem?_set_ne (by omega), List.getElem?_set_ne (by omega), List.getElem?_set_ne (by omega)]) HS7
 have CF := (((((C.set_ (i * 5) (.int .i64 3)).set_ (i * 5 + 1) (.int .i64 x.number)).set_ (i * 5 + 2) (.int .i64 x.start)).set_ (i * 5 + 3) (.int .i64 x.finish)).set_ (i * 5 + 4) (.slice Bp m d))
 have EF := ((((((Only.refl (fun b => b = ga) wl).setCell (p := ⟨ga, i * 5, none⟩) rfl (.int .i64 3)).setCell (p := ⟨ga, i * 5 + 1, none⟩) rfl (.int .i64 x.number)).setCell (p := ⟨ga, i * 5 + 2, none⟩) rfl (.int .i64 x.start)).setCell (p := ⟨ga, i * 5 + 3, none⟩) rfl (.int .i64 x.finish)).setCell (p := ⟨ga, i * 5 + 4, none⟩) rfl (.slice Bp m d))
 have OF := O.only EF (fun h => by omega)
 have ZF := Z.only EF (fun h => by omega)
 have KF := KB.trans (EF.below (fun b hb => by omega) KB.size)
 have zs := EF.size
 have gc := Ge.cell
 have oc := O.cell
 have qc := Q.cell
 have cf := C.frozen
 have e0 := (C.cell (i * 5)).trans hc0
 have e1 := (C.cell (i * 5 + 1)).trans hc1
 have e2 := (C.cell (i * 5 + 2)).trans hc2
 have e3 := (C.cell (i * 5 + 3)).trans hc3
 have e4 := (C.cell (i * 5 + 4)).trans hc4
 go_upto_region 19 with fail
 clear gc oc qc cf e0 e1 e2 e3 e4 CF EF
 generalize ((((wl.setCell _ _).setCell _ _).setCell _ _).setCell _ _).setCell _ _ = wm at *
 have oc := OF.cell
 have zc := ZF.cell
 have zf := ZF.frozen
 go_wp2_with fail
 have ZG := (((ZF.set_ 0 (.int .i64 t)).set_ 1 (.bool cl)).set_ 2 (.slice (some ⟨ga, 0, none⟩) n c1))
 have EG := ((((Only.refl (fun b => b = w.heap.size + 2) wm).setCell (p := ⟨w.heap.size + 2, 0, none⟩) rfl (.int .i64 t)).setCell (p := ⟨w.heap.size + 2, 1, none⟩) rfl (.bool cl)).setCell (p := ⟨w.heap.size + 2, 2, none⟩) rfl (.slice (some ⟨ga, 0, none⟩) n c1))
 clear zc zf
 have zc := ZG.cell
 have zh := EG.size
 refine bodyPost_ret (v := .tuple #[.agg #[t, cl, .slice (some ⟨ga, 0, none⟩) n c1], .bool okb]) (by simp [results, Tryz.results168, go_sem, zc]) rfl ?_
 have MG : MineN entrantSh wm (fun b => w1.heap.size ≤ b ∧ b ≠ go ∧ b ≠ ge) 108 188 (some ⟨ga, 0, none⟩) n c1 (xs.set i { x with state := 3 }) := ⟨_, by rw [List.map_set, hrs], MRx⟩
 exact ⟨t, cl, some ⟨ga, 0, none⟩, n, c1, xs.set i { x with state := 3 }, by rw [HB.out], (MG.only EG (fun b h1 (h2 : b = w.heap.size + 2) => by omega)).inn2 (fun b hb => by omega), HRS.out, KF.trans (EG.below (fun b hb => by omega) (by omega))⟩
theorem jqi {t : Int} {cl : Bool} {xs : List Entrant} {n : Nat} {k e v : Int} (hl : xs.length = n) (h : jcq n k e v = false) : jba ⟨t, cl, xs⟩ k e v = none := by
 subst hl
 unfold jcq inB at h
 unfold jba inB
 by_cases h1 : k = 1
 ·rw [if_pos h1] at h ⊢
  rw [if_neg]
  rintro ⟨-, a, b⟩
  simp only [Bool.and_eq_true, decide_eq_true_eq] at b
  rw [decide_eq_true a, decide_eq_true b.1] at h
  cases h
 rw [if_neg h1] at h ⊢
 by_cases h6 : k = 6
 ·rw [if_pos h6] at h ⊢
  rw [if_neg]
  rintro ⟨-, a, b, -⟩
  rw [decide_eq_true a, decide_eq_true b] at h
  cases h
 rw [if_neg h6] at h ⊢
 unfold jbk
 by_cases hr : 0 ≤ e ∧ e < (xs.length : Int)
 rotate_left 1
 ·rw [if_neg (by exact hr)]
 rw [if_pos (by exact hr)]
 obtain ⟨i, rfl⟩ : ∃ i : Nat, e = (i : Int) := ⟨e.toNat, by omega⟩
 have hi : i < xs.length := by omega
 simp only [Int.toNat_natCast, List.getElem?_eq_getElem hi]
 rw [show decide (0 ≤ (i : Int)) = true from decide_eq_true (by omega), show decide ((i : Int) ≤ (xs.length : Int) - 1) = true from decide_eq_true (by omega)] at h
 suffices jb6 t (i : Int) xs[i] k v = none by rw [this]; rfl
 unfold jb6
 by_cases h3 : k = 3
 ·rw [if_pos h3] at h
  simp only [Bool.and_self, Bool.true_and] at h
  rw [if_neg (by omega)]
  by_cases hs : xs[i].state = 1 ∧ (k = 3 ∨ v = 0)
  ·rw [if_pos hs, if_pos h3, if_neg (fun g => by rw [g.1] at h; cases h)]
  ·rw [if_neg hs]
 rw [if_neg h3] at h
 simp only [Bool.and_self, Bool.true_and] at h
 by_cases hk : 2 ≤ k ∧ k ≤ 5
 ·rw [decide_eq_true hk.1, decide_eq_true hk.2] at h
  simp only [Bool.and_self, Bool.true_and, decide_eq_false_iff_not] at h
  by_cases h2 : k = 2
  ·rw [if_pos h2, if_neg (fun g => h g.2)]
  ·rw [if_neg h2, if_neg (fun g => g.2.elim h3 h)]
 ·rw [if_neg (by omega)]
  by_cases hs : xs[i].state = 1 ∧ (k = 3 ∨ v = 0)
  ·rw [if_pos hs, if_neg h3, if_neg (by omega), if_neg (by omega)]
  ·rw [if_neg hs]
theorem jhi (t : Int) (cl : Bool) (A : Option Addr) (n c : Nat) (xs : List Entrant) (k e v : Int) (w : World) (hx : SeesN entrantSh w 0 A n xs) (hn : n ≤ 1048576) (hi : ∀ x ∈ xs, x.cnt ≤ 1048576) :
  Calls Tryz.prog 128 #[.agg #[t, cl, .slice A n c], .agg #[k, e, v]] w (jkv w (jdh ⟨t, cl, xs⟩ k e v)) := by
 have HLN := Lib.hid hx.count
 have KB := nB3 w (.cells #[t, cl, .slice A n c] 32) (.cells #[k, e, v] 124) (.cells #[.int .i64 0, false, .slice none 0 0] 32)
 have P := nPb w [t, cl, .slice A n c] 32 (.cells #[k, e, v] 124) (.cells #[.int .i64 0, false, .slice none 0 0] 32)
 have Q := nQa w (.cells #[t, cl, .slice A n c] 32) [k, e, v] 124 (.cells #[.int .i64 0, false, .slice none 0 0] 32)
 have Z := nR w (.cells #[t, cl, .slice A n c] 32) (.cells #[k, e, v] 124) [.int .i64 0, false, .slice none 0 0] 32
 have z0 := nZ3 w (.cells #[t, cl, .slice A n c] 32) (.cells #[k, e, v] 124) (.cells #[.int .i64 0, false, .slice none 0 0] 32)
 go_enter Tryz.func128, Tryz.ntmps128
 go_wp2_with fail
 generalize ((w.alloc _).alloc _).alloc _ = w1 at *
 have pc := P.cell
 have qc := Q.cell
 go_wp2_with fail
 refine (jcy t cl A n c 0 xs w1 (hx.below KB (Nat.le_refl _)) hn hi).mono ?_
 rintro e9 w2 ⟨rfl, b⟩
 replace KB := jaa KB b
 have zz := b.size
 replace P := P.next b
 replace Q := Q.next b
 replace Z := Z.next b
 clear b pc qc
 obtain ⟨ok, hok⟩ : ∃ ok, jbf t cl xs = ok := ⟨_, rfl⟩
 have HOK := Lib.hid hok
 rw [hok]
 clear hok
 have zc := Z.cell
 have zf := Z.frozen
 have pc := P.cell
 have qc := Q.cell
 cases ok
 ·have HR := Lib.hid (show jdh ⟨t, cl, xs⟩ k e v = none by unfold jdh ja0; rw [show jbf (⟨t, cl, xs⟩ : RaceV).clock (⟨t, cl, xs⟩ : RaceV).closed (⟨t, cl, xs⟩ : RaceV).field = false from HOK.out]; rfl)
  go_wp2_with fail
  have ZG := (((Z.set_ 0 (.int .i64 0)).set_ 1 (.bool false)).set_ 2 (.slice none 0 0))
  have EG := ((((Only.refl (fun b => b = w.heap.size + 2) w2).setCell (p := ⟨w.heap.size + 2, 0, none⟩) rfl (.int .i64 0)).setCell (p := ⟨w.heap.size + 2, 1, none⟩) rfl (.bool false)).setCell (p := ⟨w.heap.size + 2, 2, none⟩) rfl (.slice none 0 0))
  clear zc zf
  have zc := ZG.cell
  refine bodyPost_ret (v := .tuple #[.agg #[.int .i64 0, false, .slice none 0 0], .bool false]) (by simp [results, Tryz.results128, go_sem, zc]) rfl ?_
  rw [HR.out]
  exact ⟨none, 0, rfl, MineN.nil _ _ _ _, KB.trans (EG.below (fun b hb => by omega) (by have := KB.size; omega))⟩
 obtain ⟨ht0, ht, hn1, hn8, hen⟩ := jam HOK.out
 have hlen := HLN.out
 have HG := Lib.hid (show jdh ⟨t, cl, xs⟩ k e v = jba ⟨t, cl, xs⟩ k e v by unfold jdh ja0; rw [show jbf (⟨t, cl, xs⟩ : RaceV).clock (⟨t, cl, xs⟩ : RaceV).closed (⟨t, cl, xs⟩ : RaceV).field = true from HOK.out]; rfl)
 have hp : ∀ x ∈ xs, x.punches.length ≤ 12 := fun x hx => by
  obtain ⟨i, hi, rfl⟩ := List.getElem_of_mem hx
  exact jdy (hen i hi)
 have hnn1 : 1 ≤ n := by omega
 have hnn8 : n ≤ 8 := by omega
 clear hen hlen
 go_wp2_with fail
 refine (jnc t cl A n c k e v w2 hnn1 hn).mono ?_
 rintro e9 w3 ⟨rfl, b⟩
 replace KB := jaa KB b
 have zz3 := b.size
 replace P := P.next b
 replace Q := Q.next b
 replace Z := Z.next b
 clear b pc qc zc zf
 have zc := Z.cell
 have zf := Z.frozen
 have pc := P.cell
 have qc := Q.cell
 obtain ⟨sb, hsb⟩ : ∃ sb, jcq n k e v = sb := ⟨_, rfl⟩
 have HSB := Lib.hid hsb
 rw [hsb]
 clear hsb
 cases sb
 ·have HR := Lib.hid (show jdh ⟨t, cl, xs⟩ k e v = none by rw [HG.out]; exact jqi HLN.out HSB.out)
  go_wp2_with fail
  have ZG := (((Z.set_ 0 (.int .i64 0)).set_ 1 (.bool false)).set_ 2 (.slice none 0 0))
  have EG := ((((Only.refl (fun b => b = w.heap.size + 2) w3).setCell (p := ⟨w.heap.size + 2, 0, none⟩) rfl (.int .i64 0)).setCell (p := ⟨w.heap.size + 2, 1, none⟩) rfl (.bool false)).setCell (p := ⟨w.heap.size + 2, 2, none⟩) rfl (.slice none 0 0))
  clear zc zf
  have zc := ZG.cell
  refine bodyPost_ret (v := .tuple #[.agg #[.int .i64 0, false, .slice none 0 0], .bool false]) (by simp [results, Tryz.results128, go_sem, zc]) rfl ?_
  rw [HR.out]
  exact ⟨none, 0, rfl, MineN.nil _ _ _ _, KB.trans (EG.below (fun b hb => by omega) (by have := KB.size; omega))⟩
 go_wp2_with fail
 refine (jm8 t cl A n c xs k e v w3 (hx.below KB (Nat.le_refl _)) hnn1 hnn8 hp ht0 ht HSB.out).mono ?_
 obtain ⟨o, ho⟩ : ∃ o, jba ⟨t, cl, xs⟩ k e v = o := ⟨_, rfl⟩
 have HR := Lib.hid (HG.out.trans ho)
 rw [ho]
 clear ho HG
 rintro e9 w4 ⟨t2, b2, A2, n2, c2, xs2, rfl, M2, h2, b⟩
 replace KB := jaa KB b
 have zz4 := b.size
 replace Z := Z.next b
 clear b P Q pc qc zc zf
 have U := nB w4 (.cells #[t2, b2, .slice A2 n2 c2] 32)
 have O := nP w4 [t2, b2, .slice A2 n2 c2] 32
 replace KB := jaa KB U
 have zu := U.size
 replace Z := Z.next U
 replace M2 := M2.next U
 clear U
 go_upto_region 4 with fail
 generalize w4.alloc _ = w2 at *
 have zc := Z.cell
 have zf := Z.frozen
 cases o
 ·go_wp2_with fail
  have ZG := (((Z.set_ 0 (.int .i64 0)).set_ 1 (.bool false)).set_ 2 (.slice none 0 0))
  have EG := ((((Only.refl (fun b => b = w.heap.size + 2) w2).setCell (p := ⟨w.heap.size + 2, 0, none⟩) rfl (.int .i64 0)).setCell (p := ⟨w.heap.size + 2, 1, none⟩) rfl (.bool false)).setCell (p := ⟨w.heap.size + 2, 2, none⟩) rfl (.slice none 0 0))
  clear zc zf
  have zc := ZG.cell
  refine bodyPost_ret (v := .tuple #[.agg #[.int .i64 0, false, .slice none 0 0], .bool false]) (by simp [results, Tryz.results128, go_sem, zc]) rfl ?_
  rw [HR.out]
  exact ⟨none, 0, rfl, MineN.nil _ _ _ _, KB.trans (EG.below (fun b hb => by omega) (by have := KB.size; omega))⟩
 ·rename_i r'
  obtain rfl := h2 r' rfl
  obtain rfl := M2.count
  have oc := O.cell
  go_wp2_with fail
  have ZG := (((Z.set_ 0 (.int .i64 t2)).set_ 1 (.bool b2)).set_ 2 (.slice A2 xs2.length c2))
  have EG := ((((Only.refl (fun b => b = w.heap.size + 2) w2).setCell (p := ⟨w.heap.size + 2, 0, none⟩) rfl (.int .i64 t2)).setCell (p := ⟨w.heap.size + 2, 1, none⟩) rfl (.bool b2)).setCell (p := ⟨w.heap.size + 2, 2, none⟩) rfl (.slice A2 xs2.length c2))
  clear zc zf
  have zc := ZG.cell
  have zh := EG.size
  refine bodyPost_ret (v := .tuple #[.agg #[t2, b2, .slice A2 xs2.length c2], .bool true]) (by simp [results, Tryz.results128, go_sem, zc]) rfl ?_
  rw [HR.out]
  exact ⟨A2, c2, rfl, (M2.only EG (fun b h1 (h2 : b = w.heap.size + 2) => by have := h1.1; omega)).inn2 (fun b hb => by have := hb.1; omega), KB.trans (EG.below (fun b hb => by omega) (by omega))⟩
end Go.Proofs.YtflpcdffmpfdpaaGreatDoor
